/- headcountref06.Split, Check: walks (printed by a program of mine). -/
/- headcountlaw06.spoil: a walk (printed by a program of mine). -/
/- RegionE: ways that meet: what stands behind so many operations is said once. No program in sight. -/
/- Laws for MassTells: walks (printed by a program of mine). -/
/- mass.Sum: a walk (printed by a program of mine). -/
/- Lists of masses that a call owns: appended to, stored in; no function in sight (printed by a program of mine). -/
/- Lists of copies: no program in sight but in the contracts joined (printed by a program of mine). -/
/- What every statement's row asks beside its walk: arguments that read as data hold what our predicates say; behind the call they read as before. -/
import Derived.Test.YtbbnbgllgomolaaDoorBh13
import Derived.Test.YtbbnbgllgomolaaDoorBh12
import Derived.Test.YtbbnbgllgomolaaDoorBh03
import Derived.Test.YtbbnbgllgomolaaDoorBh09
import Derived.Test.YtbbnbgllgomolaaDoorBh07
import Derived.Test.YtbbnbgllgomolaaDoorBh06
import Derived.ProofKit
import Derived.Test.YtbbnbgllgomolaaDoorBh01
namespace Go.Proofs.YtbbnbgllgomolaaDoor
open Go.RowKit
namespace Ma
open Dp Dy
theorem halfX_two {s : Bool} {xs : List Int} {e : Int} {r : Dn} {q : Int} (h1 : MayD s xs e) (h : halfX s xs e = (r, q)) : q = 0 ∨ q = 10 := by
  rw [halfX_ok h1] at h
  rcases half_cases (dn s xs e) with k | k
  · rw [h] at k
    exact .inl k
  · rw [h] at k
    injection k with _ k
    exact .inr k
/-- Each row lies in one of two ranges. -/
def TwoR (w : World) (lo hi lo' hi' : Nat) (m : Mv) : Prop := ∀ x, x < 4 → Ints w lo hi .u32 (m.get x).A (m.get x).n (m.get x).xs ∨ Ints w lo' hi' .u32 (m.get x).A (m.get x).n (m.get x).xs
theorem TwoR.below {w w' : World} {lo hi lo' hi' B : Nat} {m : Mv} (h : TwoR w lo hi lo' hi' m) (hb : Below B w w') (h1 : hi ≤ B) (h2 : hi' ≤ B) : TwoR w' lo hi lo' hi' m := fun x hx => (h x hx).imp (fun k => k.below hb h1) (fun k => k.below hb h2)
theorem TwoR.rows {w : World} {lo hi lo' hi' : Nat} {m : Mv} (h : TwoR w lo hi lo' hi' m) (h1 : hi ≤ w.heap.size) (h2 : hi' ≤ w.heap.size) : MRows w 0 w.heap.size m :=
  have k : ∀ x, x < 4 → Ints w 0 w.heap.size .u32 (m.get x).A (m.get x).n (m.get x).xs := fun x hx => (h x hx).elim (fun k => k.more (Nat.zero_le _) h1) (fun k => k.more (Nat.zero_le _) h2)
  ⟨k 0 (by decide), k 1 (by decide), k 2 (by decide), k 3 (by decide)⟩
set_option maxHeartbeats 25600000 in
set_option maxRecDepth 100000 in
/-- What the document keeps and sends: no new memory but the halves. -/
theorem RSplit_num (w : World) (m : Mv) {lo hi : Nat} (hL : MRows w lo hi m) (hhi : hi ≤ w.heap.size) (kR sR : Nat → Dn) (code : Int) (hs : splitM m = ((kR, sR), code)) :
    Calls Tryd.prog 40 #[.agg #[.bool m.S.s, .slice m.S.A m.S.n m.S.c, .int .i64 m.S.e, .bool m.W.s, .slice m.W.A m.W.n m.W.c, .int .i64 m.W.e, .bool m.C.s, .slice m.C.A m.C.n m.C.c, .int .i64 m.C.e, .bool m.A.s, .slice m.A.A m.A.n m.A.c, .int .i64 m.A.e]] w fun e w' => ∃ k s : Mv, e = .returned (.tuple #[.agg #[.bool k.S.s, .slice k.S.A k.S.n k.S.c, .int .i64 k.S.e, .bool k.W.s, .slice k.W.A k.W.n k.W.c, .int .i64 k.W.e, .bool k.C.s, .slice k.C.A k.C.n k.C.c, .int .i64 k.C.e, .bool k.A.s, .slice k.A.A k.A.n k.A.c, .int .i64 k.A.e], .agg #[.bool s.S.s, .slice s.S.A s.S.n s.S.c, .int .i64 s.S.e, .bool s.W.s, .slice s.W.A s.W.n s.W.c, .int .i64 s.W.e, .bool s.C.s, .slice s.C.A s.C.n s.C.c, .int .i64 s.C.e, .bool s.A.s, .slice s.A.A s.A.n s.A.c, .int .i64 s.A.e], .int .i64 code]) ∧ Below w.heap.size w w' ∧ IsM kR k ∧ IsM sR s ∧ TwoR w' lo hi w.heap.size w'.heap.size k ∧ MRows w' w.heap.size w'.heap.size s := by
  have hR : MRows w 0 w.heap.size m := hL.more (Nat.zero_le _) hhi
  generalize hw1 : ((w.alloc (.cells #[.bool m.S.s, .slice m.S.A m.S.n m.S.c, .int .i64 m.S.e, .bool m.W.s, .slice m.W.A m.W.n m.W.c, .int .i64 m.W.e, .bool m.C.s, .slice m.C.A m.C.n m.C.c, .int .i64 m.C.e, .bool m.A.s, .slice m.A.A m.A.n m.A.c, .int .i64 m.A.e] 26)).alloc (.cells #[.bool false, .slice none 0 0, .int .i64 0, .bool false, .slice none 0 0, .int .i64 0, .bool false, .slice none 0 0, .int .i64 0, .bool false, .slice none 0 0, .int .i64 0] 26)).alloc (.cells #[.bool false, .slice none 0 0, .int .i64 0, .bool false, .slice none 0 0, .int .i64 0, .bool false, .slice none 0 0, .int .i64 0, .bool false, .slice none 0 0, .int .i64 0] 26) = w1
  obtain ⟨hM, hZ, hY, hBL, lo1, hi1⟩ := boxes3 w _ _ _ hw1
  replace hM : MBox w1 w.heap.size m := hM
  replace hZ : MBox w1 (w.heap.size + 1) ZM := hZ
  replace hY : MBox w1 (w.heap.size + 1 + 1) ZM := hY
  replace hBL : Below w.heap.size w w1 := hBL
  have Rm : MRows w1 0 w1.heap.size m := hR.on hBL
  have HR := Lib.hid hs
  clear hs
  obtain ⟨g, hg⟩ : ∃ g, mayMB m = g := ⟨_, rfl⟩
  have HG := Lib.hid hg
  clear hg
  go_enter Tryd.func40, Tryd.ntmps40
  obtain ⟨⟨q_1_0, q_1_1, q_1_2, q_1_3, q_1_4, q_1_5, q_1_6, q_1_7, q_1_8, q_1_9, q_1_10, q_1_11⟩, q_1f⟩ := MBox.cells hM
  go_wp2_with fail
  refine (RMay_any w1 m Rm g HG.out).mono ?_
  rintro e' w_2 ⟨rfl, hB⟩
  clear q_1_0 q_1_1 q_1_2 q_1_3 q_1_4 q_1_5 q_1_6 q_1_7 q_1_8 q_1_9 q_1_10 q_1_11 q_1f
  have lw_2 : w1.heap.size ≤ w_2.heap.size := hB.size
  replace hM := box_on hM hB (by omega)
  replace hZ := box_on hZ hB (by omega)
  replace hY := box_on hY hB (by omega)
  replace Rm := MRows.on Rm hB
  replace hBL := hBL.trans (hB.mono (by omega))
  try clear hw1
  clear hB
  cases g
  · skip
    have hcode : ((zR, zR), (8 : Int)) = ((kR, sR), code) := by
      rw [← HR.out]
      unfold splitM
      rw [if_neg fun k => ?_]
      have := (mayMB_iff m).2 k
      rw [HG.out] at this
      cases this
    injection hcode with h1 h2
    injection h1 with h1 h3
    subst h1 h2 h3
    obtain ⟨⟨q_3_0, q_3_1, q_3_2, q_3_3, q_3_4, q_3_5, q_3_6, q_3_7, q_3_8, q_3_9, q_3_10, q_3_11⟩, q_3f⟩ := MBox.cells hZ
    obtain ⟨⟨q_4_0, q_4_1, q_4_2, q_4_3, q_4_4, q_4_5, q_4_6, q_4_7, q_4_8, q_4_9, q_4_10, q_4_11⟩, q_4f⟩ := MBox.cells hY
    go_wp2
    obtain ⟨U1, M1, hc1, hM1, hX1, hb1, hf1, _, _⟩ := zero_to hZ
    rw [hc1]
    obtain ⟨U, M, hc2, hMe, hX2, hb2, hf2, _, _⟩ := zero_to (show MBox U1 (w.heap.size + 1 + 1) ZM from (hf1 _ (by omega)).trans hY)
    rw [hc2]
    replace hX1 : MBox U (w.heap.size + 1) M := by rw [hMe, ← hM1]; exact (hf2 _ (by omega)).trans hX1
    have hQ := hb2 _ _ (hb1 _ _ hBL (by omega)) (by omega)
    clear q_3_0 q_3_1 q_3_2 q_3_3 q_3_4 q_3_5 q_3_6 q_3_7 q_3_8 q_3_9 q_3_10 q_3_11 q_3f q_4_0 q_4_1 q_4_2 q_4_3 q_4_4 q_4_5 q_4_6 q_4_7 q_4_8 q_4_9 q_4_10 q_4_11 q_4f
    clear hc1 hc2
    obtain ⟨⟨k0, k1, k2, k3, k4, k5, k6, k7, k8, k9, k10, k11⟩, kf⟩ := MBox.cells hX1
    obtain ⟨⟨y0, y1, y2, y3, y4, y5, y6, y7, y8, y9, y10, y11⟩, yf⟩ := MBox.cells hX2
    refine bodyPost_ret (v := .tuple #[.agg #[.bool M.S.s, .slice M.S.A M.S.n M.S.c, .int .i64 M.S.e, .bool M.W.s, .slice M.W.A M.W.n M.W.c, .int .i64 M.W.e, .bool M.C.s, .slice M.C.A M.C.n M.C.c, .int .i64 M.C.e, .bool M.A.s, .slice M.A.A M.A.n M.A.c, .int .i64 M.A.e], .agg #[.bool M.S.s, .slice M.S.A M.S.n M.S.c, .int .i64 M.S.e, .bool M.W.s, .slice M.W.A M.W.n M.W.c, .int .i64 M.W.e, .bool M.C.s, .slice M.C.A M.C.n M.C.c, .int .i64 M.C.e, .bool M.A.s, .slice M.A.A M.A.n M.A.c, .int .i64 M.A.e], .int .i64 8]) (by simp [results, Tryd.results40, go_sem, k0, k1, k2, k3, k4, k5, k6, k7, k8, k9, k10, k11, y0, y1, y2, y3, y4, y5, y6, y7, y8, y9, y10, y11]) rfl ⟨M, M, rfl, hQ, ?_⟩
    rw [hMe]
    exact ⟨IsM.zero, IsM.zero, four (.inl (Ints.nil_ ..)) (.inl (Ints.nil_ ..)) (.inl (Ints.nil_ ..)) (.inl (Ints.nil_ ..)), ZM_rows ..⟩
  · skip
    have mm := Lib.hid ((mayMB_iff m).1 HG.out)
    obtain ⟨r0, q0, hx0⟩ : ∃ r q, halfX m.S.s m.S.xs m.S.e = (r, q) := ⟨_, _, rfl⟩
    have HX0 := Lib.hid hx0
    have c0 := Lib.hid (halfX_two (mm.out 0 (by decide)) hx0)
    clear hx0
    obtain ⟨r1, q1, hx1⟩ : ∃ r q, halfX m.W.s m.W.xs m.W.e = (r, q) := ⟨_, _, rfl⟩
    have HX1 := Lib.hid hx1
    have c1 := Lib.hid (halfX_two (mm.out 1 (by decide)) hx1)
    clear hx1
    obtain ⟨⟨q_5_0, q_5_1, q_5_2, q_5_3, q_5_4, q_5_5, q_5_6, q_5_7, q_5_8, q_5_9, q_5_10, q_5_11⟩, q_5f⟩ := MBox.cells hM
    go_wp2_with fail
    refine (rHalf_all w_2 m.S.s m.S.A m.S.n m.S.c m.S.xs m.S.e (MRows.get Rm 0) r0 q0 HX0.out).mono ?_
    rintro e' w_6 ⟨A0, n0, d0, rfl, hc0, hB, hI⟩
    clear q_5_0 q_5_1 q_5_2 q_5_3 q_5_4 q_5_5 q_5_6 q_5_7 q_5_8 q_5_9 q_5_10 q_5_11 q_5f
    have lw_6 : w_2.heap.size ≤ w_6.heap.size := hB.size
    replace hM := box_on hM hB (by omega)
    replace hZ := box_on hZ hB (by omega)
    replace hY := box_on hY hB (by omega)
    replace Rm := MRows.on Rm hB
    replace hBL := hBL.trans (hB.mono (by omega))
    have I0 : Ints _ (w.heap.size + 3) _ .u32 A0 n0 (canon 4294967296 r0.m) := Ints.more hI (by omega) (Nat.le_refl _)
    clear hI
    clear hB
    have hB := (Below.refl w_6.heap.size w_6).alloc (Nat.le_refl _) (.cells #[.bool r0.neg, .slice A0 n0 d0, .int .i64 r0.e] 24)
    have hD0 := heap_alloc_last w_6 (.cells #[.bool r0.neg, .slice A0 n0 d0, .int .i64 r0.e] 24)
    have mw_7 : w_6.heap.size < (w_6.alloc (.cells #[.bool r0.neg, .slice A0 n0 d0, .int .i64 r0.e] 24)).heap.size := by simp
    generalize hww_7 : w_6.alloc (.cells #[.bool r0.neg, .slice A0 n0 d0, .int .i64 r0.e] 24) = w_7 at *
    have lw_7 : w_6.heap.size ≤ w_7.heap.size := hB.size
    replace hM := box_on hM hB (by omega)
    replace hZ := box_on hZ hB (by omega)
    replace hY := box_on hY hB (by omega)
    replace Rm := MRows.on Rm hB
    replace I0 := (Ints.below I0 hB (Nat.le_refl _)).more (Nat.le_refl _) hB.size
    replace hBL := hBL.trans (hB.mono (by omega))
    clear hB
    obtain ⟨⟨q_8_0, q_8_1, q_8_2, q_8_3, q_8_4, q_8_5, q_8_6, q_8_7, q_8_8, q_8_9, q_8_10, q_8_11⟩, q_8f⟩ := MBox.cells hM
    go_wp2_with fail
    refine (rHalf_all w_7 m.W.s m.W.A m.W.n m.W.c m.W.xs m.W.e (MRows.get Rm 1) r1 q1 HX1.out).mono ?_
    rintro e' w_9 ⟨A1, n1, d1, rfl, hc1, hB, hI⟩
    clear q_8_0 q_8_1 q_8_2 q_8_3 q_8_4 q_8_5 q_8_6 q_8_7 q_8_8 q_8_9 q_8_10 q_8_11 q_8f
    have lw_9 : w_7.heap.size ≤ w_9.heap.size := hB.size
    replace hM := box_on hM hB (by omega)
    replace hZ := box_on hZ hB (by omega)
    replace hY := box_on hY hB (by omega)
    replace Rm := MRows.on Rm hB
    replace I0 := (Ints.below I0 hB (Nat.le_refl _)).more (Nat.le_refl _) hB.size
    replace hD0 := (hB.block _ (by omega)).trans hD0
    replace hBL := hBL.trans (hB.mono (by omega))
    have I1 : Ints _ (w.heap.size + 3) _ .u32 A1 n1 (canon 4294967296 r1.m) := Ints.more hI (by omega) (Nat.le_refl _)
    clear hI
    try clear hww_7
    clear hB
    have hB := (Below.refl w_9.heap.size w_9).alloc (Nat.le_refl _) (.cells #[.bool r1.neg, .slice A1 n1 d1, .int .i64 r1.e] 24)
    have hD1 := heap_alloc_last w_9 (.cells #[.bool r1.neg, .slice A1 n1 d1, .int .i64 r1.e] 24)
    have mw_10 : w_9.heap.size < (w_9.alloc (.cells #[.bool r1.neg, .slice A1 n1 d1, .int .i64 r1.e] 24)).heap.size := by simp
    generalize hww_10 : w_9.alloc (.cells #[.bool r1.neg, .slice A1 n1 d1, .int .i64 r1.e] 24) = w_10 at *
    have lw_10 : w_9.heap.size ≤ w_10.heap.size := hB.size
    replace hM := box_on hM hB (by omega)
    replace hZ := box_on hZ hB (by omega)
    replace hY := box_on hY hB (by omega)
    replace Rm := MRows.on Rm hB
    replace I0 := (Ints.below I0 hB (Nat.le_refl _)).more (Nat.le_refl _) hB.size
    replace I1 := (Ints.below I1 hB (Nat.le_refl _)).more (Nat.le_refl _) hB.size
    replace hD0 := (hB.block _ (by omega)).trans hD0
    replace hBL := hBL.trans (hB.mono (by omega))
    clear hB
    replace c0 := c0.out
    replace c1 := c1.out
    rcases c0 with rfl | rfl <;> rcases c1 with rfl | rfl
    · skip
      have hmax : ∀ W : World, (Builtin.max_ #[3, 3] 3 #[.int .i64 0, .int .i64 0]).run Tryd.prog W = .ok (.int .i64 0) W := fun W => run_max2 W _ _ _ _ _ (by decide)
      have hcode : ((fun x => if x = 0 then r0 else if x = 1 then r1 else dnM m x, fun x => if x = 0 then r0 else if x = 1 then r1 else Dn.zero), (0 : Int)) = ((kR, sR), code) := by
        rw [← HR.out]
        unfold splitM
        rw [if_pos mm.out, HX0.out, HX1.out, if_pos ⟨rfl, rfl⟩]
      injection hcode with h1 h2
      injection h1 with h1 h3
      subst h2
      have hI : Hid (IsM (dnM m) m) := Lib.hid (IsM.of hR mm.out)
      have HKR := Lib.hid h1
      have HSR := Lib.hid h3
      clear h1 h3
      go_wp2_with fail
      try clear hww_10
      have S0 : Hid (∀ w' : World, Keeps w_10 w' → True) := Lib.hid fun _ _ => trivial
      clear S0
      refine region_E (fun W' : World => ∀ p, p < w_10.heap.size → p ≠ w.heap.size + 1 → p ≠ w.heap.size + 1 + 1 → W'.heap[p]? = w_10.heap[p]?) [] (m := 13) (L := #[false, false, false, false, false, false, false, false, false, false, false, false, false]) (by kernel_rfl) (by rfl) (by rfl) ?_
      have kp_ : Keeps w_10 w_10.drew := fun _ _ => rfl
      have hB : Below w_10.heap.size w_10 w_10.drew := (Below.refl _ _).drew
      replace Rm : MRows w_10.drew 0 w_10.drew.heap.size _ := MRows.on Rm hB
      replace I0 := (Ints.below I0 hB (Nat.le_refl _)).more (Nat.le_refl _) hB.size
      replace I1 := (Ints.below I1 hB (Nat.le_refl _)).more (Nat.le_refl _) hB.size
      replace hBL := hBL.trans (hB.mono (by omega))
      have lw_11 : w_10.heap.size ≤ w_10.drew.heap.size := hB.size
      clear hB
      generalize w_10.drew = w_11 at *
      have kq_ : ∀ p, p < w_10.heap.size → p ≠ w.heap.size + 1 → p ≠ w.heap.size + 1 + 1 → w_11.heap[p]? = w_10.heap[p]? := fun p hp _ _ => kp_ p hp
      refine readE (i := 0) (L := #[true, false, false, false, false, false, false, false, false, false, false, false, false]) (v := .agg #[.bool r0.neg, .slice A0 n0 d0, .int .i64 r0.e]) rfl (by rfl) (by kernel_rfl) (by kernel_rfl) (by kernel_rfl) (fun _ _ _ h => h) (by assumption) (by rfl) ?yr_12 ?zr_12
      case yr_12 =>
        intro w' h1
        obtain ⟨⟨k1, k2, k3⟩, _⟩ := boxD ((h1 _ (by omega) (by omega) (by omega)).trans hD0)
        go_simp
      try simp only [Act.put, List.setIfInBounds_toArray, List.set_cons_zero, List.set_cons_succ]
      refine readE (i := 1) (L := #[true, true, false, false, false, false, false, false, false, false, false, false, false]) (v := .agg #[.bool r1.neg, .slice A1 n1 d1, .int .i64 r1.e]) rfl (by rfl) (by kernel_rfl) (by kernel_rfl) (by kernel_rfl) (fun _ _ _ h => h) (by assumption) (by rfl) ?yr_13 ?zr_13
      case yr_13 =>
        intro w' h1
        obtain ⟨⟨k1, k2, k3⟩, _⟩ := boxD ((h1 _ (by omega) (by omega) (by omega)).trans hD1)
        go_simp
      try simp only [Act.put, List.setIfInBounds_toArray, List.set_cons_zero, List.set_cons_succ]
      refine pureE (i := 2) (L := #[true, true, true, false, false, false, false, false, false, false, false, false, false]) (v := ?_) rfl (by rfl) (by kernel_rfl) (by kernel_rfl) (by kernel_rfl) (fun _ _ _ h => h) (by rfl) ?hy3 ?rest3
      case hy3 => intro w; go_simp; (try with_reducible rfl)
      try simp only [Act.put, List.setIfInBounds_toArray, List.set_cons_zero, List.set_cons_succ]
      refine readE (i := 3) (L := #[true, true, true, true, false, false, false, false, false, false, false, false, false]) (v := .agg #[.bool m.C.s, .slice m.C.A m.C.n m.C.c, .int .i64 m.C.e]) rfl (by rfl) (by kernel_rfl) (by kernel_rfl) (by kernel_rfl) (fun _ _ _ h => h) (by assumption) (by rfl) ?yr_14 ?zr_14
      case yr_14 =>
        intro w' h1
        obtain ⟨⟨k0, k1, k2, k3, k4, k5, k6, k7, k8, k9, k10, k11⟩, kf⟩ := MBox.cells ((h1 _ (by omega) (by omega) (by omega)).trans hM)
        go_simp
      try simp only [Act.put, List.setIfInBounds_toArray, List.set_cons_zero, List.set_cons_succ]
      refine pureE (i := 4) (L := #[true, true, true, true, true, false, false, false, false, false, false, false, false]) (v := ?_) rfl (by rfl) (by kernel_rfl) (by kernel_rfl) (by kernel_rfl) (fun _ _ _ h => h) (by rfl) ?hy5 ?rest5
      case hy5 => intro w; go_simp; (try with_reducible rfl)
      try simp only [Act.put, List.setIfInBounds_toArray, List.set_cons_zero, List.set_cons_succ]
      refine readE (i := 5) (L := #[true, true, true, true, true, true, false, false, false, false, false, false, false]) (v := .agg #[.bool m.A.s, .slice m.A.A m.A.n m.A.c, .int .i64 m.A.e]) rfl (by rfl) (by kernel_rfl) (by kernel_rfl) (by kernel_rfl) (fun _ _ _ h => h) (by assumption) (by rfl) ?yr_15 ?zr_15
      case yr_15 =>
        intro w' h1
        obtain ⟨⟨k0, k1, k2, k3, k4, k5, k6, k7, k8, k9, k10, k11⟩, kf⟩ := MBox.cells ((h1 _ (by omega) (by omega) (by omega)).trans hM)
        go_simp
      try simp only [Act.put, List.setIfInBounds_toArray, List.set_cons_zero, List.set_cons_succ]
      refine pureE (i := 6) (L := #[true, true, true, true, true, true, true, false, false, false, false, false, false]) (v := ?_) rfl (by rfl) (by kernel_rfl) (by kernel_rfl) (by kernel_rfl) (fun _ _ _ h => h) (by rfl) ?hy7 ?rest7
      case hy7 => intro w; go_simp; (try with_reducible rfl)
      try simp only [Act.put, List.setIfInBounds_toArray, List.set_cons_zero, List.set_cons_succ]
      refine readE (i := 7) (L := #[true, true, true, true, true, true, true, true, false, false, false, false, false]) (v := .agg #[.bool r0.neg, .slice A0 n0 d0, .int .i64 r0.e]) rfl (by rfl) (by kernel_rfl) (by kernel_rfl) (by kernel_rfl) (fun _ _ _ h => h) (by assumption) (by rfl) ?yr_16 ?zr_16
      case yr_16 =>
        intro w' h1
        obtain ⟨⟨k1, k2, k3⟩, _⟩ := boxD ((h1 _ (by omega) (by omega) (by omega)).trans hD0)
        go_simp
      try simp only [Act.put, List.setIfInBounds_toArray, List.set_cons_zero, List.set_cons_succ]
      refine readE (i := 8) (L := #[true, true, true, true, true, true, true, true, true, false, false, false, false]) (v := .agg #[.bool r1.neg, .slice A1 n1 d1, .int .i64 r1.e]) rfl (by rfl) (by kernel_rfl) (by kernel_rfl) (by kernel_rfl) (fun _ _ _ h => h) (by assumption) (by rfl) ?yr_17 ?zr_17
      case yr_17 =>
        intro w' h1
        obtain ⟨⟨k1, k2, k3⟩, _⟩ := boxD ((h1 _ (by omega) (by omega) (by omega)).trans hD1)
        go_simp
      try simp only [Act.put, List.setIfInBounds_toArray, List.set_cons_zero, List.set_cons_succ]
      refine pureE (i := 9) (L := #[true, true, true, true, true, true, true, true, true, true, false, false, false]) (v := ?_) rfl (by rfl) (by kernel_rfl) (by kernel_rfl) (by kernel_rfl) (fun _ _ _ h => h) (by rfl) ?hy10 ?rest10
      case hy10 => intro w; go_simp; (try with_reducible rfl)
      try simp only [Act.put, List.setIfInBounds_toArray, List.set_cons_zero, List.set_cons_succ]
      have hZ2 : MBox w_11 (w.heap.size + 1) ZM := (kp_ _ (by omega)).trans hZ
      have hY2 : MBox w_11 (w.heap.size + 1 + 1) ZM := (kp_ _ (by omega)).trans hY
      obtain ⟨⟨z0, z1, z2, z3, z4, z5, z6, z7, z8, z9, z10, z11⟩, zf⟩ := MBox.cells hZ2
      refine stepK (i := 10) (L := #[true, true, true, true, true, true, true, true, true, true, true, false, false]) rfl (by rfl) (by kernel_rfl) (by rfl) (fun K hK => ?_)
      go_simp
      refine hK _ _ ⟨fun _ h p hp h1 h2 => (far_all h1 ⟨⟨r0.neg, A0, n0, d0, r0.e, canon 4294967296 r0.m⟩, ⟨r1.neg, A1, n1, d1, r1.e, canon 4294967296 r1.m⟩, m.C, m.A⟩).trans (h p hp h1 h2), ?_⟩
      clear hK K z0 z1 z2 z3 z4 z5 z6 z7 z8 z9 z10 z11 zf
      try simp only [Act.put, List.setIfInBounds_toArray, List.set_cons_zero, List.set_cons_succ]
      obtain ⟨KM, hKM⟩ : ∃ M : Mv, M = ⟨⟨r0.neg, A0, n0, d0, r0.e, canon 4294967296 r0.m⟩, ⟨r1.neg, A1, n1, d1, r1.e, canon 4294967296 r1.m⟩, m.C, m.A⟩ := ⟨_, rfl⟩
      obtain ⟨SM, hSM⟩ : ∃ M : Mv, M = ⟨⟨r0.neg, A0, n0, d0, r0.e, canon 4294967296 r0.m⟩, ⟨r1.neg, A1, n1, d1, r1.e, canon 4294967296 r1.m⟩, ZM.C, ZM.A⟩ := ⟨_, rfl⟩
      have hX1 : MBox ((((((((((((w_11.setCell ⟨w.heap.size + 1, 0, none⟩ (.bool r0.neg)).setCell ⟨w.heap.size + 1, 1, none⟩ (.slice A0 n0 d0)).setCell ⟨w.heap.size + 1, 2, none⟩ (.int .i64 r0.e)).setCell ⟨w.heap.size + 1, 3, none⟩ (.bool r1.neg)).setCell ⟨w.heap.size + 1, 4, none⟩ (.slice A1 n1 d1)).setCell ⟨w.heap.size + 1, 5, none⟩ (.int .i64 r1.e)).setCell ⟨w.heap.size + 1, 6, none⟩ (.bool m.C.s)).setCell ⟨w.heap.size + 1, 7, none⟩ (.slice m.C.A m.C.n m.C.c)).setCell ⟨w.heap.size + 1, 8, none⟩ (.int .i64 m.C.e)).setCell ⟨w.heap.size + 1, 9, none⟩ (.bool m.A.s)).setCell ⟨w.heap.size + 1, 10, none⟩ (.slice m.A.A m.A.n m.A.c)).setCell ⟨w.heap.size + 1, 11, none⟩ (.int .i64 m.A.e)) (w.heap.size + 1) KM := by rw [hKM]; exact MBox.all hZ2 ⟨⟨r0.neg, A0, n0, d0, r0.e, canon 4294967296 r0.m⟩, ⟨r1.neg, A1, n1, d1, r1.e, canon 4294967296 r1.m⟩, m.C, m.A⟩
      have hY3 : MBox ((((((((((((w_11.setCell ⟨w.heap.size + 1, 0, none⟩ (.bool r0.neg)).setCell ⟨w.heap.size + 1, 1, none⟩ (.slice A0 n0 d0)).setCell ⟨w.heap.size + 1, 2, none⟩ (.int .i64 r0.e)).setCell ⟨w.heap.size + 1, 3, none⟩ (.bool r1.neg)).setCell ⟨w.heap.size + 1, 4, none⟩ (.slice A1 n1 d1)).setCell ⟨w.heap.size + 1, 5, none⟩ (.int .i64 r1.e)).setCell ⟨w.heap.size + 1, 6, none⟩ (.bool m.C.s)).setCell ⟨w.heap.size + 1, 7, none⟩ (.slice m.C.A m.C.n m.C.c)).setCell ⟨w.heap.size + 1, 8, none⟩ (.int .i64 m.C.e)).setCell ⟨w.heap.size + 1, 9, none⟩ (.bool m.A.s)).setCell ⟨w.heap.size + 1, 10, none⟩ (.slice m.A.A m.A.n m.A.c)).setCell ⟨w.heap.size + 1, 11, none⟩ (.int .i64 m.A.e)) (w.heap.size + 1 + 1) ZM := (far_all (by omega) ⟨⟨r0.neg, A0, n0, d0, r0.e, canon 4294967296 r0.m⟩, ⟨r1.neg, A1, n1, d1, r1.e, canon 4294967296 r1.m⟩, m.C, m.A⟩).trans hY2
      have hb3 : Below w.heap.size w ((((((((((((w_11.setCell ⟨w.heap.size + 1, 0, none⟩ (.bool r0.neg)).setCell ⟨w.heap.size + 1, 1, none⟩ (.slice A0 n0 d0)).setCell ⟨w.heap.size + 1, 2, none⟩ (.int .i64 r0.e)).setCell ⟨w.heap.size + 1, 3, none⟩ (.bool r1.neg)).setCell ⟨w.heap.size + 1, 4, none⟩ (.slice A1 n1 d1)).setCell ⟨w.heap.size + 1, 5, none⟩ (.int .i64 r1.e)).setCell ⟨w.heap.size + 1, 6, none⟩ (.bool m.C.s)).setCell ⟨w.heap.size + 1, 7, none⟩ (.slice m.C.A m.C.n m.C.c)).setCell ⟨w.heap.size + 1, 8, none⟩ (.int .i64 m.C.e)).setCell ⟨w.heap.size + 1, 9, none⟩ (.bool m.A.s)).setCell ⟨w.heap.size + 1, 10, none⟩ (.slice m.A.A m.A.n m.A.c)).setCell ⟨w.heap.size + 1, 11, none⟩ (.int .i64 m.A.e)) := below_all hBL (by omega) ⟨⟨r0.neg, A0, n0, d0, r0.e, canon 4294967296 r0.m⟩, ⟨r1.neg, A1, n1, d1, r1.e, canon 4294967296 r1.m⟩, m.C, m.A⟩
      have hf3 : ∀ j, j ≠ w.heap.size + 1 → ((((((((((((w_11.setCell ⟨w.heap.size + 1, 0, none⟩ (.bool r0.neg)).setCell ⟨w.heap.size + 1, 1, none⟩ (.slice A0 n0 d0)).setCell ⟨w.heap.size + 1, 2, none⟩ (.int .i64 r0.e)).setCell ⟨w.heap.size + 1, 3, none⟩ (.bool r1.neg)).setCell ⟨w.heap.size + 1, 4, none⟩ (.slice A1 n1 d1)).setCell ⟨w.heap.size + 1, 5, none⟩ (.int .i64 r1.e)).setCell ⟨w.heap.size + 1, 6, none⟩ (.bool m.C.s)).setCell ⟨w.heap.size + 1, 7, none⟩ (.slice m.C.A m.C.n m.C.c)).setCell ⟨w.heap.size + 1, 8, none⟩ (.int .i64 m.C.e)).setCell ⟨w.heap.size + 1, 9, none⟩ (.bool m.A.s)).setCell ⟨w.heap.size + 1, 10, none⟩ (.slice m.A.A m.A.n m.A.c)).setCell ⟨w.heap.size + 1, 11, none⟩ (.int .i64 m.A.e)).heap[j]? = w_11.heap[j]? := fun j hj => far_all hj ⟨⟨r0.neg, A0, n0, d0, r0.e, canon 4294967296 r0.m⟩, ⟨r1.neg, A1, n1, d1, r1.e, canon 4294967296 r1.m⟩, m.C, m.A⟩
      have hs3 : ((((((((((((w_11.setCell ⟨w.heap.size + 1, 0, none⟩ (.bool r0.neg)).setCell ⟨w.heap.size + 1, 1, none⟩ (.slice A0 n0 d0)).setCell ⟨w.heap.size + 1, 2, none⟩ (.int .i64 r0.e)).setCell ⟨w.heap.size + 1, 3, none⟩ (.bool r1.neg)).setCell ⟨w.heap.size + 1, 4, none⟩ (.slice A1 n1 d1)).setCell ⟨w.heap.size + 1, 5, none⟩ (.int .i64 r1.e)).setCell ⟨w.heap.size + 1, 6, none⟩ (.bool m.C.s)).setCell ⟨w.heap.size + 1, 7, none⟩ (.slice m.C.A m.C.n m.C.c)).setCell ⟨w.heap.size + 1, 8, none⟩ (.int .i64 m.C.e)).setCell ⟨w.heap.size + 1, 9, none⟩ (.bool m.A.s)).setCell ⟨w.heap.size + 1, 10, none⟩ (.slice m.A.A m.A.n m.A.c)).setCell ⟨w.heap.size + 1, 11, none⟩ (.int .i64 m.A.e)).heap.size = w_11.heap.size := size_all ⟨⟨r0.neg, A0, n0, d0, r0.e, canon 4294967296 r0.m⟩, ⟨r1.neg, A1, n1, d1, r1.e, canon 4294967296 r1.m⟩, m.C, m.A⟩
      have hs4 : w_11.heap.size ≤ ((((((((((((w_11.setCell ⟨w.heap.size + 1, 0, none⟩ (.bool r0.neg)).setCell ⟨w.heap.size + 1, 1, none⟩ (.slice A0 n0 d0)).setCell ⟨w.heap.size + 1, 2, none⟩ (.int .i64 r0.e)).setCell ⟨w.heap.size + 1, 3, none⟩ (.bool r1.neg)).setCell ⟨w.heap.size + 1, 4, none⟩ (.slice A1 n1 d1)).setCell ⟨w.heap.size + 1, 5, none⟩ (.int .i64 r1.e)).setCell ⟨w.heap.size + 1, 6, none⟩ (.bool m.C.s)).setCell ⟨w.heap.size + 1, 7, none⟩ (.slice m.C.A m.C.n m.C.c)).setCell ⟨w.heap.size + 1, 8, none⟩ (.int .i64 m.C.e)).setCell ⟨w.heap.size + 1, 9, none⟩ (.bool m.A.s)).setCell ⟨w.heap.size + 1, 10, none⟩ (.slice m.A.A m.A.n m.A.c)).setCell ⟨w.heap.size + 1, 11, none⟩ (.int .i64 m.A.e)).heap.size := Nat.le_of_eq hs3.symm
      clear hs3
      generalize ((((((((((((w_11.setCell ⟨w.heap.size + 1, 0, none⟩ (.bool r0.neg)).setCell ⟨w.heap.size + 1, 1, none⟩ (.slice A0 n0 d0)).setCell ⟨w.heap.size + 1, 2, none⟩ (.int .i64 r0.e)).setCell ⟨w.heap.size + 1, 3, none⟩ (.bool r1.neg)).setCell ⟨w.heap.size + 1, 4, none⟩ (.slice A1 n1 d1)).setCell ⟨w.heap.size + 1, 5, none⟩ (.int .i64 r1.e)).setCell ⟨w.heap.size + 1, 6, none⟩ (.bool m.C.s)).setCell ⟨w.heap.size + 1, 7, none⟩ (.slice m.C.A m.C.n m.C.c)).setCell ⟨w.heap.size + 1, 8, none⟩ (.int .i64 m.C.e)).setCell ⟨w.heap.size + 1, 9, none⟩ (.bool m.A.s)).setCell ⟨w.heap.size + 1, 10, none⟩ (.slice m.A.A m.A.n m.A.c)).setCell ⟨w.heap.size + 1, 11, none⟩ (.int .i64 m.A.e)) = V1 at *
      obtain ⟨⟨z0, z1, z2, z3, z4, z5, z6, z7, z8, z9, z10, z11⟩, zf⟩ := MBox.cells hY3
      refine stepK (i := 11) (L := #[true, true, true, true, true, true, true, true, true, true, true, true, false]) rfl (by rfl) (by kernel_rfl) (by rfl) (fun K hK => ?_)
      go_simp
      refine hK _ _ ⟨fun _ h p hp h1 h2 => (far_all h2 ⟨⟨r0.neg, A0, n0, d0, r0.e, canon 4294967296 r0.m⟩, ⟨r1.neg, A1, n1, d1, r1.e, canon 4294967296 r1.m⟩, ZM.C, ZM.A⟩).trans (h p hp h1 h2), ?_⟩
      clear hK K z0 z1 z2 z3 z4 z5 z6 z7 z8 z9 z10 z11 zf
      try simp only [Act.put, List.setIfInBounds_toArray, List.set_cons_zero, List.set_cons_succ]
      have hX2 : MBox ((((((((((((V1.setCell ⟨w.heap.size + 1 + 1, 0, none⟩ (.bool r0.neg)).setCell ⟨w.heap.size + 1 + 1, 1, none⟩ (.slice A0 n0 d0)).setCell ⟨w.heap.size + 1 + 1, 2, none⟩ (.int .i64 r0.e)).setCell ⟨w.heap.size + 1 + 1, 3, none⟩ (.bool r1.neg)).setCell ⟨w.heap.size + 1 + 1, 4, none⟩ (.slice A1 n1 d1)).setCell ⟨w.heap.size + 1 + 1, 5, none⟩ (.int .i64 r1.e)).setCell ⟨w.heap.size + 1 + 1, 6, none⟩ (.bool false)).setCell ⟨w.heap.size + 1 + 1, 7, none⟩ (.slice none 0 0)).setCell ⟨w.heap.size + 1 + 1, 8, none⟩ (.int .i64 0)).setCell ⟨w.heap.size + 1 + 1, 9, none⟩ (.bool false)).setCell ⟨w.heap.size + 1 + 1, 10, none⟩ (.slice none 0 0)).setCell ⟨w.heap.size + 1 + 1, 11, none⟩ (.int .i64 0)) (w.heap.size + 1 + 1) SM := by rw [hSM]; exact MBox.all hY3 ⟨⟨r0.neg, A0, n0, d0, r0.e, canon 4294967296 r0.m⟩, ⟨r1.neg, A1, n1, d1, r1.e, canon 4294967296 r1.m⟩, ZM.C, ZM.A⟩
      have hX3 : MBox ((((((((((((V1.setCell ⟨w.heap.size + 1 + 1, 0, none⟩ (.bool r0.neg)).setCell ⟨w.heap.size + 1 + 1, 1, none⟩ (.slice A0 n0 d0)).setCell ⟨w.heap.size + 1 + 1, 2, none⟩ (.int .i64 r0.e)).setCell ⟨w.heap.size + 1 + 1, 3, none⟩ (.bool r1.neg)).setCell ⟨w.heap.size + 1 + 1, 4, none⟩ (.slice A1 n1 d1)).setCell ⟨w.heap.size + 1 + 1, 5, none⟩ (.int .i64 r1.e)).setCell ⟨w.heap.size + 1 + 1, 6, none⟩ (.bool false)).setCell ⟨w.heap.size + 1 + 1, 7, none⟩ (.slice none 0 0)).setCell ⟨w.heap.size + 1 + 1, 8, none⟩ (.int .i64 0)).setCell ⟨w.heap.size + 1 + 1, 9, none⟩ (.bool false)).setCell ⟨w.heap.size + 1 + 1, 10, none⟩ (.slice none 0 0)).setCell ⟨w.heap.size + 1 + 1, 11, none⟩ (.int .i64 0)) (w.heap.size + 1) KM := (far_all (by omega) ⟨⟨r0.neg, A0, n0, d0, r0.e, canon 4294967296 r0.m⟩, ⟨r1.neg, A1, n1, d1, r1.e, canon 4294967296 r1.m⟩, ZM.C, ZM.A⟩).trans hX1
      have hb4 : Below w.heap.size w ((((((((((((V1.setCell ⟨w.heap.size + 1 + 1, 0, none⟩ (.bool r0.neg)).setCell ⟨w.heap.size + 1 + 1, 1, none⟩ (.slice A0 n0 d0)).setCell ⟨w.heap.size + 1 + 1, 2, none⟩ (.int .i64 r0.e)).setCell ⟨w.heap.size + 1 + 1, 3, none⟩ (.bool r1.neg)).setCell ⟨w.heap.size + 1 + 1, 4, none⟩ (.slice A1 n1 d1)).setCell ⟨w.heap.size + 1 + 1, 5, none⟩ (.int .i64 r1.e)).setCell ⟨w.heap.size + 1 + 1, 6, none⟩ (.bool false)).setCell ⟨w.heap.size + 1 + 1, 7, none⟩ (.slice none 0 0)).setCell ⟨w.heap.size + 1 + 1, 8, none⟩ (.int .i64 0)).setCell ⟨w.heap.size + 1 + 1, 9, none⟩ (.bool false)).setCell ⟨w.heap.size + 1 + 1, 10, none⟩ (.slice none 0 0)).setCell ⟨w.heap.size + 1 + 1, 11, none⟩ (.int .i64 0)) := below_all hb3 (by omega) ⟨⟨r0.neg, A0, n0, d0, r0.e, canon 4294967296 r0.m⟩, ⟨r1.neg, A1, n1, d1, r1.e, canon 4294967296 r1.m⟩, ZM.C, ZM.A⟩
      have hf4 : ∀ j, j ≠ w.heap.size + 1 + 1 → ((((((((((((V1.setCell ⟨w.heap.size + 1 + 1, 0, none⟩ (.bool r0.neg)).setCell ⟨w.heap.size + 1 + 1, 1, none⟩ (.slice A0 n0 d0)).setCell ⟨w.heap.size + 1 + 1, 2, none⟩ (.int .i64 r0.e)).setCell ⟨w.heap.size + 1 + 1, 3, none⟩ (.bool r1.neg)).setCell ⟨w.heap.size + 1 + 1, 4, none⟩ (.slice A1 n1 d1)).setCell ⟨w.heap.size + 1 + 1, 5, none⟩ (.int .i64 r1.e)).setCell ⟨w.heap.size + 1 + 1, 6, none⟩ (.bool false)).setCell ⟨w.heap.size + 1 + 1, 7, none⟩ (.slice none 0 0)).setCell ⟨w.heap.size + 1 + 1, 8, none⟩ (.int .i64 0)).setCell ⟨w.heap.size + 1 + 1, 9, none⟩ (.bool false)).setCell ⟨w.heap.size + 1 + 1, 10, none⟩ (.slice none 0 0)).setCell ⟨w.heap.size + 1 + 1, 11, none⟩ (.int .i64 0)).heap[j]? = V1.heap[j]? := fun j hj => far_all hj ⟨⟨r0.neg, A0, n0, d0, r0.e, canon 4294967296 r0.m⟩, ⟨r1.neg, A1, n1, d1, r1.e, canon 4294967296 r1.m⟩, ZM.C, ZM.A⟩
      have hs5 : ((((((((((((V1.setCell ⟨w.heap.size + 1 + 1, 0, none⟩ (.bool r0.neg)).setCell ⟨w.heap.size + 1 + 1, 1, none⟩ (.slice A0 n0 d0)).setCell ⟨w.heap.size + 1 + 1, 2, none⟩ (.int .i64 r0.e)).setCell ⟨w.heap.size + 1 + 1, 3, none⟩ (.bool r1.neg)).setCell ⟨w.heap.size + 1 + 1, 4, none⟩ (.slice A1 n1 d1)).setCell ⟨w.heap.size + 1 + 1, 5, none⟩ (.int .i64 r1.e)).setCell ⟨w.heap.size + 1 + 1, 6, none⟩ (.bool false)).setCell ⟨w.heap.size + 1 + 1, 7, none⟩ (.slice none 0 0)).setCell ⟨w.heap.size + 1 + 1, 8, none⟩ (.int .i64 0)).setCell ⟨w.heap.size + 1 + 1, 9, none⟩ (.bool false)).setCell ⟨w.heap.size + 1 + 1, 10, none⟩ (.slice none 0 0)).setCell ⟨w.heap.size + 1 + 1, 11, none⟩ (.int .i64 0)).heap.size = V1.heap.size := size_all ⟨⟨r0.neg, A0, n0, d0, r0.e, canon 4294967296 r0.m⟩, ⟨r1.neg, A1, n1, d1, r1.e, canon 4294967296 r1.m⟩, ZM.C, ZM.A⟩
      have hs6 : V1.heap.size ≤ ((((((((((((V1.setCell ⟨w.heap.size + 1 + 1, 0, none⟩ (.bool r0.neg)).setCell ⟨w.heap.size + 1 + 1, 1, none⟩ (.slice A0 n0 d0)).setCell ⟨w.heap.size + 1 + 1, 2, none⟩ (.int .i64 r0.e)).setCell ⟨w.heap.size + 1 + 1, 3, none⟩ (.bool r1.neg)).setCell ⟨w.heap.size + 1 + 1, 4, none⟩ (.slice A1 n1 d1)).setCell ⟨w.heap.size + 1 + 1, 5, none⟩ (.int .i64 r1.e)).setCell ⟨w.heap.size + 1 + 1, 6, none⟩ (.bool false)).setCell ⟨w.heap.size + 1 + 1, 7, none⟩ (.slice none 0 0)).setCell ⟨w.heap.size + 1 + 1, 8, none⟩ (.int .i64 0)).setCell ⟨w.heap.size + 1 + 1, 9, none⟩ (.bool false)).setCell ⟨w.heap.size + 1 + 1, 10, none⟩ (.slice none 0 0)).setCell ⟨w.heap.size + 1 + 1, 11, none⟩ (.int .i64 0)).heap.size := Nat.le_of_eq hs5.symm
      clear hs5
      generalize ((((((((((((V1.setCell ⟨w.heap.size + 1 + 1, 0, none⟩ (.bool r0.neg)).setCell ⟨w.heap.size + 1 + 1, 1, none⟩ (.slice A0 n0 d0)).setCell ⟨w.heap.size + 1 + 1, 2, none⟩ (.int .i64 r0.e)).setCell ⟨w.heap.size + 1 + 1, 3, none⟩ (.bool r1.neg)).setCell ⟨w.heap.size + 1 + 1, 4, none⟩ (.slice A1 n1 d1)).setCell ⟨w.heap.size + 1 + 1, 5, none⟩ (.int .i64 r1.e)).setCell ⟨w.heap.size + 1 + 1, 6, none⟩ (.bool false)).setCell ⟨w.heap.size + 1 + 1, 7, none⟩ (.slice none 0 0)).setCell ⟨w.heap.size + 1 + 1, 8, none⟩ (.int .i64 0)).setCell ⟨w.heap.size + 1 + 1, 9, none⟩ (.bool false)).setCell ⟨w.heap.size + 1 + 1, 10, none⟩ (.slice none 0 0)).setCell ⟨w.heap.size + 1 + 1, 11, none⟩ (.int .i64 0)) = V2 at *
      refine pureE (i := 12) (L := #[true, true, true, true, true, true, true, true, true, true, true, true, true]) (v := ?_) rfl (by rfl) (by kernel_rfl) (by kernel_rfl) (by kernel_rfl) (fun _ _ _ h => h) (by rfl) ?hy13 ?rest13
      case hy13 => intro w; go_simp; (try with_reducible rfl)
      try simp only [Act.put, List.setIfInBounds_toArray, List.set_cons_zero, List.set_cons_succ]
      refine doneE (by kernel_rfl) ?_ _
      go_wp2
      obtain ⟨⟨k0, k1, k2, k3, k4, k5, k6, k7, k8, k9, k10, k11⟩, kf⟩ := MBox.cells hX3
      obtain ⟨⟨y0, y1, y2, y3, y4, y5, y6, y7, y8, y9, y10, y11⟩, yf⟩ := MBox.cells hX2
      have mv : ∀ {A : Option Addr} {n : Nat} {xs : List Int}, Ints w_11 (w.heap.size + 3) w_11.heap.size .u32 A n xs → Ints V2 w.heap.size V2.heap.size .u32 A n xs := fun h => (ints_rng h fun k h1 h2 => (hf4 k (by omega)).trans (hf3 k (by omega))).more (by omega) (by omega)
      have mw : ∀ {A : Option Addr} {n : Nat} {xs : List Int}, Ints w lo hi .u32 A n xs → Ints V2 lo hi .u32 A n xs := fun h => h.below hb4 hhi
      have hRK : TwoR V2 lo hi w.heap.size V2.heap.size KM := by rw [hKM]; exact four (.inr (mv I0)) (.inr (mv I1)) (.inl (mw hL.C)) (.inl (mw hL.A))
      have hRS : MRows V2 w.heap.size V2.heap.size SM := by rw [hSM]; exact ⟨mv I0, mv I1, Ints.nil_ .., Ints.nil_ ..⟩
      have hK : IsM kR KM := by rw [hKM, ← HKR.out]; exact four ⟨rfl, rfl, rfl⟩ ⟨rfl, rfl, rfl⟩ (hI.out 2 (by decide)) (hI.out 3 (by decide))
      have hS : IsM sR SM := by rw [hSM, ← HSR.out]; exact four ⟨rfl, rfl, rfl⟩ ⟨rfl, rfl, rfl⟩ Is.zero Is.zero
      exact bodyPost_ret (v := .tuple #[.agg #[.bool KM.S.s, .slice KM.S.A KM.S.n KM.S.c, .int .i64 KM.S.e, .bool KM.W.s, .slice KM.W.A KM.W.n KM.W.c, .int .i64 KM.W.e, .bool KM.C.s, .slice KM.C.A KM.C.n KM.C.c, .int .i64 KM.C.e, .bool KM.A.s, .slice KM.A.A KM.A.n KM.A.c, .int .i64 KM.A.e], .agg #[.bool SM.S.s, .slice SM.S.A SM.S.n SM.S.c, .int .i64 SM.S.e, .bool SM.W.s, .slice SM.W.A SM.W.n SM.W.c, .int .i64 SM.W.e, .bool SM.C.s, .slice SM.C.A SM.C.n SM.C.c, .int .i64 SM.C.e, .bool SM.A.s, .slice SM.A.A SM.A.n SM.A.c, .int .i64 SM.A.e], .int .i64 0]) (by simp [results, Tryd.results40, go_sem, k0, k1, k2, k3, k4, k5, k6, k7, k8, k9, k10, k11, y0, y1, y2, y3, y4, y5, y6, y7, y8, y9, y10, y11]) rfl ⟨KM, SM, rfl, hb4, hK, hS, hRK, hRS⟩
    · skip
      have hmax : ∀ W : World, (Builtin.max_ #[3, 3] 3 #[.int .i64 0, .int .i64 10]).run Tryd.prog W = .ok (.int .i64 10) W := fun W => run_max2 W _ _ _ _ _ (by decide)
      have hcode : ((zR, zR), (10 : Int)) = ((kR, sR), code) := by
        rw [← HR.out]
        unfold splitM
        rw [if_pos mm.out, if_neg fun k => ?_]
        have := k.2
        rw [HX1.out] at this
        cases this
      injection hcode with h1 h2
      injection h1 with h1 h3
      subst h1 h2 h3
      obtain ⟨⟨q_18_0, q_18_1, q_18_2, q_18_3, q_18_4, q_18_5, q_18_6, q_18_7, q_18_8, q_18_9, q_18_10, q_18_11⟩, q_18f⟩ := MBox.cells hZ
      obtain ⟨⟨q_19_0, q_19_1, q_19_2, q_19_3, q_19_4, q_19_5, q_19_6, q_19_7, q_19_8, q_19_9, q_19_10, q_19_11⟩, q_19f⟩ := MBox.cells hY
      go_wp2
      try clear hww_10
      obtain ⟨U1, M1, hc1, hM1, hX1, hb1, hf1, _, _⟩ := zero_to hZ
      rw [hc1]
      obtain ⟨U, M, hc2, hMe, hX2, hb2, hf2, _, _⟩ := zero_to (show MBox U1 (w.heap.size + 1 + 1) ZM from (hf1 _ (by omega)).trans hY)
      rw [hc2]
      replace hX1 : MBox U (w.heap.size + 1) M := by rw [hMe, ← hM1]; exact (hf2 _ (by omega)).trans hX1
      have hQ := hb2 _ _ (hb1 _ _ hBL (by omega)) (by omega)
      clear q_18_0 q_18_1 q_18_2 q_18_3 q_18_4 q_18_5 q_18_6 q_18_7 q_18_8 q_18_9 q_18_10 q_18_11 q_18f q_19_0 q_19_1 q_19_2 q_19_3 q_19_4 q_19_5 q_19_6 q_19_7 q_19_8 q_19_9 q_19_10 q_19_11 q_19f
      clear hc1 hc2
      obtain ⟨⟨k0, k1, k2, k3, k4, k5, k6, k7, k8, k9, k10, k11⟩, kf⟩ := MBox.cells hX1
      obtain ⟨⟨y0, y1, y2, y3, y4, y5, y6, y7, y8, y9, y10, y11⟩, yf⟩ := MBox.cells hX2
      refine bodyPost_ret (v := .tuple #[.agg #[.bool M.S.s, .slice M.S.A M.S.n M.S.c, .int .i64 M.S.e, .bool M.W.s, .slice M.W.A M.W.n M.W.c, .int .i64 M.W.e, .bool M.C.s, .slice M.C.A M.C.n M.C.c, .int .i64 M.C.e, .bool M.A.s, .slice M.A.A M.A.n M.A.c, .int .i64 M.A.e], .agg #[.bool M.S.s, .slice M.S.A M.S.n M.S.c, .int .i64 M.S.e, .bool M.W.s, .slice M.W.A M.W.n M.W.c, .int .i64 M.W.e, .bool M.C.s, .slice M.C.A M.C.n M.C.c, .int .i64 M.C.e, .bool M.A.s, .slice M.A.A M.A.n M.A.c, .int .i64 M.A.e], .int .i64 10]) (by simp [results, Tryd.results40, go_sem, k0, k1, k2, k3, k4, k5, k6, k7, k8, k9, k10, k11, y0, y1, y2, y3, y4, y5, y6, y7, y8, y9, y10, y11]) rfl ⟨M, M, rfl, hQ, ?_⟩
      rw [hMe]
      exact ⟨IsM.zero, IsM.zero, four (.inl (Ints.nil_ ..)) (.inl (Ints.nil_ ..)) (.inl (Ints.nil_ ..)) (.inl (Ints.nil_ ..)), ZM_rows ..⟩
    · skip
      have hmax : ∀ W : World, (Builtin.max_ #[3, 3] 3 #[.int .i64 10, .int .i64 0]).run Tryd.prog W = .ok (.int .i64 10) W := fun W => run_max2 W _ _ _ _ _ (by decide)
      have hcode : ((zR, zR), (10 : Int)) = ((kR, sR), code) := by
        rw [← HR.out]
        unfold splitM
        rw [if_pos mm.out, if_neg fun k => ?_]
        have := k.1
        rw [HX0.out] at this
        cases this
      injection hcode with h1 h2
      injection h1 with h1 h3
      subst h1 h2 h3
      obtain ⟨⟨q_20_0, q_20_1, q_20_2, q_20_3, q_20_4, q_20_5, q_20_6, q_20_7, q_20_8, q_20_9, q_20_10, q_20_11⟩, q_20f⟩ := MBox.cells hZ
      obtain ⟨⟨q_21_0, q_21_1, q_21_2, q_21_3, q_21_4, q_21_5, q_21_6, q_21_7, q_21_8, q_21_9, q_21_10, q_21_11⟩, q_21f⟩ := MBox.cells hY
      go_wp2
      try clear hww_10
      obtain ⟨U1, M1, hc1, hM1, hX1, hb1, hf1, _, _⟩ := zero_to hZ
      rw [hc1]
      obtain ⟨U, M, hc2, hMe, hX2, hb2, hf2, _, _⟩ := zero_to (show MBox U1 (w.heap.size + 1 + 1) ZM from (hf1 _ (by omega)).trans hY)
      rw [hc2]
      replace hX1 : MBox U (w.heap.size + 1) M := by rw [hMe, ← hM1]; exact (hf2 _ (by omega)).trans hX1
      have hQ := hb2 _ _ (hb1 _ _ hBL (by omega)) (by omega)
      clear q_20_0 q_20_1 q_20_2 q_20_3 q_20_4 q_20_5 q_20_6 q_20_7 q_20_8 q_20_9 q_20_10 q_20_11 q_20f q_21_0 q_21_1 q_21_2 q_21_3 q_21_4 q_21_5 q_21_6 q_21_7 q_21_8 q_21_9 q_21_10 q_21_11 q_21f
      clear hc1 hc2
      obtain ⟨⟨k0, k1, k2, k3, k4, k5, k6, k7, k8, k9, k10, k11⟩, kf⟩ := MBox.cells hX1
      obtain ⟨⟨y0, y1, y2, y3, y4, y5, y6, y7, y8, y9, y10, y11⟩, yf⟩ := MBox.cells hX2
      refine bodyPost_ret (v := .tuple #[.agg #[.bool M.S.s, .slice M.S.A M.S.n M.S.c, .int .i64 M.S.e, .bool M.W.s, .slice M.W.A M.W.n M.W.c, .int .i64 M.W.e, .bool M.C.s, .slice M.C.A M.C.n M.C.c, .int .i64 M.C.e, .bool M.A.s, .slice M.A.A M.A.n M.A.c, .int .i64 M.A.e], .agg #[.bool M.S.s, .slice M.S.A M.S.n M.S.c, .int .i64 M.S.e, .bool M.W.s, .slice M.W.A M.W.n M.W.c, .int .i64 M.W.e, .bool M.C.s, .slice M.C.A M.C.n M.C.c, .int .i64 M.C.e, .bool M.A.s, .slice M.A.A M.A.n M.A.c, .int .i64 M.A.e], .int .i64 10]) (by simp [results, Tryd.results40, go_sem, k0, k1, k2, k3, k4, k5, k6, k7, k8, k9, k10, k11, y0, y1, y2, y3, y4, y5, y6, y7, y8, y9, y10, y11]) rfl ⟨M, M, rfl, hQ, ?_⟩
      rw [hMe]
      exact ⟨IsM.zero, IsM.zero, four (.inl (Ints.nil_ ..)) (.inl (Ints.nil_ ..)) (.inl (Ints.nil_ ..)) (.inl (Ints.nil_ ..)), ZM_rows ..⟩
    · skip
      have hmax : ∀ W : World, (Builtin.max_ #[3, 3] 3 #[.int .i64 10, .int .i64 10]).run Tryd.prog W = .ok (.int .i64 10) W := fun W => run_max2 W _ _ _ _ _ (by decide)
      have hcode : ((zR, zR), (10 : Int)) = ((kR, sR), code) := by
        rw [← HR.out]
        unfold splitM
        rw [if_pos mm.out, if_neg fun k => ?_]
        have := k.1
        rw [HX0.out] at this
        cases this
      injection hcode with h1 h2
      injection h1 with h1 h3
      subst h1 h2 h3
      obtain ⟨⟨q_22_0, q_22_1, q_22_2, q_22_3, q_22_4, q_22_5, q_22_6, q_22_7, q_22_8, q_22_9, q_22_10, q_22_11⟩, q_22f⟩ := MBox.cells hZ
      obtain ⟨⟨q_23_0, q_23_1, q_23_2, q_23_3, q_23_4, q_23_5, q_23_6, q_23_7, q_23_8, q_23_9, q_23_10, q_23_11⟩, q_23f⟩ := MBox.cells hY
      go_wp2
      try clear hww_10
      obtain ⟨U1, M1, hc1, hM1, hX1, hb1, hf1, _, _⟩ := zero_to hZ
      rw [hc1]
      obtain ⟨U, M, hc2, hMe, hX2, hb2, hf2, _, _⟩ := zero_to (show MBox U1 (w.heap.size + 1 + 1) ZM from (hf1 _ (by omega)).trans hY)
      rw [hc2]
      replace hX1 : MBox U (w.heap.size + 1) M := by rw [hMe, ← hM1]; exact (hf2 _ (by omega)).trans hX1
      have hQ := hb2 _ _ (hb1 _ _ hBL (by omega)) (by omega)
      clear q_22_0 q_22_1 q_22_2 q_22_3 q_22_4 q_22_5 q_22_6 q_22_7 q_22_8 q_22_9 q_22_10 q_22_11 q_22f q_23_0 q_23_1 q_23_2 q_23_3 q_23_4 q_23_5 q_23_6 q_23_7 q_23_8 q_23_9 q_23_10 q_23_11 q_23f
      clear hc1 hc2
      obtain ⟨⟨k0, k1, k2, k3, k4, k5, k6, k7, k8, k9, k10, k11⟩, kf⟩ := MBox.cells hX1
      obtain ⟨⟨y0, y1, y2, y3, y4, y5, y6, y7, y8, y9, y10, y11⟩, yf⟩ := MBox.cells hX2
      refine bodyPost_ret (v := .tuple #[.agg #[.bool M.S.s, .slice M.S.A M.S.n M.S.c, .int .i64 M.S.e, .bool M.W.s, .slice M.W.A M.W.n M.W.c, .int .i64 M.W.e, .bool M.C.s, .slice M.C.A M.C.n M.C.c, .int .i64 M.C.e, .bool M.A.s, .slice M.A.A M.A.n M.A.c, .int .i64 M.A.e], .agg #[.bool M.S.s, .slice M.S.A M.S.n M.S.c, .int .i64 M.S.e, .bool M.W.s, .slice M.W.A M.W.n M.W.c, .int .i64 M.W.e, .bool M.C.s, .slice M.C.A M.C.n M.C.c, .int .i64 M.C.e, .bool M.A.s, .slice M.A.A M.A.n M.A.c, .int .i64 M.A.e], .int .i64 10]) (by simp [results, Tryd.results40, go_sem, k0, k1, k2, k3, k4, k5, k6, k7, k8, k9, k10, k11, y0, y1, y2, y3, y4, y5, y6, y7, y8, y9, y10, y11]) rfl ⟨M, M, rfl, hQ, ?_⟩
      rw [hMe]
      exact ⟨IsM.zero, IsM.zero, four (.inl (Ints.nil_ ..)) (.inl (Ints.nil_ ..)) (.inl (Ints.nil_ ..)) (.inl (Ints.nil_ ..)), ZM_rows ..⟩
end Ma
end Go.Proofs.YtbbnbgllgomolaaDoor
namespace Go.Proofs.YtbbnbgllgomolaaDoor
open Go.RowKit
namespace Ma
open Dp Dy
def WrM (w : World) (lo hi : Nat) (m : Mv) : Prop := ∀ x, x < 4 → 0 < (m.get x).n → ∃ b off, (m.get x).A = some ⟨b, off, none⟩ ∧ lo ≤ b ∧ b < hi ∧ WrD w b off (m.get x).n
theorem WrM.of {w w' : World} {lo hi : Nat} {m : Mv} (h : MRows w lo hi m) (hk : ∀ b, b < hi → w'.heap[b]? = w.heap[b]?) : WrM w' lo hi m := fun x hx h0 => by
  obtain ⟨b, off, e, h1, h2, hc⟩ := (h.get x).row h0
  refine ⟨b, off, e, h1, h2, fun j hj => ?_⟩
  have h3 := hk b h2
  obtain ⟨h4, h5⟩ := hc j hj
  exact ⟨⟨_, by rw [World.cell?_of_block h3]; exact h4⟩, by rw [World.frozen?_of_block h3]; exact h5⟩
theorem WrM.set_ {w : World} {lo hi : Nat} {m : Mv} (h : WrM w lo hi m) (p : Addr) (v : Value) : WrM (w.setCell p v) lo hi m := fun x hx h0 => by
  obtain ⟨b, off, e, h1, h2, hW⟩ := h x hx h0
  exact ⟨b, off, e, h1, h2, hW.set_ _ _⟩
def LBox (w : World) (g : Nat) (m : Mv) : Prop := w.heap[g]? = some (.cells #[.slice m.S.A m.S.n m.S.c, .slice m.W.A m.W.n m.W.c, .slice m.C.A m.C.n m.C.c, .slice m.A.A m.A.n m.A.c] 22 (0, 0))
theorem LBox.at_ {w : World} {g : Nat} {m : Mv} (h : LBox w g m) {i : Nat} (hi : i < 4) : w.cell? ⟨g, i, none⟩ = some (.slice (m.get i).A (m.get i).n (m.get i).c) := by
  unfold LBox at h
  have hi' : i = 0 ∨ i = 1 ∨ i = 2 ∨ i = 3 := by omega
  rcases hi' with rfl | rfl | rfl | rfl
  · exact cell_of_row w g 0 _ _ _ h
  · exact cell_of_row w g 1 _ _ _ h
  · exact cell_of_row w g 2 _ _ _ h
  · exact cell_of_row w g 3 _ _ _ h
end Ma
end Go.Proofs.YtbbnbgllgomolaaDoor
namespace Go.Proofs.YtbbnbgllgomolaaDoor
open Go.RowKit
section
variable {P : Program} {os : List Oper} {Q : Exit → Act → World → Prop} {md : Region.Mode} {S : World → Prop} {E : List Nat} {B : Array Bool → Act → World → Prop}
/-- As wpAnyE; behind n operations B stands. -/
def wpAnyG (B : Array Bool → Act → World → Prop) (P : Program) (md : Region.Mode) (ops : Array Oper) (Q : Exit → Act → World → Prop) (S : World → Prop) (E : List Nat) : Nat → Array Bool → Act → World → Prop
  | 0, L, a, w => B L a w
  | n + 1, L, a, w => (Region.ready md ops L = [] → Q .normal a w) ∧ ∀ i ∈ Region.ready md ops L, wpOp P ops Q i (fun a' w' => (E.contains i = false → S w → S w') ∧ wpAnyG B P md ops Q S E n (L.setIfInBounds i true) a' w') a w
theorem E_of_G' {ops : Array Oper} (m : Nat) (h : ∀ L a w, B L a w → wpAnyE P md ops Q S E m L a w) : ∀ (n : Nat) (L : Array Bool) (a : Act) (w : World), wpAnyG B P md ops Q S E n L a w → wpAnyE P md ops Q S E (n + m) L a w
  | 0, L, a, w, hg => by
    rw [Nat.zero_add]
    exact h L a w hg
  | n + 1, L, a, w, hg => by
    rw [Nat.add_right_comm]
    exact ⟨hg.1, fun i hi => wpOp_mono (fun a' w' h' => ⟨h'.1, E_of_G' m h n _ a' w' h'.2⟩) (hg.2 i hi)⟩
theorem E_of_G {ops : Array Oper} (n m : Nat) (B : Act → Array Bool → Act → World → Prop) {k : Nat} (hk : n + m = k) {L : Array Bool} {a : Act} {w : World} (hg : wpAnyG (B a) P md ops Q S E n L a w) (h : ∀ L' a' w', B a L' a' w' → wpAnyE P md ops Q S E m L' a' w') : wpAnyE P md ops Q S E k L a w := by
  subst hk
  exact E_of_G' m h n L a w hg
/-- The same, what follows under a name. -/
theorem stepG {i n : Nat} {oi : Oper} {listed L : Array Bool} {a : Act} {w : World} (hi : os[i]? = some oi) (hL : listed.setIfInBounds i true = L)
    (hr : Region.ready md os.toArray listed = [i]) (hw : Region.wanted oi (yielded os.toArray a.tmps) = true)
    (h : ∀ K' : Act → World → Prop, Shut (∀ a w', ((E.contains i = false → S w → S w') ∧ wpAnyG B P md os.toArray Q S E n L a w') → K' a w') → Oper.wp P oi a w K' Q) :
    wpAnyG B P md os.toArray Q S E (n + 1) listed a w := by
  subst hL
  refine ⟨fun h0 => (by rw [hr] at h0; cases h0), fun j hj => ?_⟩
  rw [hr] at hj
  obtain rfl := List.mem_singleton.1 hj
  refine wpOp_step (by simpa using hi) (fun K' hK => ?_)
  rw [if_pos hw]
  exact h K' hK
/-- Two may come up: whichever. -/
theorem stepG2 {i j n : Nat} {oi oj : Oper} {listed Li Lj : Array Bool} {a : Act} {w : World} (hi : os[i]? = some oi) (hj : os[j]? = some oj) (hLi : listed.setIfInBounds i true = Li) (hLj : listed.setIfInBounds j true = Lj)
    (hr : Region.ready md os.toArray listed = [i, j]) (hwi : Region.wanted oi (yielded os.toArray a.tmps) = true) (hwj : Region.wanted oj (yielded os.toArray a.tmps) = true)
    (h : ∀ K' : Act → World → Prop, Shut (∀ a w', ((E.contains i = false → S w → S w') ∧ wpAnyG B P md os.toArray Q S E n Li a w') → K' a w') → Oper.wp P oi a w K' Q)
    (h' : ∀ K' : Act → World → Prop, Shut (∀ a w', ((E.contains j = false → S w → S w') ∧ wpAnyG B P md os.toArray Q S E n Lj a w') → K' a w') → Oper.wp P oj a w K' Q) :
    wpAnyG B P md os.toArray Q S E (n + 1) listed a w := by
  subst hLi
  subst hLj
  refine ⟨fun h0 => (by rw [hr] at h0; cases h0), fun m hm => ?_⟩
  rw [hr] at hm
  simp only [List.mem_cons, List.not_mem_nil, or_false] at hm
  rcases hm with rfl | rfl
  · refine wpOp_step (by simpa using hi) (fun K' hK => ?_)
    rw [if_pos hwi]
    exact h K' hK
  · refine wpOp_step (by simpa using hj) (fun K' hK => ?_)
    rw [if_pos hwj]
    exact h' K' hK
/-- Three may come up: whichever. -/
theorem stepG3 {i j k n : Nat} {oi oj ok : Oper} {listed Li Lj Lk : Array Bool} {a : Act} {w : World} (hi : os[i]? = some oi) (hj : os[j]? = some oj) (hk : os[k]? = some ok) (hLi : listed.setIfInBounds i true = Li) (hLj : listed.setIfInBounds j true = Lj) (hLk : listed.setIfInBounds k true = Lk)
    (hr : Region.ready md os.toArray listed = [i, j, k]) (hwi : Region.wanted oi (yielded os.toArray a.tmps) = true) (hwj : Region.wanted oj (yielded os.toArray a.tmps) = true) (hwk : Region.wanted ok (yielded os.toArray a.tmps) = true)
    (h : ∀ K' : Act → World → Prop, Shut (∀ a w', ((E.contains i = false → S w → S w') ∧ wpAnyG B P md os.toArray Q S E n Li a w') → K' a w') → Oper.wp P oi a w K' Q)
    (h' : ∀ K' : Act → World → Prop, Shut (∀ a w', ((E.contains j = false → S w → S w') ∧ wpAnyG B P md os.toArray Q S E n Lj a w') → K' a w') → Oper.wp P oj a w K' Q)
    (h'' : ∀ K' : Act → World → Prop, Shut (∀ a w', ((E.contains k = false → S w → S w') ∧ wpAnyG B P md os.toArray Q S E n Lk a w') → K' a w') → Oper.wp P ok a w K' Q) :
    wpAnyG B P md os.toArray Q S E (n + 1) listed a w := by
  subst hLi
  subst hLj
  subst hLk
  refine ⟨fun h0 => (by rw [hr] at h0; cases h0), fun m hm => ?_⟩
  rw [hr] at hm
  simp only [List.mem_cons, List.not_mem_nil, or_false] at hm
  rcases hm with rfl | rfl | rfl
  · refine wpOp_step (by simpa using hi) (fun K' hK => ?_)
    rw [if_pos hwi]
    exact h K' hK
  · refine wpOp_step (by simpa using hj) (fun K' hK => ?_)
    rw [if_pos hwj]
    exact h' K' hK
  · refine wpOp_step (by simpa using hk) (fun K' hK => ?_)
    rw [if_pos hwk]
    exact h'' K' hK
end
end Go.Proofs.YtbbnbgllgomolaaDoor
namespace Go.Proofs.YtbbnbgllgomolaaDoor
open Go.RowKit
namespace Ma
open Dp Dy
theorem rows_spoilt {w w' : World} {lo hi l h : Nat} {m : Mv} (hI : MRows w l h m) (hb : Below lo w w') (hf : From hi w w') (hs : h ≤ w.heap.size) (hd : h ≤ lo ∨ hi ≤ l) : MRows w' l h m :=
  ⟨ints_spoilt hI.S hb hf hs hd, ints_spoilt hI.W hb hf hs hd, ints_spoilt hI.C hb hf hs hd, ints_spoilt hI.A hb hf hs hd⟩
/-- The rows lie in neither of two blocks. -/
def RowsOff (_w : World) (g g' : Nat) (m : Mv) : Prop := ∀ x, x < 4 → 0 < (m.get x).n → ∀ b off, (m.get x).A = some ⟨b, off, none⟩ → b ≠ g ∧ b ≠ g'
theorem rows_or {w : World} {lo hi g g' : Nat} {m : Mv} (h : MRows w lo hi m) (h1 : g < lo ∨ hi ≤ g) (h2 : g' < lo ∨ hi ≤ g') : RowsOff w g g' m := fun x _ h0 b off e => by
  obtain ⟨b', off', e', k1, k2, _⟩ := (h.get x).row h0
  rw [e] at e'
  injection e' with e'
  injection e' with e1 _ _
  subst e1
  exact ⟨by omega, by omega⟩
theorem ints_off {w w' : World} {lo hi g g' j : Nat} {d : Dv} (h : Ints w lo hi .u32 d.A d.n d.xs) (ho : 0 < d.n → ∀ b off, d.A = some ⟨b, off, none⟩ → b ≠ g ∧ b ≠ g') (hf : ∀ k, k ≠ j → w'.heap[k]? = w.heap[k]?) (hj : j = g ∨ j = g') : Ints w' lo hi .u32 d.A d.n d.xs :=
  ⟨h.len, h.wf, h.big, fun h0 => by
    obtain ⟨b, off, e, h1, h2, hc⟩ := h.row h0
    obtain ⟨n1, n2⟩ := ho h0 b off e
    have h3 := hf b (by rcases hj with rfl | rfl; exact n1; exact n2)
    exact ⟨b, off, e, h1, h2, fun i hi => ⟨by rw [World.cell?_of_block h3]; exact (hc i hi).1, by rw [World.frozen?_of_block h3]; exact (hc i hi).2⟩⟩⟩
theorem RowsOff.far {w w' : World} {g g' lo hi j : Nat} {m : Mv} (ho : RowsOff w g g' m) (h : MRows w lo hi m) (hf : ∀ k, k ≠ j → w'.heap[k]? = w.heap[k]?) (hj : j = g ∨ j = g') : MRows w' lo hi m :=
  ⟨ints_off h.S (ho 0 (by decide)) hf hj, ints_off h.W (ho 1 (by decide)) hf hj, ints_off h.C (ho 2 (by decide)) hf hj, ints_off h.A (ho 3 (by decide)) hf hj⟩
theorem RowsOff.on {w w' : World} {g g' j : Nat} {m : Mv} (ho : RowsOff w g g' m) (_hf : ∀ k, k ≠ j → w'.heap[k]? = w.heap[k]?) (_hj : j = g ∨ j = g') : RowsOff w' g g' m := ho
theorem amid_spoilt {w0 w w' : World} {lo : Nat} (h : Amid w0 w) (hb : Below lo w w') (h0 : w0.heap.size ≤ lo) (h1 : 0 < lo) : Amid w0 w' := ⟨h.below.trans (hb.mono h0), h.tab.below hb h1⟩
/-- Rows in a range of blocks that are there. -/
structure RB (w : World) (lo hi : Nat) (m : Mv) : Prop where
  rows : MRows w lo hi m
  le : hi ≤ w.heap.size
theorem RB.on {w w' : World} {lo hi : Nat} {m : Mv} (h : RB w lo hi m) (hb : Below w.heap.size w w') : RB w' lo hi m := ⟨h.rows.below hb h.le, Nat.le_trans h.le hb.size⟩
theorem RB.all {w : World} {lo hi : Nat} {m : Mv} (h : RB w lo hi m) : MRows w 0 w.heap.size m := h.rows.more (Nat.zero_le _) h.le
structure TB (w : World) (lo hi lo' hi' : Nat) (m : Mv) : Prop where
  rows : TwoR w lo hi lo' hi' m
  le : hi ≤ w.heap.size
  le' : hi' ≤ w.heap.size
theorem TB.on {w w' : World} {lo hi lo' hi' : Nat} {m : Mv} (h : TB w lo hi lo' hi' m) (hb : Below w.heap.size w w') : TB w' lo hi lo' hi' m := ⟨h.rows.below hb h.le h.le', Nat.le_trans h.le hb.size, Nat.le_trans h.le' hb.size⟩
theorem TB.all {w : World} {lo hi lo' hi' : Nat} {m : Mv} (h : TB w lo hi lo' hi' m) : MRows w 0 w.heap.size m := h.rows.rows h.le h.le'
theorem isM_n {w : World} {lo hi : Nat} {R : Nat → Dn} {m : Mv} (hR : MRows w lo hi m) (h : IsM R m) (hr : MayR R) : ∀ x, x < 4 → (m.get x).n ≤ 1000000 := fun x hx => by
  have h1 := (hR.get x).len
  have h2 : (m.get x).xs.length ≤ 40 := ((h x hx).may (hr x hx)).1.1
  omega
theorem twin_all {a u : Mv} (h : ∀ x, x < 4 → TwinV (a.get x) (u.get x)) (j : Nat) : TwinV (a.get j) (u.get j) := by
  have e : ∀ (m : Mv) (k : Nat), m.get (k + 4) = m.get 3 := fun _ _ => rfl
  by_cases hj : j < 4
  · exact h j hj
  · obtain ⟨k, rfl⟩ : ∃ k, j = k + 4 := ⟨j - 4, by omega⟩
    rw [e, e]
    exact h 3 (by decide)
theorem twin_may {a u : Mv} (h : ∀ x, x < 4 → TwinV (a.get x) (u.get x)) : u.may ↔ a.may := by
  have k : ∀ x, x < 4 → ((u.get x).may ↔ (a.get x).may) := fun x hx => by
    obtain ⟨h1, _, h3, h4, _⟩ := h x hx
    unfold Dv.may
    rw [h1, h3, h4]
  exact ⟨fun m x hx => (k x hx).1 (m x hx), fun m x hx => (k x hx).2 (m x hx)⟩
theorem twin_split {a u : Mv} (h : ∀ x, x < 4 → TwinV (a.get x) (u.get x)) : splitM u = splitM a := by
  obtain ⟨h1, _, h3, h4, _⟩ := h 0 (by decide)
  obtain ⟨k1, _, k3, k4, _⟩ := h 1 (by decide)
  have e : dnM u = dnM a := by
    funext j
    obtain ⟨g1, _, g3, g4, _⟩ := twin_all h j
    unfold dnM
    rw [g1, g3, g4]
  have s1 : u.S.s = a.S.s := h1
  have s3 : u.S.e = a.S.e := h3
  have s4 : u.S.xs = a.S.xs := h4
  have w1 : u.W.s = a.W.s := k1
  have w3 : u.W.e = a.W.e := k3
  have w4 : u.W.xs = a.W.xs := k4
  unfold splitM
  rw [s1, s3, s4, w1, w3, w4, e]
  by_cases hm : a.may
  · rw [if_pos hm, if_pos ((twin_may h).2 hm)]
  · rw [if_neg hm, if_neg fun k => hm ((twin_may h).1 k)]
theorem twin_same {a u : Mv} (h : ∀ x, x < 4 → TwinV (a.get x) (u.get x)) : sameM u a = true := by
  unfold sameM
  have k : ∀ x, x < 4 → sameV (u.get x) (a.get x) = true := fun x hx => by
    unfold sameV
    rw [(h x hx).1, (h x hx).2.2.1, (h x hx).2.2.2.1]
    exact Pa.Dy.same_refl _
  have k0 := k 0 (by decide)
  have k1 := k 1 (by decide)
  have k2 := k 2 (by decide)
  have k3 := k 3 (by decide)
  simp only [Mv.get] at k0 k1 k2 k3
  rw [k0, k1, k2, k3]
  rfl
end Ma
end Go.Proofs.YtbbnbgllgomolaaDoor
namespace Go.Proofs.YtbbnbgllgomolaaDoor
open Go.RowKit
namespace Ma
open Dp Dy
/-- A mass's twelve cells amid a row. -/
def MCells (w : World) (b o : Nat) (m : Mv) : Prop := w.cell? ⟨b, o, none⟩ = some (.bool m.S.s) ∧ w.cell? ⟨b, o + 1, none⟩ = some (.slice m.S.A m.S.n m.S.c) ∧ w.cell? ⟨b, o + 2, none⟩ = some (.int .i64 m.S.e) ∧ w.cell? ⟨b, o + 3, none⟩ = some (.bool m.W.s) ∧ w.cell? ⟨b, o + 4, none⟩ = some (.slice m.W.A m.W.n m.W.c) ∧ w.cell? ⟨b, o + 5, none⟩ = some (.int .i64 m.W.e) ∧ w.cell? ⟨b, o + 6, none⟩ = some (.bool m.C.s) ∧ w.cell? ⟨b, o + 7, none⟩ = some (.slice m.C.A m.C.n m.C.c) ∧ w.cell? ⟨b, o + 8, none⟩ = some (.int .i64 m.C.e) ∧ w.cell? ⟨b, o + 9, none⟩ = some (.bool m.A.s) ∧ w.cell? ⟨b, o + 10, none⟩ = some (.slice m.A.A m.A.n m.A.c) ∧ w.cell? ⟨b, o + 11, none⟩ = some (.int .i64 m.A.e)
/-- Masses in a row. -/
structure LMs (w : World) (lo hi : Nat) (A : Option Addr) (n : Nat) (ms : List Mv) : Prop where
  len : ms.length = n
  big : n ≤ 9223372036854775807
  row : 0 < n → ∃ b off, A = some ⟨b, off, none⟩ ∧ lo ≤ b ∧ b < hi ∧ ∀ j (h : j < ms.length), MCells w b (off + j * 12) ms[j]
  rows : ∀ j (h : j < ms.length), MRows w lo hi ms[j]
theorem infoM : (Tryd.prog.info? 26).map (fun i => (i.zero, i.size, i.bytes)) = some (some (.agg #[.bool false, .slice none 0 0, .int .i64 0, .bool false, .slice none 0 0, .int .i64 0, .bool false, .slice none 0 0, .int .i64 0, .bool false, .slice none 0 0, .int .i64 0]), 12, 160) := by kernel_rfl
theorem MCells.blk {w w' : World} {b o : Nat} {m : Mv} (h : MCells w b o m) (hk : w'.heap[b]? = w.heap[b]?) : MCells w' b o m := by
  obtain ⟨h0, h1, h2, h3, h4, h5, h6, h7, h8, h9, h10, h11⟩ := h
  exact ⟨by rw [World.cell?_of_block hk]; exact h0, by rw [World.cell?_of_block hk]; exact h1, by rw [World.cell?_of_block hk]; exact h2, by rw [World.cell?_of_block hk]; exact h3, by rw [World.cell?_of_block hk]; exact h4, by rw [World.cell?_of_block hk]; exact h5, by rw [World.cell?_of_block hk]; exact h6, by rw [World.cell?_of_block hk]; exact h7, by rw [World.cell?_of_block hk]; exact h8, by rw [World.cell?_of_block hk]; exact h9, by rw [World.cell?_of_block hk]; exact h10, by rw [World.cell?_of_block hk]; exact h11⟩
theorem LMs.below {w w' : World} {lo hi B : Nat} {A : Option Addr} {n : Nat} {ms : List Mv} (h : LMs w lo hi A n ms) (hb : Below B w w') (hB : hi ≤ B) : LMs w' lo hi A n ms :=
  ⟨h.len, h.big, fun h0 => by
    obtain ⟨b, off, e, h1, h2, hc⟩ := h.row h0
    exact ⟨b, off, e, h1, h2, fun j hj => (hc j hj).blk (hb.block b (by omega))⟩, fun j hj => (h.rows j hj).below hb hB⟩
theorem LMs.more {w : World} {lo hi lo' hi' : Nat} {A : Option Addr} {n : Nat} {ms : List Mv} (h : LMs w lo hi A n ms) (hl : lo' ≤ lo) (hh : hi ≤ hi') : LMs w lo' hi' A n ms :=
  ⟨h.len, h.big, fun h0 => by
    obtain ⟨b, off, e, h1, h2, hc⟩ := h.row h0
    exact ⟨b, off, e, by omega, by omega, hc⟩, fun j hj => (h.rows j hj).more hl hh⟩
open Classical in
noncomputable def foldM : (Nat → Dn) → List Mv → Option (Nat → Dn)
  | R, [] => some R
  | R, m :: l => if ∀ x, x < 4 → (addD (R x) (dnM m x)).2 = 0 then foldM (fun x => (addD (R x) (dnM m x)).1) l else none
open Classical in
/-- What the sum of all is. -/
noncomputable def sumM (ms : List Mv) : (Nat → Dn) × Int :=
  if 4096 < ms.length then (zR, 4) else if ∃ m ∈ ms, ¬ m.may then (zR, 8) else match foldM zR ms with
    | some R => (R, 0)
    | none => (zR, 10)
open Classical in
theorem foldM_cons (R : Nat → Dn) (m : Mv) (l : List Mv) : foldM R (m :: l) = if ∀ x, x < 4 → (addD (R x) (dnM m x)).2 = 0 then foldM (fun x => (addD (R x) (dnM m x)).1) l else none := rfl
end Ma
end Go.Proofs.YtbbnbgllgomolaaDoor
namespace Go.Proofs.YtbbnbgllgomolaaDoor
open Go.RowKit
namespace Ma
open Dp Dy
/-- A mass's cells. -/
def cells12 (m : Mv) : List Value := [.bool m.S.s, .slice m.S.A m.S.n m.S.c, .int .i64 m.S.e, .bool m.W.s, .slice m.W.A m.W.n m.W.c, .int .i64 m.W.e, .bool m.C.s, .slice m.C.A m.C.n m.C.c, .int .i64 m.C.e, .bool m.A.s, .slice m.A.A m.A.n m.A.c, .int .i64 m.A.e]
/-- Those of masses. -/
def flatM : List Mv → List Value
  | [] => []
  | m :: l => cells12 m ++ flatM l
theorem flatM_append : ∀ l k, flatM (l ++ k) = flatM l ++ flatM k
  | [], _ => rfl
  | m :: l, k => by simp [flatM, flatM_append l k]
theorem flatM_one (m : Mv) : flatM [m] = cells12 m := by simp [flatM]
/-- A dyad's limbs lie in another block. -/
def Dv.off (d : Dv) (g : Option Nat) : Prop := ∀ a, d.A = some a → 0 < d.n → g ≠ some a.block
def Mv.off (m : Mv) (g : Option Nat) : Prop := ∀ x, x < 4 → (m.get x).off g
theorem ints_grown {w w' : World} {row : Option Nat} {k : IntKind} {A : Option Addr} {n : Nat} {xs : List Int} (h : Ints w 0 w.heap.size k A n xs) (hg : w.grownBy w' row) (hr : ∀ a, A = some a → 0 < n → row ≠ some a.block) : Ints w' 0 w'.heap.size k A n xs := by
  refine ⟨h.len, h.wf, h.big, fun h0 => ?_⟩
  obtain ⟨b, off, e, h1, h2, hc⟩ := h.row h0
  have hb := hg.block b h2 (fun k => hr _ e h0 k.symm)
  exact ⟨b, off, e, h1, Nat.lt_of_lt_of_le h2 hg.size, fun j hj => ⟨(World.cell?_of_block hb).trans (hc j hj).1, (World.frozen?_of_block hb).trans (hc j hj).2⟩⟩
theorem rows_grown {w w' : World} {row : Option Nat} {m : Mv} (h : MRows w 0 w.heap.size m) (hg : w.grownBy w' row) (hr : m.off row) : MRows w' 0 w'.heap.size m :=
  ⟨ints_grown h.S hg (hr 0 (by decide)), ints_grown h.W hg (hr 1 (by decide)), ints_grown h.C hg (hr 2 (by decide)), ints_grown h.A hg (hr 3 (by decide))⟩
/-- Rows below a block, or behind it, are off it. -/
theorem rows_off {w : World} {lo hi : Nat} {m : Mv} (h : MRows w lo hi m) {g : Option Nat} (hg : ∀ k, g = some k → k < lo ∨ hi ≤ k) : m.off g := fun x _ a e h0 hk => by
  obtain ⟨b, off, e', h1, h2, _⟩ := (h.get x).row h0
  rw [e'] at e
  injection e with e
  subst e
  have := hg _ hk
  simp only at this
  omega
theorem grown_of_below {w w' : World} (hb : Below w.heap.size w w') (row : Option Nat) : w.grownBy w' row := ⟨hb.os, hb.tape, hb.output, hb.size, fun k hk _ => hb.block k hk⟩
/-- A list of masses that the call owns. -/
structure OwnM (w : World) (base : Nat) (v : Value) (n : Nat) (ms : List Mv) : Prop where
  own : w.ownsRow base 26 12 v n (flatM ms)
  len : ms.length = n
  rows : ∀ m ∈ ms, MRows w 0 w.heap.size m
  off : ∀ m ∈ ms, m.off v.ownBlock
theorem OwnM.nil_ (w : World) (base : Nat) : OwnM w base (.slice none 0 0) 0 [] := ⟨World.ownsRow_nil .., rfl, fun _ h => absurd h (by simp), fun _ h => absurd h (by simp)⟩
theorem OwnM.on {w w' : World} {base : Nat} {v : Value} {n : Nat} {ms : List Mv} (h : OwnM w base v n ms) (hb : Below w.heap.size w w') : OwnM w' base v n ms :=
  ⟨h.own.kept (grown_of_below hb none) (by cases v.ownBlock <;> simp), h.len, fun m hm => ((h.rows m hm).below hb (Nat.le_refl _)).more (Nat.le_refl _) hb.size, h.off⟩
theorem OwnM.push {w w' : World} {base : Nat} {v v' : Value} {n : Nat} {ms : List Mv} (h : OwnM w base v n ms) {d : Mv} (hd : MRows w 0 w.heap.size d) (ho : d.off v.ownBlock)
    (hown : w'.ownsRow base 26 12 v' (n + 1) (flatM ms ++ cells12 d)) (hg : w.grownBy w' v.ownBlock) (hob : v'.ownBlock = v.ownBlock ∨ v'.ownBlock = some w.heap.size) : OwnM w' base v' (n + 1) (ms ++ [d]) := by
  refine ⟨by rw [flatM_append, flatM_one]; exact hown, by simp [h.len], fun m hm => ?_, fun m hm => ?_⟩
  · rcases List.mem_append.1 hm with hm | hm
    · exact rows_grown (h.rows m hm) hg (h.off m hm)
    · obtain rfl : m = d := by simpa using hm
      exact rows_grown hd hg ho
  · have hrow : MRows w 0 w.heap.size m ∧ m.off v.ownBlock := by
      rcases List.mem_append.1 hm with hm | hm
      · exact ⟨h.rows m hm, h.off m hm⟩
      · obtain rfl : m = d := by simpa using hm
        exact ⟨hd, ho⟩
    rcases hob with e | e
    · rw [e]
      exact hrow.2
    · rw [e]
      exact rows_off hrow.1 fun k hk => by
        injection hk with hk
        omega
theorem LMs.on {w w' : World} {A : Option Addr} {n : Nat} {ms : List Mv} (h : LMs w 0 w.heap.size A n ms) (hb : Below w.heap.size w w') : LMs w' 0 w'.heap.size A n ms := (h.below hb (Nat.le_refl _)).more (Nat.le_refl _) hb.size
end Ma
end Go.Proofs.YtbbnbgllgomolaaDoor
namespace Go.Proofs.YtbbnbgllgomolaaDoor
open Go.RowKit
namespace Ma
open Dp Dy
/-- Copies, one by one. -/
def Twins : List Mv → List Mv → Prop
  | [], [] => True
  | a :: l, u :: k => (∀ x, x < 4 → TwinV (a.get x) (u.get x)) ∧ Twins l k
  | _, _ => False
theorem Twins.len : ∀ {l k : List Mv}, Twins l k → k.length = l.length
  | [], [], _ => rfl
  | _ :: _, _ :: _, h => by simp [Twins.len h.2]
  | [], _ :: _, h => h.elim
  | _ :: _, [], h => h.elim
theorem Twins.get : ∀ {l k : List Mv}, Twins l k → ∀ (j : Nat) (h : j < l.length) (h' : j < k.length), ∀ x, x < 4 → TwinV (l[j].get x) (k[j].get x)
  | [], [], _, j, h, _ => absurd h (Nat.not_lt_zero _)
  | _ :: _, _ :: _, h, 0, _, _ => h.1
  | _ :: _, _ :: _, h, j + 1, h1, h2 => Twins.get h.2 j (by simpa using h1) (by simpa using h2)
  | [], _ :: _, h, _, _, _ => h.elim
  | _ :: _, [], h, _, _, _ => h.elim
theorem twins_dn {a u : Mv} (h : ∀ x, x < 4 → TwinV (a.get x) (u.get x)) : dnM u = dnM a := by
  funext j
  obtain ⟨g1, _, g3, g4, _⟩ := twin_all h j
  unfold dnM
  rw [g1, g3, g4]
theorem Twins.fold : ∀ {l k : List Mv}, Twins l k → ∀ R, foldM R k = foldM R l
  | [], [], _, _ => rfl
  | a :: l, u :: k, h, R => by
    rw [foldM_cons, foldM_cons, twins_dn h.1]
    by_cases hc : ∀ x, x < 4 → (addD (R x) (dnM a x)).2 = 0
    · rw [if_pos hc, if_pos hc]
      exact Twins.fold h.2 _
    · rw [if_neg hc, if_neg hc]
  | [], _ :: _, h, _ => h.elim
  | _ :: _, [], h, _ => h.elim
theorem Twins.bad : ∀ {l k : List Mv}, Twins l k → ((∃ m ∈ k, ¬ m.may) ↔ ∃ m ∈ l, ¬ m.may)
  | [], [], _ => by simp
  | a :: l, u :: k, h => by
    have ih := Twins.bad h.2
    have hm := twin_may h.1
    simp only [List.mem_cons, exists_eq_or_imp]
    rw [ih, hm]
  | [], _ :: _, h => h.elim
  | _ :: _, [], h => h.elim
theorem Twins.sum {l k : List Mv} (h : Twins l k) : sumM k = sumM l := by
  unfold sumM
  rw [h.len, h.fold]
  by_cases hl : 4096 < l.length
  · rw [if_pos hl, if_pos hl]
  · rw [if_neg hl, if_neg hl]
    by_cases hb : ∃ m ∈ l, ¬ m.may
    · rw [if_pos hb, if_pos (h.bad.2 hb)]
    · rw [if_neg hb, if_neg (fun k => hb (h.bad.1 k))]
end Ma
end Go.Proofs.YtbbnbgllgomolaaDoor
namespace Go.Proofs.YtbbnbgllgomolaaDoor
open Go.ChangeShapes Go.WideShapes Go.ChangeAt Go.RowKit
section
variable {H : Type} {enc : TypeId × Value → H} {P : Program} {W W' : World}
theorem trodAll_below (hl : laidOutB P = true) (hb : Below W.heap.size W W') : ∀ (ts : List TypeId) (vs : List Value) (ds : List (DataW H)) (ps : List MemPlace),
    DataW.TrodAll enc P W 0 (fun _ => true) true ts vs ds ps → (∀ t ∈ ts, P.readableRec t = true ∧ t < P.types.size) → (∀ x ∈ ps, x.block < W.heap.size) →
    DataW.TrodAll enc P W' 0 (fun b => decide (b < W.heap.size)) true ts vs ds ps
  | [], vs, ds, ps, h, _, _ => by
    obtain ⟨rfl, rfl, rfl⟩ := trodAll_nil h
    exact rfl
  | t :: ts, vs, ds, ps, h, hr, hlt => by
    obtain ⟨v, vs', d, ds', p, q, rfl, rfl, rfl, h1, h2⟩ := trodAll_cons h
    obtain ⟨r1, r2⟩ := hr t (List.mem_cons_self ..)
    exact ⟨p, q, Below.trod hl r1 r2 h1 hb fun x hx => hlt x (List.mem_append_left _ hx), trodAll_below hl hb ts vs' ds' q h2 (fun t ht => hr t (List.mem_cons_of_mem _ ht)) fun x hx => hlt x (List.mem_append_right _ hx), rfl⟩
/-- A law that answers true and leaves what was there as it was. -/
theorem law_post {f : Func} {s : ChangeSpec} {args : Array Value} {ds gs : List (DataW H)} {before : List MemPlace} (hW : DataW.Whole enc P f.params.toList s.vars false W args.toList ds gs before)
    (hv : s.vars = []) (hl : laidOutB P = true) (hr : f.params.toList.all (fun t => P.readableRec t && decide (t < P.types.size)) = true) {tb : TypeId} (hres : f.resultTypes = #[tb]) (htb : P.underlying tb = some .bool)
    (h1 : (s.fn H (ds ++ gs)).results = [.lit (.bool true)]) (h2 : (s.fn H (ds ++ gs)).args = ds) (h3 : (s.fn H (ds ++ gs)).vars = []) (hb : Below W.heap.size W W') : s.post enc P f false true false false W args (.bool true) W' := by
  have hW' := hW
  obtain ⟨p, q, hA, hV, rfl, hfz, hnd⟩ := hW
  have hr' : ∀ t ∈ f.params.toList, P.readableRec t = true ∧ t < P.types.size := fun t ht => by
    have := List.all_eq_true.1 hr t ht
    simpa using this
  refine ⟨ds, gs, _, [], p, [], hW', ?_, ?_, ?_, hb.frame _, fun h => by cases h⟩
  · rw [h1, hres]
    exact trodAll_mk1 (shut_bool htb true)
  · rw [h2]
    exact trodAll_below hl hb _ _ _ _ hA hr' fun x hx => hW'.lt x (List.mem_append_left _ hx)
  · rw [h3, hv]
    rfl
end
end Go.Proofs.YtbbnbgllgomolaaDoor
