/- headcountlaw25.QueryTells: the law's walk (printed by a program of mine). -/
import Derived.Test.YtmbppgjhdcmckaaGreatDoorQuT1
import Derived.Test.YtmbppgjhdcmckaaGreatDoorPsW2
import Derived.Test.YtmbppgjhdcmckaaGreatDoorPsW1
namespace Go.Proofs.YtmbppgjhdcmckaaGreatDoor
open Go.RowKit
namespace Ma
open Dp Dy
set_option maxHeartbeats 51200000 in
set_option maxRecDepth 100000 in
/-- headcountlaw25.QueryTells. -/
theorem tells25_walk (w : World) (p : Pv) (hR : PRows w 0 w.heap.size p) (kind k : Int) (a1 a2 : Dv) (hA1 : DRow w 0 w.heap.size a1) (hA2 : DRow w 0 w.heap.size a2) (b1 b2 : Dv) (hB1 : DRow w 0 w.heap.size b1) (hB2 : DRow w 0 w.heap.size b2) (hT : Tab w) :
    Calls Tryz.prog 3 #[.agg #[.bool p.M.S.s, .slice p.M.S.A p.M.S.n p.M.S.c, .int .i64 p.M.S.e, .bool p.M.W.s, .slice p.M.W.A p.M.W.n p.M.W.c, .int .i64 p.M.W.e, .bool p.M.C.s, .slice p.M.C.A p.M.C.n p.M.C.c, .int .i64 p.M.C.e, .bool p.M.A.s, .slice p.M.A.A p.M.A.n p.M.A.c, .int .i64 p.M.A.e, .bool p.h, .int .i64 p.mn, .int .i64 p.mx, .slice p.A p.n p.c], .int .u8 kind, .int .i64 k, .agg #[.bool a1.s, .slice a1.A a1.n a1.c, .int .i64 a1.e, .bool a2.s, .slice a2.A a2.n a2.c, .int .i64 a2.e], .agg #[.bool b1.s, .slice b1.A b1.n b1.c, .int .i64 b1.e, .bool b2.s, .slice b2.A b2.n b2.c, .int .i64 b2.e]] w fun e w' => e = .returned (.bool true) ∧ Below w.heap.size w w' := by
  obtain ⟨w1, hw1, bP, ja, S1⟩ := alloc_p w p
  obtain ⟨w2, hw2, bA, jb, S2⟩ := alloc_t w1 a1 a2
  obtain ⟨w3, hw3, bB, jc, S3⟩ := alloc_t w2 b1 b2
  have s1 := ja.size
  have s2 := jb.size
  have s3 := jc.size
  have z1 : w1.heap.size = w.heap.size + 1 := by rw [← hw1]; simp
  have z2 : w2.heap.size = w.heap.size + 1 + 1 := by rw [← hw2]; simp [z1]
  have jw : Below w.heap.size w w3 := later ja (later jb jc)
  have SP : w.heap.size < w3.heap.size := by omega
  have SA : w.heap.size + 1 < w3.heap.size := by omega
  replace bP : PBox w3 w.heap.size p := ((later jb jc).block _ (by omega)).trans bP
  replace bA : TBox w3 w1.heap.size a1 a2 := (jc.block _ S2).trans bA
  subst hw1 hw2
  rw [z1] at bA
  rw [z2] at bB S3
  obtain ⟨g, hg⟩ : ∃ g, greatP p = g := ⟨_, rfl⟩
  obtain ⟨g2, hg2⟩ : ∃ g, (greatV a1 || greatV a2) = g := ⟨_, rfl⟩
  obtain ⟨g3, hg3⟩ : ∃ g, (greatV b1 || greatV b2) = g := ⟨_, rfl⟩
  obtain ⟨lo, hi, code, hq⟩ : ∃ x y c, askQ p kind k = (x, y, c) := ⟨_, _, _, rfl⟩
  obtain ⟨sm_, hsm⟩ : ∃ s, sameT a1 a2 b1 b2 = s := ⟨_, rfl⟩
  have HG := Lib.hid hg
  have HG2 := Lib.hid hg2
  have HG3 := Lib.hid hg3
  have HQ := Lib.hid hq
  have HS := Lib.hid hsm
  have HM : Hid (lo.May ∧ hi.May) := Lib.hid (ask_mayQ hq)
  clear hg hg2 hg3 hq hsm ja jb jc
  go_enter Tryz.func3, Tryz.ntmps3
  have rP := PBox.range bP
  go_wp2_with (first
    | (refine wpList_load_mid rfl 30 (.tmp 5) rfl (w.heap.size) 0 rfl [.bool p.M.S.s, .slice p.M.S.A p.M.S.n p.M.S.c, .int .i64 p.M.S.e, .bool p.M.W.s, .slice p.M.W.A p.M.W.n p.M.W.c, .int .i64 p.M.W.e, .bool p.M.C.s, .slice p.M.C.A p.M.C.n p.M.C.c, .int .i64 p.M.C.e, .bool p.M.A.s, .slice p.M.A.A p.M.A.n p.M.A.c, .int .i64 p.M.A.e, .bool p.h, .int .i64 p.mn, .int .i64 p.mx, .slice p.A p.n p.c] _ rP Tryz.underlying30 rfl (by kernel_rfl) ?_))
  refine (GreatPart_any w3 p (PRows.on hR jw) g HG.out).mono ?_
  rintro e' v1 ⟨rfl, j2⟩
  try clear hw
  clear rP
  try clear hw3
  cases g
  case true =>
    go_wp2
    go_ret
    exact ⟨rfl, (later jw j2)⟩
  have rT := TBox.range (box_later bA j2 SA)
  go_wp2_with (first
    | (refine wpList_load_midG (by rfl) 32 (.tmp 8) rfl (w.heap.size + 1) 0 rfl [.bool a1.s, .slice a1.A a1.n a1.c, .int .i64 a1.e, .bool a2.s, .slice a2.A a2.n a2.c, .int .i64 a2.e] _ rT Tryz.underlying32 rfl (by kernel_rfl) ?_))
  refine (great25_any v1 a1 a2 (ints_on hA1 (later jw j2)) (ints_on hA2 (later jw j2)) g2 HG2.out).mono ?_
  rintro e' v3 ⟨rfl, j4⟩
  try clear hw
  clear rT
  cases g2
  case true =>
    go_wp2
    go_ret
    exact ⟨rfl, (later jw (later j2 j4))⟩
  have rT := TBox.range (box_later bB (later j2 j4) S3)
  go_wp2_with (first
    | (refine wpList_load_midG (by rfl) 32 (.tmp 9) rfl (w.heap.size + 1 + 1) 0 rfl [.bool b1.s, .slice b1.A b1.n b1.c, .int .i64 b1.e, .bool b2.s, .slice b2.A b2.n b2.c, .int .i64 b2.e] _ rT Tryz.underlying32 rfl (by kernel_rfl) ?_))
  refine (great25_any v3 b1 b2 (ints_on hB1 (later jw (later j2 j4))) (ints_on hB2 (later jw (later j2 j4))) g3 HG3.out).mono ?_
  rintro e' v5 ⟨rfl, j6⟩
  try clear hw
  clear rT
  cases g3
  case true =>
    go_wp2
    go_ret
    exact ⟨rfl, (later jw (later j2 (later j4 j6)))⟩
  obtain ⟨hn1, hn2⟩ := small_partQ hR HG.out
  have rP := PBox.range (box_later bP (later j2 (later j4 j6)) SP)
  go_wp2_with (first
    | (refine wpList_load_mid rfl 30 (.tmp 5) rfl (w.heap.size) 0 rfl [.bool p.M.S.s, .slice p.M.S.A p.M.S.n p.M.S.c, .int .i64 p.M.S.e, .bool p.M.W.s, .slice p.M.W.A p.M.W.n p.M.W.c, .int .i64 p.M.W.e, .bool p.M.C.s, .slice p.M.C.A p.M.C.n p.M.C.c, .int .i64 p.M.C.e, .bool p.M.A.s, .slice p.M.A.A p.M.A.n p.M.A.c, .int .i64 p.M.A.e, .bool p.h, .int .i64 p.mn, .int .i64 p.mx, .slice p.A p.n p.c] _ rP Tryz.underlying30 rfl (by kernel_rfl) ?_))
  refine (RTwinPart_any v5 p (PRows.on hR (later jw (later j2 (later j4 j6)))) hn1 hn2).mono ?_
  rintro e' v7 ⟨q, rfl, tq, j8, Rq⟩
  try clear hw
  clear rP
  replace tq := Lib.hid tq
  replace Rq := Rq.more (Nat.zero_le _) (Nat.le_refl _)
  obtain ⟨u1, h1, bO, j1, s4⟩ := alloc_p v7 q
  have rP := PBox.range bO
  go_wp2_with (first
    | (refine wpList_store_nw rfl 30 (.tmp 11) (.tmp 28) rfl _ #[.bool q.M.S.s, .slice q.M.S.A q.M.S.n q.M.S.c, .int .i64 q.M.S.e, .bool q.M.W.s, .slice q.M.W.A q.M.W.n q.M.W.c, .int .i64 q.M.W.e, .bool q.M.C.s, .slice q.M.C.A q.M.C.n q.M.C.c, .int .i64 q.M.C.e, .bool q.M.A.s, .slice q.M.A.A q.M.A.n q.M.A.c, .int .i64 q.M.A.e, .bool q.h, .int .i64 q.mn, .int .i64 q.mx, .slice q.A q.n q.c] rfl rfl (by kernel_rfl) rfl (all_oneCell_toArray (cells16_one q)) ?_; rw [h1])
    | (refine wpList_load_mid rfl 30 (.tmp 11) rfl (v7.heap.size) 0 rfl [.bool q.M.S.s, .slice q.M.S.A q.M.S.n q.M.S.c, .int .i64 q.M.S.e, .bool q.M.W.s, .slice q.M.W.A q.M.W.n q.M.W.c, .int .i64 q.M.W.e, .bool q.M.C.s, .slice q.M.C.A q.M.C.n q.M.C.c, .int .i64 q.M.C.e, .bool q.M.A.s, .slice q.M.A.A q.M.A.n q.M.A.c, .int .i64 q.M.A.e, .bool q.h, .int .i64 q.mn, .int .i64 q.mx, .slice q.A q.n q.c] _ rP Tryz.underlying30 rfl (by kernel_rfl) ?_))
  refine (Ask_any u1 q (PRows.on Rq j1) (tab_later hT (later jw (later j2 (later j4 (later j6 (later j8 j1)))))) kind k lo hi code ((askQ_twin tq.out kind k).trans HQ.out)).mono ?_
  rintro e' v9 ⟨X, Y, B, rfl, iX, iY, j10, l1, l2, rX, rY⟩
  try clear hw
  clear rP
  try clear h1
  replace iX := Lib.hid iX
  replace iY := Lib.hid iY
  have dX : DRow v9 0 v9.heap.size X := Ints.more rX (Nat.zero_le _) l2
  have dY : DRow v9 0 v9.heap.size Y := Ints.more rY (Nat.zero_le _) (Nat.le_refl _)
  obtain ⟨u11, h14, bX, j12, s13⟩ := alloc_t v9 X Y
  have rP := PBox.range (box_later bP (later j2 (later j4 (later j6 (later j8 (later j1 (later j10 j12)))))) SP)
  go_wp2_with (first
    | (refine wpList_store_nw rfl 32 (.tmp 12) (.tmp 34) rfl _ #[.bool X.s, .slice X.A X.n X.c, .int .i64 X.e, .bool Y.s, .slice Y.A Y.n Y.c, .int .i64 Y.e] rfl rfl (by kernel_rfl) rfl (all_oneCell_toArray (cells6D_one X Y)) ?_; rw [h14])
    | (refine wpList_load_mid rfl 30 (.tmp 5) rfl (w.heap.size) 0 rfl [.bool p.M.S.s, .slice p.M.S.A p.M.S.n p.M.S.c, .int .i64 p.M.S.e, .bool p.M.W.s, .slice p.M.W.A p.M.W.n p.M.W.c, .int .i64 p.M.W.e, .bool p.M.C.s, .slice p.M.C.A p.M.C.n p.M.C.c, .int .i64 p.M.C.e, .bool p.M.A.s, .slice p.M.A.A p.M.A.n p.M.A.c, .int .i64 p.M.A.e, .bool p.h, .int .i64 p.mn, .int .i64 p.mx, .slice p.A p.n p.c] _ rP Tryz.underlying30 rfl (by kernel_rfl) ?_))
  refine (RAsk_any u11 p (PRows.on hR (later jw (later j2 (later j4 (later j6 (later j8 (later j1 (later j10 j12)))))))) (tab_later hT (later jw (later j2 (later j4 (later j6 (later j8 (later j1 (later j10 j12)))))))) kind k lo hi code HQ.out).mono ?_
  rintro e' v15 ⟨X2, Y2, rfl, iX2, iY2, j16, rX2, rY2⟩
  try clear hw
  clear rP
  try clear h14
  replace iX2 := Lib.hid iX2
  replace iY2 := Lib.hid iY2
  have dX2 : DRow v15 0 v15.heap.size X2 := Ints.more rX2 (Nat.zero_le _) (Nat.le_refl _)
  have dY2 : DRow v15 0 v15.heap.size Y2 := Ints.more rY2 (Nat.zero_le _) (Nat.le_refl _)
  obtain ⟨u17, h20, bY, j18, s19⟩ := alloc_t v15 X2 Y2
  go_upto_region 6 with (first | (refine wpList_store_nw rfl 32 (.tmp 14) (.tmp 41) rfl _ #[.bool X2.s, .slice X2.A X2.n X2.c, .int .i64 X2.e, .bool Y2.s, .slice Y2.A Y2.n Y2.c, .int .i64 Y2.e] rfl rfl (by kernel_rfl) rfl (all_oneCell_toArray (cells6D_one X2 Y2)) ?_; rw [h20]))
  try clear h20
  try clear hw
  refine region_E (Keeps u17) [] (m := 23) (L := #[false, false, false, false, false, false, false, false, false, false, false, false, false, false, false, false, false, false, false, false, false, false, false]) (by kernel_rfl) (by rfl) (by rfl) ?_
  have j22 : Below u17.heap.size u17 u17.drew := (Below.refl _ _).drew
  generalize u17.drew = v21 at *
  have e1 := Lib.hid (show sameT X Y X2 Y2 = true by unfold sameT; rw [Is.same iX.out iX2.out, Is.same iY.out iY2.out]; rfl)
  have kpy23 : Keeps u17 v21 := fun p hp => Below.block j22 p hp
  refine readE (i := 0) (L := #[true, false, false, false, false, false, false, false, false, false, false, false, false, false, false, false, false, false, false, false, false, false, false]) (v := .agg #[.bool X.s, .slice X.A X.n X.c, .int .i64 X.e, .bool Y.s, .slice Y.A Y.n Y.c, .int .i64 Y.e]) rfl (by rfl) (by kernel_rfl) (by kernel_rfl) (by kernel_rfl) (fun _ _ _ h => h) (by assumption) (by rfl) ?y23 ?z24
  case y23 =>
    intro w' h1
    exact run_load_op 32 (.tmp 12) rfl (v9.heap.size) 0 rfl [.bool X.s, .slice X.A X.n X.c, .int .i64 X.e, .bool Y.s, .slice Y.A Y.n Y.c, .int .i64 Y.e] _ (TBox.range ((h1 _ (Nat.lt_of_lt_of_le s13 (Below.size (later j16 j18)))).trans (box_later bX (later j16 j18) s13))) Tryz.underlying32 rfl (by kernel_rfl)
  try simp only [Act.put, List.setIfInBounds_toArray, List.set_cons_zero, List.set_cons_succ]
  have kpy25 : Keeps u17 v21 := fun p hp => Below.block j22 p hp
  refine readE (i := 1) (L := #[true, true, false, false, false, false, false, false, false, false, false, false, false, false, false, false, false, false, false, false, false, false, false]) (v := .agg #[.bool X2.s, .slice X2.A X2.n X2.c, .int .i64 X2.e, .bool Y2.s, .slice Y2.A Y2.n Y2.c, .int .i64 Y2.e]) rfl (by rfl) (by kernel_rfl) (by kernel_rfl) (by kernel_rfl) (fun _ _ _ h => h) (by assumption) (by rfl) ?y25 ?z26
  case y25 =>
    intro w' h1
    exact run_load_op 32 (.tmp 14) rfl (v15.heap.size) 0 rfl [.bool X2.s, .slice X2.A X2.n X2.c, .int .i64 X2.e, .bool Y2.s, .slice Y2.A Y2.n Y2.c, .int .i64 Y2.e] _ (TBox.range ((h1 _ s19).trans bY)) Tryz.underlying32 rfl (by kernel_rfl)
  try simp only [Act.put, List.setIfInBounds_toArray, List.set_cons_zero, List.set_cons_succ]
  refine stepK (i := 2) (L := #[true, true, true, false, false, false, false, false, false, false, false, false, false, false, false, false, false, false, false, false, false, false, false]) rfl (by rfl) (by kernel_rfl) (by rfl) (fun K hK => ?_)
  go_simp
  go_at_call 12
  refine (rSameT_any v21 X Y X2 Y2 (ints_on dX (later j12 (later j16 (later j18 j22)))) (ints_on dY (later j12 (later j16 (later j18 j22)))) (ints_on dX2 (later j18 j22)) (ints_on dY2 (later j18 j22)) true e1.out).mono ?_
  rintro e' v27 ⟨rfl, j28⟩
  refine hK _ _ ⟨fun _ _ => fun p hp => Below.block (later j22 j28) p hp, ?_⟩
  clear hK K
  try simp only [Act.put, List.setIfInBounds_toArray, List.set_cons_zero, List.set_cons_succ]
  refine pureE (i := 3) (L := #[true, true, true, true, false, false, false, false, false, false, false, false, false, false, false, false, false, false, false, false, false, false, false]) (v := ?_) rfl (by rfl) (by kernel_rfl) (by kernel_rfl) (by kernel_rfl) (fun _ _ _ h => h) (by rfl) ?hy4 ?rest4
  case hy4 => intro w; go_simp; (try with_reducible rfl)
  try simp only [Act.put, List.setIfInBounds_toArray, List.set_cons_zero, List.set_cons_succ]
  refine pureE (i := 4) (L := #[true, true, true, true, true, false, false, false, false, false, false, false, false, false, false, false, false, false, false, false, false, false, false]) (v := ?_) rfl (by rfl) (by kernel_rfl) (by kernel_rfl) (by kernel_rfl) (fun _ _ _ h => h) (by rfl) ?hy5 ?rest5
  case hy5 => intro w; go_simp; (try with_reducible rfl)
  try simp only [Act.put, List.setIfInBounds_toArray, List.set_cons_zero, List.set_cons_succ]
  refine pureE (i := 5) (L := #[true, true, true, true, true, true, false, false, false, false, false, false, false, false, false, false, false, false, false, false, false, false, false]) (v := ?_) rfl (by rfl) (by kernel_rfl) (by kernel_rfl) (by kernel_rfl) (fun _ _ _ h => h) (by rfl) ?hy6 ?rest6
  case hy6 => intro w; go_simp; (try with_reducible rfl)
  try simp only [Act.put, List.setIfInBounds_toArray, List.set_cons_zero, List.set_cons_succ]
  refine pureE (i := 6) (L := #[true, true, true, true, true, true, true, false, false, false, false, false, false, false, false, false, false, false, false, false, false, false, false]) (v := ?_) rfl (by rfl) (by kernel_rfl) (by kernel_rfl) (by kernel_rfl) (fun _ _ _ h => h) (by rfl) ?hy7 ?rest7
  case hy7 => intro w; go_simp; (try with_reducible rfl)
  try simp only [Act.put, List.setIfInBounds_toArray, List.set_cons_zero, List.set_cons_succ]
  refine pureE (i := 7) (L := #[true, true, true, true, true, true, true, true, false, false, false, false, false, false, false, false, false, false, false, false, false, false, false]) (v := ?_) rfl (by rfl) (by kernel_rfl) (by kernel_rfl) (by kernel_rfl) (fun _ _ _ h => h) (by rfl) ?hy8 ?rest8
  case hy8 => intro w; go_simp; (try with_reducible rfl)
  try simp only [Act.put, List.setIfInBounds_toArray, List.set_cons_zero, List.set_cons_succ]
  refine pureE (i := 8) (L := #[true, true, true, true, true, true, true, true, true, false, false, false, false, false, false, false, false, false, false, false, false, false, false]) (v := ?_) rfl (by rfl) (by kernel_rfl) (by kernel_rfl) (by kernel_rfl) (fun _ _ _ h => h) (by rfl) ?hy9 ?rest9
  case hy9 => intro w; go_simp; (try with_reducible rfl)
  try simp only [Act.put, List.setIfInBounds_toArray, List.set_cons_zero, List.set_cons_succ]
  have kpy29 : Keeps u17 v27 := fun p hp => Below.block (later j22 j28) p hp
  refine readE (i := 9) (L := #[true, true, true, true, true, true, true, true, true, true, false, false, false, false, false, false, false, false, false, false, false, false, false]) (v := .agg #[.bool a1.s, .slice a1.A a1.n a1.c, .int .i64 a1.e, .bool a2.s, .slice a2.A a2.n a2.c, .int .i64 a2.e]) rfl (by rfl) (by kernel_rfl) (by kernel_rfl) (by kernel_rfl) (fun _ _ _ h => h) (by assumption) (by rfl) ?y29 ?z30
  case y29 =>
    intro w' h1
    exact run_load_op 32 (.tmp 8) rfl ((w.heap.size + 1)) 0 rfl [.bool a1.s, .slice a1.A a1.n a1.c, .int .i64 a1.e, .bool a2.s, .slice a2.A a2.n a2.c, .int .i64 a2.e] _ (TBox.range ((h1 _ (Nat.lt_of_lt_of_le SA (Below.size (later j2 (later j4 (later j6 (later j8 (later j1 (later j10 (later j12 (later j16 j18))))))))))).trans (box_later bA (later j2 (later j4 (later j6 (later j8 (later j1 (later j10 (later j12 (later j16 j18)))))))) SA))) Tryz.underlying32 rfl (by kernel_rfl)
  try simp only [Act.put, List.setIfInBounds_toArray, List.set_cons_zero, List.set_cons_succ]
  have kpy31 : Keeps u17 v27 := fun p hp => Below.block (later j22 j28) p hp
  refine readE (i := 10) (L := #[true, true, true, true, true, true, true, true, true, true, true, false, false, false, false, false, false, false, false, false, false, false, false]) (v := .agg #[.bool b1.s, .slice b1.A b1.n b1.c, .int .i64 b1.e, .bool b2.s, .slice b2.A b2.n b2.c, .int .i64 b2.e]) rfl (by rfl) (by kernel_rfl) (by kernel_rfl) (by kernel_rfl) (fun _ _ _ h => h) (by assumption) (by rfl) ?y31 ?z32
  case y31 =>
    intro w' h1
    exact run_load_op 32 (.tmp 9) rfl ((w.heap.size + 1 + 1)) 0 rfl [.bool b1.s, .slice b1.A b1.n b1.c, .int .i64 b1.e, .bool b2.s, .slice b2.A b2.n b2.c, .int .i64 b2.e] _ (TBox.range ((h1 _ (Nat.lt_of_lt_of_le S3 (Below.size (later j2 (later j4 (later j6 (later j8 (later j1 (later j10 (later j12 (later j16 j18))))))))))).trans (box_later bB (later j2 (later j4 (later j6 (later j8 (later j1 (later j10 (later j12 (later j16 j18)))))))) S3))) Tryz.underlying32 rfl (by kernel_rfl)
  try simp only [Act.put, List.setIfInBounds_toArray, List.set_cons_zero, List.set_cons_succ]
  have kpy33 : Keeps u17 v27 := fun p hp => Below.block (later j22 j28) p hp
  refine readE (i := 12) (L := #[true, true, true, true, true, true, true, true, true, true, true, false, true, false, false, false, false, false, false, false, false, false, false]) (v := .agg #[.bool a1.s, .slice a1.A a1.n a1.c, .int .i64 a1.e, .bool a2.s, .slice a2.A a2.n a2.c, .int .i64 a2.e]) rfl (by rfl) (by kernel_rfl) (by kernel_rfl) (by kernel_rfl) (fun _ _ _ h => h) (by assumption) (by rfl) ?y33 ?z34
  case y33 =>
    intro w' h1
    exact run_load_op 32 (.tmp 8) rfl ((w.heap.size + 1)) 0 rfl [.bool a1.s, .slice a1.A a1.n a1.c, .int .i64 a1.e, .bool a2.s, .slice a2.A a2.n a2.c, .int .i64 a2.e] _ (TBox.range ((h1 _ (Nat.lt_of_lt_of_le SA (Below.size (later j2 (later j4 (later j6 (later j8 (later j1 (later j10 (later j12 (later j16 j18))))))))))).trans (box_later bA (later j2 (later j4 (later j6 (later j8 (later j1 (later j10 (later j12 (later j16 j18)))))))) SA))) Tryz.underlying32 rfl (by kernel_rfl)
  try simp only [Act.put, List.setIfInBounds_toArray, List.set_cons_zero, List.set_cons_succ]
  have kpy35 : Keeps u17 v27 := fun p hp => Below.block (later j22 j28) p hp
  refine readE (i := 13) (L := #[true, true, true, true, true, true, true, true, true, true, true, false, true, true, false, false, false, false, false, false, false, false, false]) (v := .agg #[.bool b1.s, .slice b1.A b1.n b1.c, .int .i64 b1.e, .bool b2.s, .slice b2.A b2.n b2.c, .int .i64 b2.e]) rfl (by rfl) (by kernel_rfl) (by kernel_rfl) (by kernel_rfl) (fun _ _ _ h => h) (by assumption) (by rfl) ?y35 ?z36
  case y35 =>
    intro w' h1
    exact run_load_op 32 (.tmp 9) rfl ((w.heap.size + 1 + 1)) 0 rfl [.bool b1.s, .slice b1.A b1.n b1.c, .int .i64 b1.e, .bool b2.s, .slice b2.A b2.n b2.c, .int .i64 b2.e] _ (TBox.range ((h1 _ (Nat.lt_of_lt_of_le S3 (Below.size (later j2 (later j4 (later j6 (later j8 (later j1 (later j10 (later j12 (later j16 j18))))))))))).trans (box_later bB (later j2 (later j4 (later j6 (later j8 (later j1 (later j10 (later j12 (later j16 j18)))))))) S3))) Tryz.underlying32 rfl (by kernel_rfl)
  try simp only [Act.put, List.setIfInBounds_toArray, List.set_cons_zero, List.set_cons_succ]
  refine stepK (i := 11) (L := #[true, true, true, true, true, true, true, true, true, true, true, true, true, true, false, false, false, false, false, false, false, false, false]) rfl (by rfl) (by kernel_rfl) (by rfl) (fun K hK => ?_)
  go_simp
  go_at_call 13
  refine (qSame_any v27 a1 a2 b1 b2 (ints_on hA1 (later jw (later j2 (later j4 (later j6 (later j8 (later j1 (later j10 (later j12 (later j16 (later j18 (later j22 j28)))))))))))) (ints_on hA2 (later jw (later j2 (later j4 (later j6 (later j8 (later j1 (later j10 (later j12 (later j16 (later j18 (later j22 j28)))))))))))) (ints_on hB1 (later jw (later j2 (later j4 (later j6 (later j8 (later j1 (later j10 (later j12 (later j16 (later j18 (later j22 j28)))))))))))) (ints_on hB2 (later jw (later j2 (later j4 (later j6 (later j8 (later j1 (later j10 (later j12 (later j16 (later j18 (later j22 j28)))))))))))) sm_ HS.out).mono ?_
  rintro e' v37 ⟨rfl, j38⟩
  refine hK _ _ ⟨fun _ _ => fun p hp => Below.block (later j22 (later j28 j38)) p hp, ?_⟩
  clear hK K
  try simp only [Act.put, List.setIfInBounds_toArray, List.set_cons_zero, List.set_cons_succ]
  refine stepK (i := 14) (L := #[true, true, true, true, true, true, true, true, true, true, true, true, true, true, true, false, false, false, false, false, false, false, false]) rfl (by rfl) (by kernel_rfl) (by rfl) (fun K hK => ?_)
  go_simp
  go_at_call 12
  refine (rSameT_any v37 a1 a2 b1 b2 (ints_on hA1 (later jw (later j2 (later j4 (later j6 (later j8 (later j1 (later j10 (later j12 (later j16 (later j18 (later j22 (later j28 j38))))))))))))) (ints_on hA2 (later jw (later j2 (later j4 (later j6 (later j8 (later j1 (later j10 (later j12 (later j16 (later j18 (later j22 (later j28 j38))))))))))))) (ints_on hB1 (later jw (later j2 (later j4 (later j6 (later j8 (later j1 (later j10 (later j12 (later j16 (later j18 (later j22 (later j28 j38))))))))))))) (ints_on hB2 (later jw (later j2 (later j4 (later j6 (later j8 (later j1 (later j10 (later j12 (later j16 (later j18 (later j22 (later j28 j38))))))))))))) sm_ HS.out).mono ?_
  rintro e' v39 ⟨rfl, j40⟩
  refine hK _ _ ⟨fun _ _ => fun p hp => Below.block (later j22 (later j28 (later j38 j40))) p hp, ?_⟩
  clear hK K
  try simp only [Act.put, List.setIfInBounds_toArray, List.set_cons_zero, List.set_cons_succ]
  refine pureE (i := 15) (L := #[true, true, true, true, true, true, true, true, true, true, true, true, true, true, true, true, false, false, false, false, false, false, false]) (v := ?_) rfl (by rfl) (by kernel_rfl) (by kernel_rfl) (by kernel_rfl) (fun _ _ _ h => h) (by rfl) ?hy16 ?rest16
  case hy16 => intro w; go_simp; (try with_reducible rfl)
  try simp only [Act.put, List.setIfInBounds_toArray, List.set_cons_zero, List.set_cons_succ]
  refine pureE (i := 16) (L := #[true, true, true, true, true, true, true, true, true, true, true, true, true, true, true, true, true, false, false, false, false, false, false]) (v := ?_) rfl (by rfl) (by kernel_rfl) (by kernel_rfl) (by kernel_rfl) (fun _ _ _ h => h) (by rfl) ?hy17 ?rest17
  case hy17 => intro w; go_simp; (try with_reducible rfl)
  try simp only [Act.put, List.setIfInBounds_toArray, List.set_cons_zero, List.set_cons_succ]
  refine pureE (i := 17) (L := #[true, true, true, true, true, true, true, true, true, true, true, true, true, true, true, true, true, true, false, false, false, false, false]) (v := ?_) rfl (by rfl) (by kernel_rfl) (by kernel_rfl) (by kernel_rfl) (fun _ _ _ h => h) (by rfl) ?hy18 ?rest18
  case hy18 => intro w; go_simp; (try with_reducible rfl)
  try simp only [Act.put, List.setIfInBounds_toArray, List.set_cons_zero, List.set_cons_succ]
  have kpy41 : Keeps u17 v39 := fun p hp => Below.block (later j22 (later j28 (later j38 j40))) p hp
  refine readE (i := 18) (L := #[true, true, true, true, true, true, true, true, true, true, true, true, true, true, true, true, true, true, true, false, false, false, false]) (v := .agg #[.bool X.s, .slice X.A X.n X.c, .int .i64 X.e, .bool Y.s, .slice Y.A Y.n Y.c, .int .i64 Y.e]) rfl (by rfl) (by kernel_rfl) (by kernel_rfl) (by kernel_rfl) (fun _ _ _ h => h) (by assumption) (by rfl) ?y41 ?z42
  case y41 =>
    intro w' h1
    exact run_load_op 32 (.tmp 12) rfl (v9.heap.size) 0 rfl [.bool X.s, .slice X.A X.n X.c, .int .i64 X.e, .bool Y.s, .slice Y.A Y.n Y.c, .int .i64 Y.e] _ (TBox.range ((h1 _ (Nat.lt_of_lt_of_le s13 (Below.size (later j16 j18)))).trans (box_later bX (later j16 j18) s13))) Tryz.underlying32 rfl (by kernel_rfl)
  try simp only [Act.put, List.setIfInBounds_toArray, List.set_cons_zero, List.set_cons_succ]
  have kpy43 : Keeps u17 v39 := fun p hp => Below.block (later j22 (later j28 (later j38 j40))) p hp
  refine readE (i := 19) (L := #[true, true, true, true, true, true, true, true, true, true, true, true, true, true, true, true, true, true, true, true, false, false, false]) (v := .agg #[.bool X2.s, .slice X2.A X2.n X2.c, .int .i64 X2.e, .bool Y2.s, .slice Y2.A Y2.n Y2.c, .int .i64 Y2.e]) rfl (by rfl) (by kernel_rfl) (by kernel_rfl) (by kernel_rfl) (fun _ _ _ h => h) (by assumption) (by rfl) ?y43 ?z44
  case y43 =>
    intro w' h1
    exact run_load_op 32 (.tmp 14) rfl (v15.heap.size) 0 rfl [.bool X2.s, .slice X2.A X2.n X2.c, .int .i64 X2.e, .bool Y2.s, .slice Y2.A Y2.n Y2.c, .int .i64 Y2.e] _ (TBox.range ((h1 _ s19).trans bY)) Tryz.underlying32 rfl (by kernel_rfl)
  try simp only [Act.put, List.setIfInBounds_toArray, List.set_cons_zero, List.set_cons_succ]
  refine stepK (i := 20) (L := #[true, true, true, true, true, true, true, true, true, true, true, true, true, true, true, true, true, true, true, true, true, false, false]) rfl (by rfl) (by kernel_rfl) (by rfl) (fun K hK => ?_)
  go_simp
  go_at_call 13
  refine (qSame_any v39 X Y X2 Y2 (ints_on dX (later j12 (later j16 (later j18 (later j22 (later j28 (later j38 j40))))))) (ints_on dY (later j12 (later j16 (later j18 (later j22 (later j28 (later j38 j40))))))) (ints_on dX2 (later j18 (later j22 (later j28 (later j38 j40))))) (ints_on dY2 (later j18 (later j22 (later j28 (later j38 j40))))) true e1.out).mono ?_
  rintro e' v45 ⟨rfl, j46⟩
  refine hK _ _ ⟨fun _ _ => fun p hp => Below.block (later j22 (later j28 (later j38 (later j40 j46)))) p hp, ?_⟩
  clear hK K
  try simp only [Act.put, List.setIfInBounds_toArray, List.set_cons_zero, List.set_cons_succ]
  refine pureE (i := 21) (L := #[true, true, true, true, true, true, true, true, true, true, true, true, true, true, true, true, true, true, true, true, true, true, false]) (v := ?_) rfl (by rfl) (by kernel_rfl) (by kernel_rfl) (by kernel_rfl) (fun _ _ _ h => h) (by rfl) ?hy22 ?rest22
  case hy22 => intro w; go_simp; (try with_reducible rfl)
  try simp only [Act.put, List.setIfInBounds_toArray, List.set_cons_zero, List.set_cons_succ]
  refine pureE (i := 22) (L := #[true, true, true, true, true, true, true, true, true, true, true, true, true, true, true, true, true, true, true, true, true, true, true]) (v := ?_) rfl (by rfl) (by kernel_rfl) (by kernel_rfl) (by kernel_rfl) (fun _ _ _ h => h) (by rfl) ?hy23 ?rest23
  case hy23 => intro w; go_simp; (try with_reducible rfl)
  try simp only [Act.put, List.setIfInBounds_toArray, List.set_cons_zero, List.set_cons_succ]
  refine doneE (by kernel_rfl) ?_ _
  have rl := TBox.low (box_later bX (later j16 (later j18 (later j22 (later j28 (later j38 (later j40 j46)))))) s13)
  go_wp2_with (first | (refine wpList_load_mid rfl 24 (.tmp 65) rfl (v9.heap.size) 0 rfl [.bool X.s, .slice X.A X.n X.c, .int .i64 X.e] _ rl Tryz.underlying24 rfl (by kernel_rfl) ?_))
  clear rl
  have lA : u1.heap.size ≤ v9.heap.size := Below.size j10
  have lV : v9.heap.size ≤ v45.heap.size := Below.size (later j12 (later j16 (later j18 (later j22 (later j28 (later j38 (later j40 j46)))))))
  have lB : v9.heap.size ≤ u11.heap.size := Below.size j12
  have lC : u11.heap.size ≤ v15.heap.size := Below.size j16
  have lw : w.heap.size ≤ u1.heap.size := Below.size (later jw (later j2 (later j4 (later j6 (later j8 j1)))))
  have l3 : w3.heap.size ≤ u1.heap.size := Below.size (later j2 (later j4 (later j6 (later j8 j1))))
  have gx := (Nat.lt_of_lt_of_le s13 (Below.size (later j16 (later j18 (later j22 (later j28 (later j38 (later j40 j46))))))))
  have gy := (Nat.lt_of_lt_of_le s19 (Below.size (later j22 (later j28 (later j38 (later j40 j46))))))
  have go_ : v7.heap.size < u1.heap.size := s4
  have FX : DRow v45 u1.heap.size B X := Ints.below rX (later j12 (later j16 (later j18 (later j22 (later j28 (later j38 (later j40 j46))))))) l2
  have FY : DRow v45 B v9.heap.size Y := Ints.below rY (later j12 (later j16 (later j18 (later j22 (later j28 (later j38 (later j40 j46))))))) (Nat.le_refl _)
  have FY2 : DRow v45 u11.heap.size v15.heap.size Y2 := Ints.below rY2 (later j18 (later j22 (later j28 (later j38 (later j40 j46))))) (Nat.le_refl _)
  have lVB : v15.heap.size ≤ v45.heap.size := Below.size (later j18 (later j22 (later j28 (later j38 (later j40 j46)))))
  have FQ : PRows v45 0 u1.heap.size q := PRows.more (PRows.below ((PRows.on Rq j1)) (later j10 (later j12 (later j16 (later j18 (later j22 (later j28 (later j38 (later j40 j46)))))))) (Nat.le_refl _)) (Nat.le_refl _) (Nat.le_refl _)
  have FP : PRows v45 0 w.heap.size p := PRows.below hR (later jw (later j2 (later j4 (later j6 (later j8 (later j1 (later j10 (later j12 (later j16 (later j18 (later j22 (later j28 (later j38 (later j40 j46)))))))))))))) (Nat.le_refl _)
  have BX : TBox v45 (v9.heap.size) X Y := (box_later bX (later j16 (later j18 (later j22 (later j28 (later j38 (later j40 j46)))))) s13)
  have BY : TBox v45 (v15.heap.size) X2 Y2 := (box_later bY (later j22 (later j28 (later j38 (later j40 j46)))) s19)
  have BO : PBox v45 (v7.heap.size) q := (box_later bO (later j10 (later j12 (later j16 (later j18 (later j22 (later j28 (later j38 (later j40 j46)))))))) s4)
  have BP : PBox v45 w.heap.size p := (box_later bP (later j2 (later j4 (later j6 (later j8 (later j1 (later j10 (later j12 (later j16 (later j18 (later j22 (later j28 (later j38 (later j40 j46))))))))))))) SP)
  have fin := (later jw (later j2 (later j4 (later j6 (later j8 (later j1 (later j10 (later j12 (later j16 (later j18 (later j22 (later j28 (later j38 (later j40 j46))))))))))))))
  refine (spoil25_any v45 X.s X.A X.n X.c X.e u1.heap.size B (WrR.of FX) (is_big iX.out HM.out.1 FX) (by omega) (by omega)).mono ?_
  rintro e' y1 ⟨rfl, k1, k2, _⟩
  have l4 : v45.heap.size ≤ y1.heap.size := k1.size
  replace FY := ints_spoilt FY k1 k2 (by omega) (.inr (Nat.le_refl _))
  replace FY2 := ints_spoilt FY2 k1 k2 (by omega) (.inr (by omega))
  replace FQ := prows_spoilt FQ k1 k2 (by omega) (.inl (Nat.le_refl _))
  replace FP := prows_spoilt FP k1 k2 (by omega) (.inl lw)
  replace BX : TBox y1 (v9.heap.size) X Y := box_spoilt BX k1 k2 (.inr (by omega))
  replace BY : TBox y1 (v15.heap.size) X2 Y2 := box_spoilt BY k1 k2 (.inr (by omega))
  replace BO : PBox y1 (v7.heap.size) q := box_spoilt BO k1 k2 (.inl (by omega))
  replace BP : PBox y1 w.heap.size p := box_spoilt BP k1 k2 (.inl (by omega))
  replace fin := fin.trans (k1.mono lw)
  have e2 := Lib.hid (Is.same iY.out iY2.out)
  have dY_ : DRow y1 0 y1.heap.size Y := Ints.more FY (Nat.zero_le _) (by omega)
  have dY2_ : DRow y1 0 y1.heap.size Y2 := Ints.more FY2 (Nat.zero_le _) (by omega)
  have r1 := TBox.high BX
  have r2 := TBox.high BY
  go_wp2_with (first
    | (refine wpList_load_midG (by rfl) 24 (.tmp 70) rfl (v9.heap.size) 3 rfl [.bool Y.s, .slice Y.A Y.n Y.c, .int .i64 Y.e] _ r1 Tryz.underlying24 rfl (by kernel_rfl) ?_)
    | (refine wpList_load_midG (by rfl) 24 (.tmp 72) rfl (v15.heap.size) 3 rfl [.bool Y2.s, .slice Y2.A Y2.n Y2.c, .int .i64 Y2.e] _ r2 Tryz.underlying24 rfl (by kernel_rfl) ?_))
  refine (Pa.rSame_any y1 _ _ _ _ _ _ _ _ _ _ _ _ dY_ dY2_ true e2.out).mono ?_
  rintro e' v47 ⟨rfl, j48⟩
  try clear hw
  clear r1 r2
  have rl := TBox.high (box_later BX j48 (by omega))
  go_wp2_with (first | (refine wpList_load_mid rfl 24 (.tmp 76) rfl (v9.heap.size) 3 rfl [.bool Y.s, .slice Y.A Y.n Y.c, .int .i64 Y.e] _ rl Tryz.underlying24 rfl (by kernel_rfl) ?_))
  clear rl
  have l5 : y1.heap.size ≤ v47.heap.size := Below.size j48
  replace FY := Ints.below FY j48 (by omega)
  replace FQ := PRows.below FQ j48 (by omega)
  replace FP := PRows.below FP j48 (by omega)
  replace BO : PBox v47 (v7.heap.size) q := (Below.block j48 _ (by omega)).trans BO
  replace BP : PBox v47 w.heap.size p := (Below.block j48 _ (by omega)).trans BP
  replace fin := fin.trans (Below.mono j48 (by omega))
  refine (spoil25_any v47 Y.s Y.A Y.n Y.c Y.e B v9.heap.size (WrR.of FY) (is_big iY.out HM.out.2 FY) (by omega) (by omega)).mono ?_
  rintro e' y2 ⟨rfl, k3, k4, _⟩
  have l6 : v47.heap.size ≤ y2.heap.size := k3.size
  replace FQ := prows_spoilt FQ k3 k4 (by omega) (.inl (by omega))
  replace FP := prows_spoilt FP k3 k4 (by omega) (.inl (by omega))
  replace BO : PBox y2 (v7.heap.size) q := box_spoilt BO k3 k4 (.inl (by omega))
  replace BP : PBox y2 w.heap.size p := box_spoilt BP k3 k4 (.inl (by omega))
  replace fin := fin.trans (k3.mono (by omega))
  have e3 := Lib.hid (twinP_sameQ tq.out)
  have r1 := PBox.range BO
  have r2 := PBox.range BP
  go_wp2_with (first
    | (refine wpList_load_midG (by rfl) 30 (.tmp 11) rfl (v7.heap.size) 0 rfl [.bool q.M.S.s, .slice q.M.S.A q.M.S.n q.M.S.c, .int .i64 q.M.S.e, .bool q.M.W.s, .slice q.M.W.A q.M.W.n q.M.W.c, .int .i64 q.M.W.e, .bool q.M.C.s, .slice q.M.C.A q.M.C.n q.M.C.c, .int .i64 q.M.C.e, .bool q.M.A.s, .slice q.M.A.A q.M.A.n q.M.A.c, .int .i64 q.M.A.e, .bool q.h, .int .i64 q.mn, .int .i64 q.mx, .slice q.A q.n q.c] _ r1 Tryz.underlying30 rfl (by kernel_rfl) ?_)
    | (refine wpList_load_midG (by rfl) 30 (.tmp 5) rfl (w.heap.size) 0 rfl [.bool p.M.S.s, .slice p.M.S.A p.M.S.n p.M.S.c, .int .i64 p.M.S.e, .bool p.M.W.s, .slice p.M.W.A p.M.W.n p.M.W.c, .int .i64 p.M.W.e, .bool p.M.C.s, .slice p.M.C.A p.M.C.n p.M.C.c, .int .i64 p.M.C.e, .bool p.M.A.s, .slice p.M.A.A p.M.A.n p.M.A.c, .int .i64 p.M.A.e, .bool p.h, .int .i64 p.mn, .int .i64 p.mx, .slice p.A p.n p.c] _ r2 Tryz.underlying30 rfl (by kernel_rfl) ?_))
  refine (RSamePart_any y2 q p (FQ.more (Nat.le_refl _) (by omega)) (FP.more (Nat.le_refl _) (by omega)) true e3.out).mono ?_
  rintro e' v49 ⟨rfl, j50⟩
  try clear hw
  clear r1 r2
  go_wp2
  go_ret
  exact ⟨rfl, fin.trans (Below.mono j50 (by omega))⟩
end Ma
end Go.Proofs.YtmbppgjhdcmckaaGreatDoor
