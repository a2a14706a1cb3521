/- headcountref25: banded, both, quarter: walks (printed by a program of mine). -/
import Derived.Test.YtmbppgjhdcmckaaGreatDoorQuR1
import Derived.Test.YtmbppgjhdcmckaaGreatDoorQuL1
namespace Go.Proofs.YtmbppgjhdcmckaaGreatDoor
open Go.RowKit
namespace Ma
open Dp Dy
/-- What the reference tells. -/
def RToldR (w : World) (lo hi : Dn) (code : Int) (e : Ending) (w' : World) : Prop :=
  ∃ (x y : Dv), e = .returned (.tuple #[.agg #[.bool x.s, .slice x.A x.n x.c, .int .i64 x.e, .bool y.s, .slice y.A y.n y.c, .int .i64 y.e], .int .i64 code]) ∧ Is lo x ∧ Is hi y ∧ Below w.heap.size w w' ∧ DRow w' w.heap.size w'.heap.size x ∧ DRow w' w.heap.size w'.heap.size y
/-- A quotient, down and up. -/
noncomputable def bandX (a b : Dv) (k : Int) : Dn × Dn × Int :=
  if max (toX a.s a.xs a.e b.s b.xs b.e k a.s).2 (toX a.s a.xs a.e b.s b.xs b.e k (!a.s)).2 = 0 then ((toX a.s a.xs a.e b.s b.xs b.e k a.s).1, (toX a.s a.xs a.e b.s b.xs b.e k (!a.s)).1, 0)
  else (Dn.zero, Dn.zero, max (toX a.s a.xs a.e b.s b.xs b.e k a.s).2 (toX a.s a.xs a.e b.s b.xs b.e k (!a.s)).2)
set_option maxHeartbeats 12800000 in
set_option maxRecDepth 100000 in
/-- headcountref25.banded. -/
theorem banded_any (w : World) (a b : Dv) (k : Int) (hA : DRow w 0 w.heap.size a) (hB : DRow w 0 w.heap.size b) (lo hi : Dn) (code : Int) (h : bandX a b k = (lo, hi, code)) :
    Calls Tryz.prog 90 #[.agg #[.bool a.s, .slice a.A a.n a.c, .int .i64 a.e], .agg #[.bool b.s, .slice b.A b.n b.c, .int .i64 b.e], .int .i64 k] w (RToldR w lo hi code) := by
  obtain ⟨w1, hw1, bA, ja, S1⟩ := alloc_q w a
  obtain ⟨w2, hw2, bB, jb, S2⟩ := alloc_q w1 b
  obtain ⟨w3, hw3, bT, jc, S3⟩ := alloc_zt w2
  have s1 := ja.size
  have s2 := jb.size
  have s3 := jc.size
  have z1 : w1.heap.size = w.heap.size + 1 := by rw [← hw1]; simp
  have z2 : w2.heap.size = w.heap.size + 1 + 1 := by rw [← hw2]; simp [z1]
  have jw : Below w.heap.size w w3 := later ja (later jb jc)
  have SA : w.heap.size < w3.heap.size := by omega
  have SB : w.heap.size + 1 < w3.heap.size := by omega
  replace bA : QBox w3 w.heap.size a := ((later jb jc).block _ (by omega)).trans bA
  replace bB : QBox w3 w1.heap.size b := (jc.block _ S2).trans bB
  subst hw1 hw2
  rw [z1] at bB
  rw [z2] at bT S3
  obtain ⟨r1, c1, h1⟩ : ∃ r c, toX a.s a.xs a.e b.s b.xs b.e k a.s = (r, c) := ⟨_, _, rfl⟩
  obtain ⟨r2, c2, h2⟩ : ∃ r c, toX a.s a.xs a.e b.s b.xs b.e k (!a.s) = (r, c) := ⟨_, _, rfl⟩
  obtain ⟨m, hm⟩ : ∃ m : Int, max c1 c2 = m := ⟨_, rfl⟩
  have HB_ : Hid ((if m = 0 then (r1, r2, (0 : Int)) else (Dn.zero, Dn.zero, m)) = (lo, hi, code)) := Lib.hid (by unfold bandX at h; rw [h1, h2] at h; simp only [hm] at h; exact h)
  have H1 := Lib.hid h1
  have H2 := Lib.hid h2
  clear h h1 h2 ja jb jc
  go_enter Tryz.func90, Tryz.ntmps90
  have ra : w3.rangeAt (w.heap.size) 0 [.bool a.s, .slice a.A a.n a.c, .int .i64 a.e] := QBox.range (x := a) bA
  have rb : w3.rangeAt ((w.heap.size + 1)) 0 [.bool b.s, .slice b.A b.n b.c, .int .i64 b.e] := QBox.range (x := b) bB
  go_wp2_with (first
    | (refine wpList_load_mid rfl 24 (.tmp 3) rfl (w.heap.size) 0 rfl [.bool a.s, .slice a.A a.n a.c, .int .i64 a.e] _ ra Tryz.underlying24 rfl (by kernel_rfl) ?_)
    | (refine wpList_load_mid rfl 24 (.tmp 4) rfl ((w.heap.size + 1)) 0 rfl [.bool b.s, .slice b.A b.n b.c, .int .i64 b.e] _ rb Tryz.underlying24 rfl (by kernel_rfl) ?_))
  refine (rFloor_dv w3 a b (ints_on hA jw) (ints_on hB jw) k r1 c1 H1.out).mono ?_
  rintro e' v5 ⟨X, rfl, iX, j6, dX⟩
  try clear hw
  replace iX := Lib.hid iX
  have eX := dX
  replace dX := ints_all dX
  clear ra rb
  try clear hw3
  obtain ⟨u7, h10, bx, j8, s9⟩ := alloc_q v5 X
  have ra : u7.rangeAt (w.heap.size) 0 [.bool a.s, .slice a.A a.n a.c, .int .i64 a.e] := QBox.range (x := a) (box_later bA (later j6 j8) SA)
  have rb : u7.rangeAt ((w.heap.size + 1)) 0 [.bool b.s, .slice b.A b.n b.c, .int .i64 b.e] := QBox.range (x := b) (box_later bB (later j6 j8) SB)
  go_wp2_with (first
    | (refine wpList_store_nw rfl 24 (.tmp 8) (.tmp 17) rfl _ #[.bool X.s, .slice X.A X.n X.c, .int .i64 X.e] rfl rfl (by kernel_rfl) rfl (all_oneCell_toArray (cells3D_one X)) ?_; rw [h10])
    | (refine wpList_load_mid rfl 24 (.tmp 3) rfl (w.heap.size) 0 rfl [.bool a.s, .slice a.A a.n a.c, .int .i64 a.e] _ ra Tryz.underlying24 rfl (by kernel_rfl) ?_)
    | (refine wpList_load_mid rfl 24 (.tmp 4) rfl ((w.heap.size + 1)) 0 rfl [.bool b.s, .slice b.A b.n b.c, .int .i64 b.e] _ rb Tryz.underlying24 rfl (by kernel_rfl) ?_))
  refine (rCeil_dv u7 a b (ints_on hA (later jw (later j6 j8))) (ints_on hB (later jw (later j6 j8))) k r2 c2 H2.out).mono ?_
  rintro e' v11 ⟨Y, rfl, iY, j12, dY⟩
  try clear hw
  replace iY := Lib.hid iY
  have eY := dY
  replace dY := ints_all dY
  clear ra rb
  try clear h10
  obtain ⟨u13, h16, by_, j14, s15⟩ := alloc_q v11 Y
  by_cases m0 : m = 0
  · skip
    subst m0
    have he := HB_.out
    rw [if_pos rfl] at he
    injection he with he1 he2
    injection he2 with he2 he3
    subst he1 he2 he3
    clear HB_
    have s4 : w3.heap.size ≤ u13.heap.size := Below.size (later j6 (later j8 (later j12 j14)))
    replace eX : DRow u13 w3.heap.size u13.heap.size X := Ints.more (Ints.below eX (later j8 (later j12 j14)) (Nat.le_refl _)) (Nat.le_refl _) (Below.size (later j8 (later j12 j14)))
    replace eY : DRow u13 w3.heap.size u13.heap.size Y := Ints.more (Ints.below eY j14 (Nat.le_refl _)) (Below.size (later j6 j8)) (Below.size j14)
    have rx : u13.rangeAt (v5.heap.size) 0 [.bool X.s, .slice X.A X.n X.c, .int .i64 X.e] := QBox.range (x := X) (box_later bx (later j12 j14) s9)
    have ry : u13.rangeAt (v11.heap.size) 0 [.bool Y.s, .slice Y.A Y.n Y.c, .int .i64 Y.e] := QBox.range (x := Y) by_
    have u17_b : TBox u13 ((w.heap.size + 1 + 1)) ZDv ZDv := (box_later bT (later j6 (later j8 (later j12 j14))) S3)
    obtain ⟨u17, h18, bTu17, h18_b, h18_f, h18_l, h18_m⟩ := told_into u17_b X Y
    have h18_t := TBox.there u17_b
    replace h18 : u13.setCells ((w.heap.size + 1 + 1)) 0 (#[.bool X.s, .slice X.A X.n X.c, .int .i64 X.e, .bool Y.s, .slice Y.A Y.n Y.c, .int .i64 Y.e] : Array Value).toList = u17 := h18
    have h18_H := Lib.hid h18
    clear h18
    have fin_ := h18_b _ _ (later jw (later j6 (later j8 (later j12 j14)))) (by omega)
    go_wp2_with (first
      | (refine wpList_store_nw rfl 24 (.tmp 10) (.tmp 24) rfl _ #[.bool Y.s, .slice Y.A Y.n Y.c, .int .i64 Y.e] rfl rfl (by kernel_rfl) rfl (all_oneCell_toArray (cells3D_one Y)) ?_; rw [h16])
      | (refine wpList_load_mid rfl 24 (.tmp 8) rfl (v5.heap.size) 0 rfl [.bool X.s, .slice X.A X.n X.c, .int .i64 X.e] _ rx Tryz.underlying24 rfl (by kernel_rfl) ?_)
      | (refine wpList_load_mid rfl 24 (.tmp 10) rfl (v11.heap.size) 0 rfl [.bool Y.s, .slice Y.A Y.n Y.c, .int .i64 Y.e] _ ry Tryz.underlying24 rfl (by kernel_rfl) ?_)
      | (refine wpList_store_mid rfl 32 (.tmp 6) (.tmp 36) rfl ((w.heap.size + 1 + 1)) 0 #[.bool X.s, .slice X.A X.n X.c, .int .i64 X.e, .bool Y.s, .slice Y.A Y.n Y.c, .int .i64 Y.e] rfl rfl h18_t (by kernel_rfl) (all_oneCell_toArray (cells6D_one X Y)) ?_; rw [h18_H.out]))
    exact bodyPost_ret (results_row_slot Tryz.results90 _ _ (w.heap.size + 1 + 1) 32 #[.bool X.s, .slice X.A X.n X.c, .int .i64 X.e, .bool Y.s, .slice Y.A Y.n Y.c, .int .i64 Y.e] (0, 0) _ (.int .i64 0) rfl rfl bTu17 Tryz.underlying32 rfl (by kernel_rfl)) rfl ⟨X, Y, rfl, iX.out, iY.out, fin_, (intsR eX (w' := u17) (fun b h1 h2 => h18_f b (by omega))).more (by omega) (by omega), (intsR eY (w' := u17) (fun b h1 h2 => h18_f b (by omega))).more (by omega) (by omega)⟩
  · skip
    have he := HB_.out
    rw [if_neg m0] at he
    injection he with he1 he2
    injection he2 with he2 he3
    subst he1 he2 he3
    clear HB_
    have u19_b : TBox u13 ((w.heap.size + 1 + 1)) ZDv ZDv := (box_later bT (later j6 (later j8 (later j12 j14))) S3)
    obtain ⟨u19, h20, bTu19, h20_b, h20_f, h20_l, h20_m⟩ := told_into u19_b ZDv ZDv
    have h20_t := TBox.there u19_b
    replace h20 : u13.setCells ((w.heap.size + 1 + 1)) 0 (#[.bool false, .slice none 0 0, .int .i64 0, .bool false, .slice none 0 0, .int .i64 0] : Array Value).toList = u19 := h20
    have h20_H := Lib.hid h20
    clear h20
    have fin_ := h20_b _ _ (later jw (later j6 (later j8 (later j12 j14)))) (by omega)
    go_wp2_with (first
      | (refine wpList_store_nw rfl 24 (.tmp 10) (.tmp 24) rfl _ #[.bool Y.s, .slice Y.A Y.n Y.c, .int .i64 Y.e] rfl rfl (by kernel_rfl) rfl (all_oneCell_toArray (cells3D_one Y)) ?_; rw [h16])
      | (refine wpList_store_mid rfl 32 (.tmp 6) (.tmp 30) rfl ((w.heap.size + 1 + 1)) 0 #[.bool false, .slice none 0 0, .int .i64 0, .bool false, .slice none 0 0, .int .i64 0] rfl rfl h20_t (by kernel_rfl) (all_oneCell_toArray (cells6D_one ZDv ZDv)) ?_; rw [h20_H.out]))
    exact bodyPost_ret (results_row_slot Tryz.results90 _ _ (w.heap.size + 1 + 1) 32 #[.bool false, .slice none 0 0, .int .i64 0, .bool false, .slice none 0 0, .int .i64 0] (0, 0) _ (.int .i64 m) rfl rfl bTu19 Tryz.underlying32 rfl (by kernel_rfl)) rfl ⟨ZDv, ZDv, rfl, isZ, isZ, fin_, rowZ _ _ _, rowZ _ _ _⟩
set_option maxHeartbeats 12800000 in
set_option maxRecDepth 100000 in
/-- headcountref25.both. -/
theorem both25_any (w : World) (a : Dv) (hA : DRow w 0 w.heap.size a) (hn : a.n ≤ 1000000) :
    Calls Tryz.prog 89 #[.agg #[.bool a.s, .slice a.A a.n a.c, .int .i64 a.e]] w fun e w' => ∃ x y : Dv, e = .returned (.agg #[.bool x.s, .slice x.A x.n x.c, .int .i64 x.e, .bool y.s, .slice y.A y.n y.c, .int .i64 y.e]) ∧ (∀ r, Is r a → Is r x ∧ Is r y) ∧ Below w.heap.size w w' ∧ DRow w' w.heap.size w'.heap.size x ∧ DRow w' w.heap.size w'.heap.size y := by
  obtain ⟨w1, hw1, bA, ja, S1⟩ := alloc_q w a
  obtain ⟨w2, hw2, bT, jb, S2⟩ := alloc_zt w1
  have s1 := ja.size
  have s2 := jb.size
  have z1 : w1.heap.size = w.heap.size + 1 := by rw [← hw1]; simp
  have jw : Below w.heap.size w w2 := later ja jb
  have SA : w.heap.size < w2.heap.size := by omega
  replace bA : QBox w2 w.heap.size a := (jb.block _ S1).trans bA
  subst hw1
  rw [z1] at bT S2
  clear ja jb
  go_enter Tryz.func89, Tryz.ntmps89
  go_upto_region 1 with fail
  try rw [hw2]
  try clear hw2
  try clear hw
  refine region_E (Keeps w2) [5] (m := 6) (L := #[false, false, false, false, false, false]) (by kernel_rfl) (by rfl) (by rfl) ?_
  have j22 : Below w2.heap.size w2 w2.drew := (Below.refl _ _).drew
  generalize w2.drew = v21 at *
  have kpy23 : Keeps w2 v21 := fun p hp => Below.block j22 p hp
  refine readE (i := 0) (L := #[true, false, false, false, false, false]) (v := .agg #[.bool a.s, .slice a.A a.n a.c, .int .i64 a.e]) rfl (by rfl) (by kernel_rfl) (by kernel_rfl) (by kernel_rfl) (fun _ _ _ h => h) (by assumption) (by rfl) ?y23 ?z24
  case y23 =>
    intro w' h1
    exact run_load_op 24 (.tmp 1) rfl w.heap.size 0 rfl [.bool a.s, .slice a.A a.n a.c, .int .i64 a.e] _ (QBox.range (x := a) ((h1 _ SA).trans bA)) Tryz.underlying24 rfl (by kernel_rfl)
  try simp only [Act.put, List.setIfInBounds_toArray, List.set_cons_zero, List.set_cons_succ]
  have kpy25 : Keeps w2 v21 := fun p hp => Below.block j22 p hp
  refine readE (i := 2) (L := #[true, false, true, false, false, false]) (v := .agg #[.bool a.s, .slice a.A a.n a.c, .int .i64 a.e]) rfl (by rfl) (by kernel_rfl) (by kernel_rfl) (by kernel_rfl) (fun _ _ _ h => h) (by assumption) (by rfl) ?y25 ?z26
  case y25 =>
    intro w' h1
    exact run_load_op 24 (.tmp 1) rfl w.heap.size 0 rfl [.bool a.s, .slice a.A a.n a.c, .int .i64 a.e] _ (QBox.range (x := a) ((h1 _ SA).trans bA)) Tryz.underlying24 rfl (by kernel_rfl)
  try simp only [Act.put, List.setIfInBounds_toArray, List.set_cons_zero, List.set_cons_succ]
  refine stepK (i := 1) (L := #[true, true, true, false, false, false]) rfl (by rfl) (by kernel_rfl) (by rfl) (fun K hK => ?_)
  go_simp
  go_at_call 66
  refine (rTwin_dv v21 a (ints_on hA (later jw j22)) hn).mono ?_
  rintro e' v27 ⟨x, rfl, ix, j28, dx⟩
  refine hK _ _ ⟨fun _ _ => fun p hp => Below.block (later j22 j28) p hp, ?_⟩
  clear hK K
  try simp only [Act.put, List.setIfInBounds_toArray, List.set_cons_zero, List.set_cons_succ]
  refine stepK (i := 3) (L := #[true, true, true, true, false, false]) rfl (by rfl) (by kernel_rfl) (by rfl) (fun K hK => ?_)
  go_simp
  go_at_call 66
  refine (rTwin_dv v27 a (ints_on hA (later jw (later j22 j28))) hn).mono ?_
  rintro e' v29 ⟨y, rfl, iy, j30, dy⟩
  refine hK _ _ ⟨fun _ _ => fun p hp => Below.block (later j22 (later j28 j30)) p hp, ?_⟩
  clear hK K
  try simp only [Act.put, List.setIfInBounds_toArray, List.set_cons_zero, List.set_cons_succ]
  refine pureE (i := 4) (L := #[true, true, true, true, true, false]) (v := ?_) rfl (by rfl) (by kernel_rfl) (by kernel_rfl) (by kernel_rfl) (fun _ _ _ h => h) (by rfl) ?hy5 ?rest5
  case hy5 => intro w; go_simp; (try with_reducible rfl)
  try simp only [Act.put, List.setIfInBounds_toArray, List.set_cons_zero, List.set_cons_succ]
  have bT_ : TBox v29 (w.heap.size + 1) ZDv ZDv := (box_later bT (later j22 (later j28 j30)) S2)
  have s3 : w2.heap.size ≤ v29.heap.size := Below.size (later j22 (later j28 j30))
  have s4 : w2.heap.size ≤ v27.heap.size := Below.size (later j22 j28)
  have dx_ : DRow v29 w2.heap.size v29.heap.size x := Ints.more (Ints.below dx j30 (Nat.le_refl _)) (by have := Below.size j22; omega) (Below.size j30)
  have dy_ : DRow v29 w2.heap.size v29.heap.size y := Ints.more dy s4 (Nat.le_refl _)
  obtain ⟨U, hU, bU, hb_, hf_, l5, l6⟩ := told_into bT_ x y
  have fin_ := hb_ _ _ (later jw (later j22 (later j28 j30))) (by omega)
  refine stepK (i := 5) (L := #[true, true, true, true, true, true]) rfl (by rfl) (by kernel_rfl) (by rfl) (fun K hK => ?_)
  refine wp_store_mid 32 (.tmp 2) (.tmp 7) rfl (w.heap.size + 1) 0 #[.bool x.s, .slice x.A x.n x.c, .int .i64 x.e, .bool y.s, .slice y.A y.n y.c, .int .i64 y.e] rfl rfl bT_.there (by kernel_rfl) (all_oneCell_toArray (cells6D_one x y)) ?_
  rw [show v29.setCells (w.heap.size + 1) 0 (#[.bool x.s, .slice x.A x.n x.c, .int .i64 x.e, .bool y.s, .slice y.A y.n y.c, .int .i64 y.e] : Array Value).toList = U from hU]
  refine hK _ _ ⟨fun h => absurd h (by decide), ?_⟩
  clear hK K
  try simp only [Act.put, List.setIfInBounds_toArray, List.set_cons_zero, List.set_cons_succ]
  refine doneE (by kernel_rfl) ?_ _
  go_wp2
  exact bodyPost_ret (results_cell_row Tryz.results89 _ _ (w.heap.size + 1) 32 #[.bool x.s, .slice x.A x.n x.c, .int .i64 x.e, .bool y.s, .slice y.A y.n y.c, .int .i64 y.e] (0, 0) _ rfl bU Tryz.underlying32 rfl (by kernel_rfl)) rfl ⟨x, y, rfl, fun r h => ⟨ix r h, iy r h⟩, fin_, (intsR dx_ (w' := U) (fun b h1 h2 => hf_ b (by omega))).more (by omega) (by omega), (intsR dy_ (w' := U) (fun b h1 h2 => hf_ b (by omega))).more (by omega) (by omega)⟩
theorem may_half {r x : Dn} {c : Int} (h : halfD r = (x, c)) : x.May := by
  have := half_may r
  rw [h] at this
  exact this
set_option maxHeartbeats 12800000 in
set_option maxRecDepth 100000 in
/-- headcountref25.quarter. -/
theorem quarter_any (w : World) (n : Int) (h0 : -9223372036854775808 ≤ n) (h1 : n ≤ 9223372036854775807) :
    Calls Tryz.prog 91 #[.int .i64 n] w (NumR w (quarterD n)) := by
  obtain ⟨w1, hw1, bQ, ja, S1⟩ := alloc_zq w
  have s1 := ja.size
  obtain ⟨r1, c1, e1⟩ : ∃ r c, halfD (whole n) = (r, c) := ⟨_, _, rfl⟩
  obtain ⟨r2, c2, e2⟩ : ∃ r c, halfD r1 = (r, c) := ⟨_, _, rfl⟩
  have HQ : Hid (quarterD n = r2) := Lib.hid (by unfold quarterD; rw [e1]; simp only [e2])
  have H1 := Lib.hid e1
  have H2 := Lib.hid e2
  clear e1 e2
  go_enter Tryz.func91, Tryz.ntmps91
  go_wp2_with fail
  refine (rOf_dv w1 n h0 h1).mono ?_
  rintro e' v31 ⟨X, rfl, iX, j32, dX⟩
  try clear hw
  replace iX := Lib.hid iX
  have eX := dX
  replace dX := ints_all dX
  go_wp2_with fail
  refine (rHalf_dv v31 X dX iX.out (whole_may h0 h1) r1 c1 H1.out).mono ?_
  rintro e' v33 ⟨Y, rfl, iY, j34, dY⟩
  try clear hw
  replace iY := Lib.hid iY
  have eY := dY
  replace dY := ints_all dY
  obtain ⟨u35, h38, by_, j36, s37⟩ := alloc_q v33 Y
  have ra : u35.rangeAt (v33.heap.size) 0 [.bool Y.s, .slice Y.A Y.n Y.c, .int .i64 Y.e] := QBox.range (x := Y) by_
  go_wp2_with (first
    | (refine wpList_store_nw rfl 24 (.tmp 3) (.tmp 11) rfl _ #[.bool Y.s, .slice Y.A Y.n Y.c, .int .i64 Y.e] rfl rfl (by kernel_rfl) rfl (all_oneCell_toArray (cells3D_one Y)) ?_; rw [h38])
    | (refine wpList_load_mid rfl 24 (.tmp 3) rfl (v33.heap.size) 0 rfl [.bool Y.s, .slice Y.A Y.n Y.c, .int .i64 Y.e] _ ra Tryz.underlying24 rfl (by kernel_rfl) ?_))
  refine (rHalf_dv u35 Y (ints_on dY j36) iY.out (may_half H1.out) r2 c2 H2.out).mono ?_
  rintro e' v39 ⟨Z, rfl, iZ, j40, dZ⟩
  try clear hw
  replace iZ := Lib.hid iZ
  have eZ := dZ
  replace dZ := ints_all dZ
  clear ra
  try clear h38
  have s4 : w1.heap.size ≤ u35.heap.size := Below.size (later j32 (later j34 j36))
  obtain ⟨u41, h44, bz, j42, s43⟩ := alloc_q v39 Z
  have bQ_ : QBox u41 w.heap.size ZDv := (box_later bQ (later j32 (later j34 (later j36 (later j40 j42)))) S1)
  have eZ_ : DRow u41 w1.heap.size u41.heap.size Z := Ints.more (Ints.below eZ j42 (Nat.le_refl _)) s4 (Below.size j42)
  obtain ⟨U, hU, bU, hb_, hf_, l5, l6⟩ := dyad_into bQ_ Z
  have th := QBox.there bQ_
  replace hU : u41.setCells w.heap.size 0 (#[.bool Z.s, .slice Z.A Z.n Z.c, .int .i64 Z.e] : Array Value).toList = U := hU
  have HU := Lib.hid hU
  clear hU
  have fin_ := hb_ _ _ (later ja (later j32 (later j34 (later j36 (later j40 j42))))) (Nat.le_refl _)
  have rz : u41.rangeAt (v39.heap.size) 0 [.bool Z.s, .slice Z.A Z.n Z.c, .int .i64 Z.e] := QBox.range (x := Z) bz
  go_wp2_with (first
    | (refine wpList_store_nw rfl 24 (.tmp 5) (.tmp 16) rfl _ #[.bool Z.s, .slice Z.A Z.n Z.c, .int .i64 Z.e] rfl rfl (by kernel_rfl) rfl (all_oneCell_toArray (cells3D_one Z)) ?_; rw [h44])
    | (refine wpList_load_mid rfl 24 (.tmp 5) rfl (v39.heap.size) 0 rfl [.bool Z.s, .slice Z.A Z.n Z.c, .int .i64 Z.e] _ rz Tryz.underlying24 rfl (by kernel_rfl) ?_)
    | (refine wpList_store_mid rfl 24 (.tmp 2) (.tmp 18) rfl w.heap.size 0 #[.bool Z.s, .slice Z.A Z.n Z.c, .int .i64 Z.e] rfl rfl th (by kernel_rfl) (all_oneCell_toArray (cells3D_one Z)) ?_; rw [HU.out]))
  exact bodyPost_ret (results_cell_row Tryz.results91 _ _ w.heap.size 24 #[.bool Z.s, .slice Z.A Z.n Z.c, .int .i64 Z.e] (0, 0) _ rfl bU Tryz.underlying24 rfl (by kernel_rfl)) rfl ⟨Z, rfl, by rw [HQ.out]; exact iZ.out, fin_, (intsR eZ_ (w' := U) (fun b h1 h2 => hf_ b (by omega))).more (by omega) (by omega)⟩
end Ma
end Go.Proofs.YtmbppgjhdcmckaaGreatDoor
