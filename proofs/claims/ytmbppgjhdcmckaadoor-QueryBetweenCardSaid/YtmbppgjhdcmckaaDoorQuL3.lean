/- headcountlaw25.held and alive: walks (printed by a program of mine). -/
import Derived.Test.YtmbppgjhdcmckaaDoorQuL3P
namespace Go.Proofs.YtmbppgjhdcmckaaDoor
open Go.RowKit
namespace Ma
open Dp Dy
set_option maxHeartbeats 6400000 in
set_option maxRecDepth 100000 in
/-- headcountlaw25.held. -/
theorem held_any (w : World) :
    Calls Tryd.prog 18 #[] w fun e w' => ∃ q : Pv, e = .returned (.agg #[.bool q.M.S.s, .slice q.M.S.A q.M.S.n q.M.S.c, .int .i64 q.M.S.e, .bool q.M.W.s, .slice q.M.W.A q.M.W.n q.M.W.c, .int .i64 q.M.W.e, .bool q.M.C.s, .slice q.M.C.A q.M.C.n q.M.C.c, .int .i64 q.M.C.e, .bool q.M.A.s, .slice q.M.A.A q.M.A.n q.M.A.c, .int .i64 q.M.A.e, .bool q.h, .int .i64 q.mn, .int .i64 q.mx, .slice q.A q.n q.c]) ∧ HeldP q ∧ Below w.heap.size w w' ∧ PRows w' w.heap.size w'.heap.size q := by
  obtain ⟨w1, hw, bZ, j1, S1⟩ := alloc_zp w
  have lw1 := j1.size
  go_enter Tryd.func18, Tryd.ntmps18
  go_wp2_with fail
  refine (Of_any w1 5 (by decide) (by decide) false 5 rfl rfl).mono ?_
  rintro e' w2 ⟨A1, n1, rfl, j2, I1⟩
  go_wp2_with fail
  refine (Of_any w2 2 (by decide) (by decide) false 2 rfl rfl).mono ?_
  rintro e' w3 ⟨A2, n2, rfl, j3, I2⟩
  go_wp2_with fail
  refine (over_any w3 1 2 (by decide) (by decide)).mono ?_
  rintro e' w4 ⟨x, rfl, h1, h2, h3, h4, j4, I3⟩
  have HX := Lib.hid (is_over (m := 1) (e := 2) h1 h2 h3 (by decide) (by decide))
  clear h1 h2 h3 h4
  go_wp2_with fail
  refine (Of_any w4 3 (by decide) (by decide) false 3 rfl rfl).mono ?_
  rintro e' w5 ⟨A3, n3, rfl, j5, I4⟩
  have s2 := j2.size
  have s3 := j3.size
  have s4 := j4.size
  have s5 := j5.size
  have jb := later j1 (later j2 (later j3 (later j4 j5)))
  have bz : PBox w5 w.heap.size ZPv := ((later j2 (later j3 (later j4 j5))).block _ S1).trans bZ
  obtain ⟨U, hU, bU, hb, hf, l5, l6⟩ := part_into bz ⟨⟨⟨false, A1, n1, n1, 0, canon 4294967296 5⟩, ⟨false, A2, n2, n2, 0, canon 4294967296 2⟩, x, ⟨false, A3, n3, n3, 0, canon 4294967296 3⟩⟩, false, 0, 0, none, 0, 0, []⟩
  have th := bz.there
  replace hU : w5.setCells w.heap.size 0 (#[.bool false, .slice A1 n1 n1, .int .i64 0, .bool false, .slice A2 n2 n2, .int .i64 0, .bool x.s, .slice x.A x.n x.c, .int .i64 x.e, .bool false, .slice A3 n3 n3, .int .i64 0, .bool false, .int .i64 0, .int .i64 0, .slice none 0 0] : Array Value).toList = U := hU
  have HU := Lib.hid hU
  clear hU
  have fin := hb _ _ jb (Nat.le_refl _)
  obtain ⟨Q, hQ⟩ : ∃ q : Pv, q = ⟨⟨⟨false, A1, n1, n1, 0, canon 4294967296 5⟩, ⟨false, A2, n2, n2, 0, canon 4294967296 2⟩, x, ⟨false, A3, n3, n3, 0, canon 4294967296 3⟩⟩, false, 0, 0, none, 0, 0, []⟩ := ⟨_, rfl⟩
  rw [← hQ] at bU
  have RU : PRows U w.heap.size U.heap.size Q := by
    rw [hQ]
    exact ⟨⟨(intsR (I1.below (later j3 (later j4 j5)) (Nat.le_refl _)) (w' := U) (fun b h1 h2 => hf b (by omega))).more (by omega) (by omega), (intsR (I2.below (later j4 j5) (Nat.le_refl _)) (w' := U) (fun b h1 h2 => hf b (by omega))).more (by omega) (by omega), (intsR (I3.below j5 (Nat.le_refl _)) (w' := U) (fun b h1 h2 => hf b (by omega))).more (by omega) (by omega), (intsR I4 (w' := U) (fun b h1 h2 => hf b (by omega))).more (by omega) (by omega)⟩, Ints.nil_ ..⟩
  have PO : HeldP Q := by
    rw [hQ]
    exact ⟨fourR_is ⟨rfl, rfl, rfl⟩ ⟨rfl, rfl, rfl⟩ HX.out ⟨rfl, rfl, rfl⟩, rfl, rfl, rfl, rfl, rfl⟩
  clear I1 I2 I3 I4 hQ bz
  go_wp2_with (first
    | ((refine wpList_store_mid rfl 30 (.tmp 0) (.tmp 6) rfl w.heap.size 0 #[.bool false, .slice A1 n1 n1, .int .i64 0, .bool false, .slice A2 n2 n2, .int .i64 0, .bool x.s, .slice x.A x.n x.c, .int .i64 x.e, .bool false, .slice A3 n3 n3, .int .i64 0, .bool false, .int .i64 0, .int .i64 0, .slice none 0 0] rfl rfl th (by kernel_rfl) (all_oneCell_toArray (cells16_one ⟨⟨⟨false, A1, n1, n1, 0, canon 4294967296 5⟩, ⟨false, A2, n2, n2, 0, canon 4294967296 2⟩, x, ⟨false, A3, n3, n3, 0, canon 4294967296 3⟩⟩, false, 0, 0, none, 0, 0, []⟩)) ?_); rw [HU.out]))
  exact bodyPost_ret (results_cell_row Tryd.results18 _ _ w.heap.size 30 #[.bool Q.M.S.s, .slice Q.M.S.A Q.M.S.n Q.M.S.c, .int .i64 Q.M.S.e, .bool Q.M.W.s, .slice Q.M.W.A Q.M.W.n Q.M.W.c, .int .i64 Q.M.W.e, .bool Q.M.C.s, .slice Q.M.C.A Q.M.C.n Q.M.C.c, .int .i64 Q.M.C.e, .bool Q.M.A.s, .slice Q.M.A.A Q.M.A.n Q.M.A.c, .int .i64 Q.M.A.e, .bool Q.h, .int .i64 Q.mn, .int .i64 Q.mx, .slice Q.A Q.n Q.c] (0, 0) _ rfl bU Tryd.underlying30 rfl (by kernel_rfl)) rfl ⟨Q, rfl, PO, fin, RU⟩
set_option maxHeartbeats 51200000 in
set_option maxRecDepth 100000 in
/-- headcountlaw25.alive. -/
theorem alive25_any (w : World) (hT : Tab w) : Calls Tryd.prog 6 #[] w fun e w' => e = .returned (.bool true) ∧ Below w.heap.size w w' := by
  go_enter Tryd.func6, Tryd.ntmps6
  go_wp2_with fail
  refine (held_any w).mono ?_
  rintro e' v1 ⟨p, rfl, P, j2, Rp⟩
  try clear hw
  replace P := Lib.hid P
  have hRp := Rp.more (Nat.zero_le _) (Nat.le_refl _)
  obtain ⟨u3, h6, bp, j4, s5⟩ := alloc_p v1 p
  replace h6 : v1.alloc (.cells #[.bool p.M.S.s, .slice p.M.S.A p.M.S.n p.M.S.c, .int .i64 p.M.S.e, .bool p.M.W.s, .slice p.M.W.A p.M.W.n p.M.W.c, .int .i64 p.M.W.e, .bool p.M.C.s, .slice p.M.C.A p.M.C.n p.M.C.c, .int .i64 p.M.C.e, .bool p.M.A.s, .slice p.M.A.A p.M.A.n p.M.A.c, .int .i64 p.M.A.e, .bool p.h, .int .i64 p.mn, .int .i64 p.mx, .slice p.A p.n p.c] 30) = u3 := h6
  go_wp2_with (first | (refine wpList_store_nw rfl 30 (.tmp 1) (.tmp 5) rfl _ #[.bool p.M.S.s, .slice p.M.S.A p.M.S.n p.M.S.c, .int .i64 p.M.S.e, .bool p.M.W.s, .slice p.M.W.A p.M.W.n p.M.W.c, .int .i64 p.M.W.e, .bool p.M.C.s, .slice p.M.C.A p.M.C.n p.M.C.c, .int .i64 p.M.C.e, .bool p.M.A.s, .slice p.M.A.A p.M.A.n p.M.A.c, .int .i64 p.M.A.e, .bool p.h, .int .i64 p.mn, .int .i64 p.mx, .slice p.A p.n p.c] rfl rfl (by kernel_rfl) rfl (all_oneCell_toArray (cells16_one p)) ?_; rw [h6]))
  try clear h6
  refine (over_any u3 3 3 (by decide) (by decide)).mono ?_
  rintro e' v7 ⟨x3, rfl, h1, h2, h3, h4, j8, I3⟩
  try clear hw
  have HX := Lib.hid (is_over (m := 3) (e := 3) h1 h2 h3 (by decide) (by decide))
  clear h1 h2 h3 h4
  have dx3 : DRow v7 0 v7.heap.size x3 := ints_all I3
  have Q5 := Lib.hid (qa5 I3 HX.out)
  have hR3 : PRows v7 0 v7.heap.size (⟨⟨ZDv, ZDv, x3, ZDv⟩, false, 0, 0, none, 0, 0, []⟩ : Pv) := ⟨⟨rowZ _ _ _, rowZ _ _ _, dx3, rowZ _ _ _⟩, Ints.nil_ ..⟩
  clear I3 dx3
  obtain ⟨u9, h12, b3, j10, s11⟩ := alloc_p v7 ⟨⟨ZDv, ZDv, x3, ZDv⟩, false, 0, 0, none, 0, 0, []⟩
  replace h12 : v7.alloc (.cells #[.bool false, .slice none 0 0, .int .i64 0, .bool false, .slice none 0 0, .int .i64 0, .bool x3.s, .slice x3.A x3.n x3.c, .int .i64 x3.e, .bool false, .slice none 0 0, .int .i64 0, .bool false, .int .i64 0, .int .i64 0, .slice none 0 0] 30) = u9 := h12
  go_wp2_with (first | (refine wpList_store_nw rfl 30 (.tmp 2) (.tmp 8) rfl _ #[.bool false, .slice none 0 0, .int .i64 0, .bool false, .slice none 0 0, .int .i64 0, .bool x3.s, .slice x3.A x3.n x3.c, .int .i64 x3.e, .bool false, .slice none 0 0, .int .i64 0, .bool false, .int .i64 0, .int .i64 0, .slice none 0 0] rfl rfl (by kernel_rfl) rfl (all_oneCell_toArray (cells16_one ⟨⟨⟨false, none, 0, 0, 0, []⟩, ⟨false, none, 0, 0, 0, []⟩, x3, ⟨false, none, 0, 0, 0, []⟩⟩, false, 0, 0, none, 0, 0, []⟩)) ?_; rw [h12]))
  try clear h12
  refine (Ask_any u9 ZPv ⟨⟨rowZ _ _ _, rowZ _ _ _, rowZ _ _ _, rowZ _ _ _⟩, Ints.nil_ ..⟩ (tab_later hT (later j2 (later j4 (later j8 j10)))) 1 0 Dn.zero Dn.zero 6 qa6).mono ?_
  rintro e' v13 ⟨x, y, B, rfl, ix, iy, j14, l1, l2, rx, ry⟩
  try clear hw
  clear ix iy rx ry l1 l2
  obtain ⟨ut, ht, bT, jt, st⟩ := alloc_t v13 x y
  go_upto_region 4 with (first | (refine wpList_store_nw rfl 45 (.tmp 3) (.tmp 12) rfl _ #[.bool x.s, .slice x.A x.n x.c, .int .i64 x.e, .bool y.s, .slice y.A y.n y.c, .int .i64 y.e] rfl rfl (by kernel_rfl) rfl (all_oneCell_toArray (cells6D_one x y)) ?_; rw [ht]))
  try clear ht
  clear bT st
  try clear hw
  refine region_E (Keeps ut) [] (m := 33) (L := #[false, false, false, false, false, false, false, false, false, false, false, false, false, false, false, false, false, false, false, false, false, false, false, false, false, false, false, false, false, false, false, false, false]) (by kernel_rfl) (by rfl) (by rfl) ?_
  have j16 : Below ut.heap.size ut ut.drew := (Below.refl _ _).drew
  generalize ut.drew = v15 at *
  have kpy17 : Keeps ut v15 := fun p hp => Below.block j16 p hp
  refine readE (i := 0) (L := #[true, false, false, false, false, false, false, false, false, false, false, false, false, false, false, false, false, false, false, false, false, false, false, false, false, false, false, false, false, false, false, false, false]) (v := .agg #[.bool p.M.S.s, .slice p.M.S.A p.M.S.n p.M.S.c, .int .i64 p.M.S.e, .bool p.M.W.s, .slice p.M.W.A p.M.W.n p.M.W.c, .int .i64 p.M.W.e, .bool p.M.C.s, .slice p.M.C.A p.M.C.n p.M.C.c, .int .i64 p.M.C.e, .bool p.M.A.s, .slice p.M.A.A p.M.A.n p.M.A.c, .int .i64 p.M.A.e, .bool p.h, .int .i64 p.mn, .int .i64 p.mx, .slice p.A p.n p.c]) rfl (by rfl) (by kernel_rfl) (by kernel_rfl) (by kernel_rfl) (fun _ _ _ h => h) (by assumption) (by rfl) ?y17 ?z18
  case y17 =>
    intro w' h1
    exact run_load_op 30 (.tmp 1) rfl (v1.heap.size) 0 rfl (cells16 p) _ (PBox.range ((h1 _ (Nat.lt_of_lt_of_le s5 (Below.size (later j8 (later j10 (later j14 jt)))))).trans (box_later bp (later j8 (later j10 (later j14 jt))) s5))) Tryd.underlying30 rfl (by kernel_rfl)
  try simp only [Act.put, List.setIfInBounds_toArray, List.set_cons_zero, List.set_cons_succ]
  refine stepK (i := 1) (L := #[true, true, false, false, false, false, false, false, false, false, false, false, false, false, false, false, false, false, false, false, false, false, false, false, false, false, false, false, false, false, false, false, false]) rfl (by rfl) (by kernel_rfl) (by rfl) (fun K hK => ?_)
  go_simp
  go_at_call 11
  refine (Of_any v15 4 (by decide) (by decide) false 4 rfl rfl).mono ?_
  rintro e' v19 ⟨O1, m1, rfl, j20, J1⟩
  have D1 : DRow v19 0 v19.heap.size ⟨false, O1, m1, m1, 0, canon 4294967296 4⟩ := ints_all J1
  clear J1
  refine hK _ _ ⟨fun _ _ => fun p hp => Below.block (later j16 j20) p hp, ?_⟩
  clear hK K
  try simp only [Act.put, List.setIfInBounds_toArray, List.set_cons_zero, List.set_cons_succ]
  refine stepK (i := 2) (L := #[true, true, true, false, false, false, false, false, false, false, false, false, false, false, false, false, false, false, false, false, false, false, false, false, false, false, false, false, false, false, false, false, false]) rfl (by rfl) (by kernel_rfl) (by rfl) (fun K hK => ?_)
  go_simp
  go_at_call 11
  refine (Of_any v19 4 (by decide) (by decide) false 4 rfl rfl).mono ?_
  rintro e' v21 ⟨O2, m2, rfl, j22, J2⟩
  have D2 : DRow v21 0 v21.heap.size ⟨false, O2, m2, m2, 0, canon 4294967296 4⟩ := ints_all J2
  clear J2
  refine hK _ _ ⟨fun _ _ => fun p hp => Below.block (later j16 (later j20 j22)) p hp, ?_⟩
  clear hK K
  try simp only [Act.put, List.setIfInBounds_toArray, List.set_cons_zero, List.set_cons_succ]
  refine stepK (i := 3) (L := #[true, true, true, true, false, false, false, false, false, false, false, false, false, false, false, false, false, false, false, false, false, false, false, false, false, false, false, false, false, false, false, false, false]) rfl (by rfl) (by kernel_rfl) (by rfl) (fun K hK => ?_)
  go_simp
  go_at_call 12
  refine (told_any v21 p (PRows.on hRp (later j4 (later j8 (later j10 (later j14 (later jt (later j16 (later j20 j22)))))))) (tab_later hT (later j2 (later j4 (later j8 (later j10 (later j14 (later jt (later j16 (later j20 j22))))))))) 1 0 ⟨false, O1, m1, m1, 0, canon 4294967296 4⟩ ⟨false, O2, m2, m2, 0, canon 4294967296 4⟩ (ints_on D1 j22) D2 true (told_yes (qa1 hRp P.out) ⟨rfl, rfl, rfl⟩ ⟨rfl, rfl, rfl⟩)).mono ?_
  rintro e' v23 ⟨rfl, j24⟩
  refine hK _ _ ⟨fun _ _ => fun p hp => Below.block (later j16 (later j20 (later j22 j24))) p hp, ?_⟩
  clear hK K
  try simp only [Act.put, List.setIfInBounds_toArray, List.set_cons_zero, List.set_cons_succ]
  refine pureE (i := 4) (L := #[true, true, true, true, true, false, false, false, false, false, false, false, false, false, false, false, false, false, false, false, false, false, false, false, false, false, false, false, false, false, false, false, false]) (v := ?_) rfl (by rfl) (by kernel_rfl) (by kernel_rfl) (by kernel_rfl) (fun _ _ _ h => h) (by rfl) ?hy5 ?rest5
  case hy5 => intro w; go_simp; (try with_reducible rfl)
  try simp only [Act.put, List.setIfInBounds_toArray, List.set_cons_zero, List.set_cons_succ]
  have kpy25 : Keeps ut v23 := fun p hp => Below.block (later j16 (later j20 (later j22 j24))) p hp
  refine readE (i := 5) (L := #[true, true, true, true, true, true, false, false, false, false, false, false, false, false, false, false, false, false, false, false, false, false, false, false, false, false, false, false, false, false, false, false, false]) (v := .agg #[.bool p.M.S.s, .slice p.M.S.A p.M.S.n p.M.S.c, .int .i64 p.M.S.e, .bool p.M.W.s, .slice p.M.W.A p.M.W.n p.M.W.c, .int .i64 p.M.W.e, .bool p.M.C.s, .slice p.M.C.A p.M.C.n p.M.C.c, .int .i64 p.M.C.e, .bool p.M.A.s, .slice p.M.A.A p.M.A.n p.M.A.c, .int .i64 p.M.A.e, .bool p.h, .int .i64 p.mn, .int .i64 p.mx, .slice p.A p.n p.c]) rfl (by rfl) (by kernel_rfl) (by kernel_rfl) (by kernel_rfl) (fun _ _ _ h => h) (by assumption) (by rfl) ?y25 ?z26
  case y25 =>
    intro w' h1
    exact run_load_op 30 (.tmp 1) rfl (v1.heap.size) 0 rfl (cells16 p) _ (PBox.range ((h1 _ (Nat.lt_of_lt_of_le s5 (Below.size (later j8 (later j10 (later j14 jt)))))).trans (box_later bp (later j8 (later j10 (later j14 jt))) s5))) Tryd.underlying30 rfl (by kernel_rfl)
  try simp only [Act.put, List.setIfInBounds_toArray, List.set_cons_zero, List.set_cons_succ]
  refine stepK (i := 6) (L := #[true, true, true, true, true, true, true, false, false, false, false, false, false, false, false, false, false, false, false, false, false, false, false, false, false, false, false, false, false, false, false, false, false]) rfl (by rfl) (by kernel_rfl) (by rfl) (fun K hK => ?_)
  go_simp
  go_at_call 11
  refine (Of_any v23 12 (by decide) (by decide) false 12 rfl rfl).mono ?_
  rintro e' v27 ⟨O3, m3, rfl, j28, J3⟩
  have D3 : DRow v27 0 v27.heap.size ⟨false, O3, m3, m3, 0, canon 4294967296 12⟩ := ints_all J3
  clear J3
  refine hK _ _ ⟨fun _ _ => fun p hp => Below.block (later j16 (later j20 (later j22 (later j24 j28)))) p hp, ?_⟩
  clear hK K
  try simp only [Act.put, List.setIfInBounds_toArray, List.set_cons_zero, List.set_cons_succ]
  refine stepK (i := 7) (L := #[true, true, true, true, true, true, true, true, false, false, false, false, false, false, false, false, false, false, false, false, false, false, false, false, false, false, false, false, false, false, false, false, false]) rfl (by rfl) (by kernel_rfl) (by rfl) (fun K hK => ?_)
  go_simp
  go_at_call 11
  refine (Of_any v27 12 (by decide) (by decide) false 12 rfl rfl).mono ?_
  rintro e' v29 ⟨O4, m4, rfl, j30, J4⟩
  have D4 : DRow v29 0 v29.heap.size ⟨false, O4, m4, m4, 0, canon 4294967296 12⟩ := ints_all J4
  clear J4
  refine hK _ _ ⟨fun _ _ => fun p hp => Below.block (later j16 (later j20 (later j22 (later j24 (later j28 j30))))) p hp, ?_⟩
  clear hK K
  try simp only [Act.put, List.setIfInBounds_toArray, List.set_cons_zero, List.set_cons_succ]
  refine stepK (i := 8) (L := #[true, true, true, true, true, true, true, true, true, false, false, false, false, false, false, false, false, false, false, false, false, false, false, false, false, false, false, false, false, false, false, false, false]) rfl (by rfl) (by kernel_rfl) (by rfl) (fun K hK => ?_)
  go_simp
  go_at_call 12
  refine (told_any v29 p (PRows.on hRp (later j4 (later j8 (later j10 (later j14 (later jt (later j16 (later j20 (later j22 (later j24 (later j28 j30))))))))))) (tab_later hT (later j2 (later j4 (later j8 (later j10 (later j14 (later jt (later j16 (later j20 (later j22 (later j24 (later j28 j30)))))))))))) 2 9 ⟨false, O3, m3, m3, 0, canon 4294967296 12⟩ ⟨false, O4, m4, m4, 0, canon 4294967296 12⟩ (ints_on D3 j30) D4 true (told_yes (qa2 hRp P.out) ⟨rfl, rfl, rfl⟩ ⟨rfl, rfl, rfl⟩)).mono ?_
  rintro e' v31 ⟨rfl, j32⟩
  refine hK _ _ ⟨fun _ _ => fun p hp => Below.block (later j16 (later j20 (later j22 (later j24 (later j28 (later j30 j32)))))) p hp, ?_⟩
  clear hK K
  try simp only [Act.put, List.setIfInBounds_toArray, List.set_cons_zero, List.set_cons_succ]
  refine pureE (i := 9) (L := #[true, true, true, true, true, true, true, true, true, true, false, false, false, false, false, false, false, false, false, false, false, false, false, false, false, false, false, false, false, false, false, false, false]) (v := ?_) rfl (by rfl) (by kernel_rfl) (by kernel_rfl) (by kernel_rfl) (fun _ _ _ h => h) (by rfl) ?hy10 ?rest10
  case hy10 => intro w; go_simp; (try with_reducible rfl)
  try simp only [Act.put, List.setIfInBounds_toArray, List.set_cons_zero, List.set_cons_succ]
  refine pureE (i := 10) (L := #[true, true, true, true, true, true, true, true, true, true, true, false, false, false, false, false, false, false, false, false, false, false, false, false, false, false, false, false, false, false, false, false, false]) (v := ?_) rfl (by rfl) (by kernel_rfl) (by kernel_rfl) (by kernel_rfl) (fun _ _ _ h => h) (by rfl) ?hy11 ?rest11
  case hy11 => intro w; go_simp; (try with_reducible rfl)
  try simp only [Act.put, List.setIfInBounds_toArray, List.set_cons_zero, List.set_cons_succ]
  have kpy33 : Keeps ut v31 := fun p hp => Below.block (later j16 (later j20 (later j22 (later j24 (later j28 (later j30 j32)))))) p hp
  refine readE (i := 11) (L := #[true, true, true, true, true, true, true, true, true, true, true, true, false, false, false, false, false, false, false, false, false, false, false, false, false, false, false, false, false, false, false, false, false]) (v := .agg #[.bool p.M.S.s, .slice p.M.S.A p.M.S.n p.M.S.c, .int .i64 p.M.S.e, .bool p.M.W.s, .slice p.M.W.A p.M.W.n p.M.W.c, .int .i64 p.M.W.e, .bool p.M.C.s, .slice p.M.C.A p.M.C.n p.M.C.c, .int .i64 p.M.C.e, .bool p.M.A.s, .slice p.M.A.A p.M.A.n p.M.A.c, .int .i64 p.M.A.e, .bool p.h, .int .i64 p.mn, .int .i64 p.mx, .slice p.A p.n p.c]) rfl (by rfl) (by kernel_rfl) (by kernel_rfl) (by kernel_rfl) (fun _ _ _ h => h) (by assumption) (by rfl) ?y33 ?z34
  case y33 =>
    intro w' h1
    exact run_load_op 30 (.tmp 1) rfl (v1.heap.size) 0 rfl (cells16 p) _ (PBox.range ((h1 _ (Nat.lt_of_lt_of_le s5 (Below.size (later j8 (later j10 (later j14 jt)))))).trans (box_later bp (later j8 (later j10 (later j14 jt))) s5))) Tryd.underlying30 rfl (by kernel_rfl)
  try simp only [Act.put, List.setIfInBounds_toArray, List.set_cons_zero, List.set_cons_succ]
  refine stepK (i := 12) (L := #[true, true, true, true, true, true, true, true, true, true, true, true, true, false, false, false, false, false, false, false, false, false, false, false, false, false, false, false, false, false, false, false, false]) rfl (by rfl) (by kernel_rfl) (by rfl) (fun K hK => ?_)
  go_simp
  go_at_call 11
  refine (Of_any v31 2 (by decide) (by decide) false 2 rfl rfl).mono ?_
  rintro e' v35 ⟨O5, m5, rfl, j36, J5⟩
  have D5 : DRow v35 0 v35.heap.size ⟨false, O5, m5, m5, 0, canon 4294967296 2⟩ := ints_all J5
  clear J5
  refine hK _ _ ⟨fun _ _ => fun p hp => Below.block (later j16 (later j20 (later j22 (later j24 (later j28 (later j30 (later j32 j36))))))) p hp, ?_⟩
  clear hK K
  try simp only [Act.put, List.setIfInBounds_toArray, List.set_cons_zero, List.set_cons_succ]
  refine stepK (i := 13) (L := #[true, true, true, true, true, true, true, true, true, true, true, true, true, true, false, false, false, false, false, false, false, false, false, false, false, false, false, false, false, false, false, false, false]) rfl (by rfl) (by kernel_rfl) (by rfl) (fun K hK => ?_)
  go_simp
  go_at_call 11
  refine (Of_any v35 3 (by decide) (by decide) false 3 rfl rfl).mono ?_
  rintro e' v37 ⟨O6, m6, rfl, j38, J6⟩
  have D6 : DRow v37 0 v37.heap.size ⟨false, O6, m6, m6, 0, canon 4294967296 3⟩ := ints_all J6
  clear J6
  refine hK _ _ ⟨fun _ _ => fun p hp => Below.block (later j16 (later j20 (later j22 (later j24 (later j28 (later j30 (later j32 (later j36 j38)))))))) p hp, ?_⟩
  clear hK K
  try simp only [Act.put, List.setIfInBounds_toArray, List.set_cons_zero, List.set_cons_succ]
  refine stepK (i := 14) (L := #[true, true, true, true, true, true, true, true, true, true, true, true, true, true, true, false, false, false, false, false, false, false, false, false, false, false, false, false, false, false, false, false, false]) rfl (by rfl) (by kernel_rfl) (by rfl) (fun K hK => ?_)
  go_simp
  go_at_call 12
  refine (told_any v37 p (PRows.on hRp (later j4 (later j8 (later j10 (later j14 (later jt (later j16 (later j20 (later j22 (later j24 (later j28 (later j30 (later j32 (later j36 j38)))))))))))))) (tab_later hT (later j2 (later j4 (later j8 (later j10 (later j14 (later jt (later j16 (later j20 (later j22 (later j24 (later j28 (later j30 (later j32 (later j36 j38))))))))))))))) 3 0 ⟨false, O5, m5, m5, 0, canon 4294967296 2⟩ ⟨false, O6, m6, m6, 0, canon 4294967296 3⟩ (ints_on D5 j38) D6 true (told_yes (qa3 hRp P.out) ⟨rfl, rfl, rfl⟩ ⟨rfl, rfl, rfl⟩)).mono ?_
  rintro e' v39 ⟨rfl, j40⟩
  refine hK _ _ ⟨fun _ _ => fun p hp => Below.block (later j16 (later j20 (later j22 (later j24 (later j28 (later j30 (later j32 (later j36 (later j38 j40))))))))) p hp, ?_⟩
  clear hK K
  try simp only [Act.put, List.setIfInBounds_toArray, List.set_cons_zero, List.set_cons_succ]
  refine pureE (i := 15) (L := #[true, true, true, true, true, true, true, true, true, true, true, true, true, true, true, true, false, false, false, false, false, false, false, false, false, false, false, false, false, false, false, false, false]) (v := ?_) rfl (by rfl) (by kernel_rfl) (by kernel_rfl) (by kernel_rfl) (fun _ _ _ h => h) (by rfl) ?hy16 ?rest16
  case hy16 => intro w; go_simp; (try with_reducible rfl)
  try simp only [Act.put, List.setIfInBounds_toArray, List.set_cons_zero, List.set_cons_succ]
  refine pureE (i := 16) (L := #[true, true, true, true, true, true, true, true, true, true, true, true, true, true, true, true, true, false, false, false, false, false, false, false, false, false, false, false, false, false, false, false, false]) (v := ?_) rfl (by rfl) (by kernel_rfl) (by kernel_rfl) (by kernel_rfl) (fun _ _ _ h => h) (by rfl) ?hy17 ?rest17
  case hy17 => intro w; go_simp; (try with_reducible rfl)
  try simp only [Act.put, List.setIfInBounds_toArray, List.set_cons_zero, List.set_cons_succ]
  have kpy41 : Keeps ut v39 := fun p hp => Below.block (later j16 (later j20 (later j22 (later j24 (later j28 (later j30 (later j32 (later j36 (later j38 j40))))))))) p hp
  refine readE (i := 17) (L := #[true, true, true, true, true, true, true, true, true, true, true, true, true, true, true, true, true, true, false, false, false, false, false, false, false, false, false, false, false, false, false, false, false]) (v := .agg #[.bool p.M.S.s, .slice p.M.S.A p.M.S.n p.M.S.c, .int .i64 p.M.S.e, .bool p.M.W.s, .slice p.M.W.A p.M.W.n p.M.W.c, .int .i64 p.M.W.e, .bool p.M.C.s, .slice p.M.C.A p.M.C.n p.M.C.c, .int .i64 p.M.C.e, .bool p.M.A.s, .slice p.M.A.A p.M.A.n p.M.A.c, .int .i64 p.M.A.e, .bool p.h, .int .i64 p.mn, .int .i64 p.mx, .slice p.A p.n p.c]) rfl (by rfl) (by kernel_rfl) (by kernel_rfl) (by kernel_rfl) (fun _ _ _ h => h) (by assumption) (by rfl) ?y41 ?z42
  case y41 =>
    intro w' h1
    exact run_load_op 30 (.tmp 1) rfl (v1.heap.size) 0 rfl (cells16 p) _ (PBox.range ((h1 _ (Nat.lt_of_lt_of_le s5 (Below.size (later j8 (later j10 (later j14 jt)))))).trans (box_later bp (later j8 (later j10 (later j14 jt))) s5))) Tryd.underlying30 rfl (by kernel_rfl)
  try simp only [Act.put, List.setIfInBounds_toArray, List.set_cons_zero, List.set_cons_succ]
  refine stepK (i := 18) (L := #[true, true, true, true, true, true, true, true, true, true, true, true, true, true, true, true, true, true, true, false, false, false, false, false, false, false, false, false, false, false, false, false, false]) rfl (by rfl) (by kernel_rfl) (by rfl) (fun K hK => ?_)
  go_simp
  go_at_call 19
  refine (over_any v39 5 1 (by decide) (by decide)).mono ?_
  rintro e' v43 ⟨X7, rfl, h1, h2, h3, h4, j44, J7⟩
  have H7 := Lib.hid (is_over (m := 5) (e := 1) h1 h2 h3 (by decide) (by decide))
  clear h1 h2 h3 h4
  have D7 : DRow v43 0 v43.heap.size X7 := ints_all J7
  clear J7
  refine hK _ _ ⟨fun _ _ => fun p hp => Below.block (later j16 (later j20 (later j22 (later j24 (later j28 (later j30 (later j32 (later j36 (later j38 (later j40 j44)))))))))) p hp, ?_⟩
  clear hK K
  try simp only [Act.put, List.setIfInBounds_toArray, List.set_cons_zero, List.set_cons_succ]
  refine stepK (i := 19) (L := #[true, true, true, true, true, true, true, true, true, true, true, true, true, true, true, true, true, true, true, true, false, false, false, false, false, false, false, false, false, false, false, false, false]) rfl (by rfl) (by kernel_rfl) (by rfl) (fun K hK => ?_)
  go_simp
  go_at_call 19
  refine (over_any v43 5 1 (by decide) (by decide)).mono ?_
  rintro e' v45 ⟨X8, rfl, h1, h2, h3, h4, j46, J8⟩
  have H8 := Lib.hid (is_over (m := 5) (e := 1) h1 h2 h3 (by decide) (by decide))
  clear h1 h2 h3 h4
  have D8 : DRow v45 0 v45.heap.size X8 := ints_all J8
  clear J8
  refine hK _ _ ⟨fun _ _ => fun p hp => Below.block (later j16 (later j20 (later j22 (later j24 (later j28 (later j30 (later j32 (later j36 (later j38 (later j40 (later j44 j46))))))))))) p hp, ?_⟩
  clear hK K
  try simp only [Act.put, List.setIfInBounds_toArray, List.set_cons_zero, List.set_cons_succ]
  refine stepK (i := 20) (L := #[true, true, true, true, true, true, true, true, true, true, true, true, true, true, true, true, true, true, true, true, true, false, false, false, false, false, false, false, false, false, false, false, false]) rfl (by rfl) (by kernel_rfl) (by rfl) (fun K hK => ?_)
  go_simp
  go_at_call 12
  refine (told_any v45 p (PRows.on hRp (later j4 (later j8 (later j10 (later j14 (later jt (later j16 (later j20 (later j22 (later j24 (later j28 (later j30 (later j32 (later j36 (later j38 (later j40 (later j44 j46))))))))))))))))) (tab_later hT (later j2 (later j4 (later j8 (later j10 (later j14 (later jt (later j16 (later j20 (later j22 (later j24 (later j28 (later j30 (later j32 (later j36 (later j38 (later j40 (later j44 j46)))))))))))))))))) 3 1 X7 X8 (ints_on D7 j46) D8 true (told_yes (qa4 hRp P.out) H7.out H8.out)).mono ?_
  rintro e' v47 ⟨rfl, j48⟩
  refine hK _ _ ⟨fun _ _ => fun p hp => Below.block (later j16 (later j20 (later j22 (later j24 (later j28 (later j30 (later j32 (later j36 (later j38 (later j40 (later j44 (later j46 j48)))))))))))) p hp, ?_⟩
  clear hK K
  try simp only [Act.put, List.setIfInBounds_toArray, List.set_cons_zero, List.set_cons_succ]
  refine pureE (i := 21) (L := #[true, true, true, true, true, true, true, true, true, true, true, true, true, true, true, true, true, true, true, true, true, true, false, false, false, false, false, false, false, false, false, false, false]) (v := ?_) rfl (by rfl) (by kernel_rfl) (by kernel_rfl) (by kernel_rfl) (fun _ _ _ h => h) (by rfl) ?hy22 ?rest22
  case hy22 => intro w; go_simp; (try with_reducible rfl)
  try simp only [Act.put, List.setIfInBounds_toArray, List.set_cons_zero, List.set_cons_succ]
  refine pureE (i := 22) (L := #[true, true, true, true, true, true, true, true, true, true, true, true, true, true, true, true, true, true, true, true, true, true, true, false, false, false, false, false, false, false, false, false, false]) (v := ?_) rfl (by rfl) (by kernel_rfl) (by kernel_rfl) (by kernel_rfl) (fun _ _ _ h => h) (by rfl) ?hy23 ?rest23
  case hy23 => intro w; go_simp; (try with_reducible rfl)
  try simp only [Act.put, List.setIfInBounds_toArray, List.set_cons_zero, List.set_cons_succ]
  have kpy49 : Keeps ut v47 := fun p hp => Below.block (later j16 (later j20 (later j22 (later j24 (later j28 (later j30 (later j32 (later j36 (later j38 (later j40 (later j44 (later j46 j48)))))))))))) p hp
  refine readE (i := 23) (L := #[true, true, true, true, true, true, true, true, true, true, true, true, true, true, true, true, true, true, true, true, true, true, true, true, false, false, false, false, false, false, false, false, false]) (v := .agg #[.bool false, .slice none 0 0, .int .i64 0, .bool false, .slice none 0 0, .int .i64 0, .bool x3.s, .slice x3.A x3.n x3.c, .int .i64 x3.e, .bool false, .slice none 0 0, .int .i64 0, .bool false, .int .i64 0, .int .i64 0, .slice none 0 0]) rfl (by rfl) (by kernel_rfl) (by kernel_rfl) (by kernel_rfl) (fun _ _ _ h => h) (by assumption) (by rfl) ?y49 ?z50
  case y49 =>
    intro w' h1
    exact run_load_op 30 (.tmp 2) rfl (v7.heap.size) 0 rfl (cells16 ⟨⟨ZDv, ZDv, x3, ZDv⟩, false, 0, 0, none, 0, 0, []⟩) _ (PBox.range ((h1 _ (Nat.lt_of_lt_of_le s11 (Below.size (later j14 jt)))).trans (box_later b3 (later j14 jt) s11))) Tryd.underlying30 rfl (by kernel_rfl)
  try simp only [Act.put, List.setIfInBounds_toArray, List.set_cons_zero, List.set_cons_succ]
  refine stepK (i := 24) (L := #[true, true, true, true, true, true, true, true, true, true, true, true, true, true, true, true, true, true, true, true, true, true, true, true, true, false, false, false, false, false, false, false, false]) rfl (by rfl) (by kernel_rfl) (by rfl) (fun K hK => ?_)
  go_simp
  go_at_call 11
  refine (Of_any v47 3 (by decide) (by decide) false 3 rfl rfl).mono ?_
  rintro e' v51 ⟨O9, m9, rfl, j52, J9⟩
  have D9 : DRow v51 0 v51.heap.size ⟨false, O9, m9, m9, 0, canon 4294967296 3⟩ := ints_all J9
  clear J9
  refine hK _ _ ⟨fun _ _ => fun p hp => Below.block (later j16 (later j20 (later j22 (later j24 (later j28 (later j30 (later j32 (later j36 (later j38 (later j40 (later j44 (later j46 (later j48 j52))))))))))))) p hp, ?_⟩
  clear hK K
  try simp only [Act.put, List.setIfInBounds_toArray, List.set_cons_zero, List.set_cons_succ]
  refine stepK (i := 25) (L := #[true, true, true, true, true, true, true, true, true, true, true, true, true, true, true, true, true, true, true, true, true, true, true, true, true, true, false, false, false, false, false, false, false]) rfl (by rfl) (by kernel_rfl) (by rfl) (fun K hK => ?_)
  go_simp
  go_at_call 11
  refine (Of_any v51 3 (by decide) (by decide) false 3 rfl rfl).mono ?_
  rintro e' v53 ⟨O10, m10, rfl, j54, J10⟩
  have D10 : DRow v53 0 v53.heap.size ⟨false, O10, m10, m10, 0, canon 4294967296 3⟩ := ints_all J10
  clear J10
  refine hK _ _ ⟨fun _ _ => fun p hp => Below.block (later j16 (later j20 (later j22 (later j24 (later j28 (later j30 (later j32 (later j36 (later j38 (later j40 (later j44 (later j46 (later j48 (later j52 j54)))))))))))))) p hp, ?_⟩
  clear hK K
  try simp only [Act.put, List.setIfInBounds_toArray, List.set_cons_zero, List.set_cons_succ]
  refine stepK (i := 26) (L := #[true, true, true, true, true, true, true, true, true, true, true, true, true, true, true, true, true, true, true, true, true, true, true, true, true, true, true, false, false, false, false, false, false]) rfl (by rfl) (by kernel_rfl) (by rfl) (fun K hK => ?_)
  go_simp
  go_at_call 12
  refine (told_any v53 ⟨⟨ZDv, ZDv, x3, ZDv⟩, false, 0, 0, none, 0, 0, []⟩ (PRows.on hR3 (later j10 (later j14 (later jt (later j16 (later j20 (later j22 (later j24 (later j28 (later j30 (later j32 (later j36 (later j38 (later j40 (later j44 (later j46 (later j48 (later j52 j54)))))))))))))))))) (tab_later hT (later j2 (later j4 (later j8 (later j10 (later j14 (later jt (later j16 (later j20 (later j22 (later j24 (later j28 (later j30 (later j32 (later j36 (later j38 (later j40 (later j44 (later j46 (later j48 (later j52 j54))))))))))))))))))))) 1 0 ⟨false, O9, m9, m9, 0, canon 4294967296 3⟩ ⟨false, O10, m10, m10, 0, canon 4294967296 3⟩ (ints_on D9 j54) D10 true (told_yes (Q5.out) ⟨rfl, rfl, rfl⟩ ⟨rfl, rfl, rfl⟩)).mono ?_
  rintro e' v55 ⟨rfl, j56⟩
  refine hK _ _ ⟨fun _ _ => fun p hp => Below.block (later j16 (later j20 (later j22 (later j24 (later j28 (later j30 (later j32 (later j36 (later j38 (later j40 (later j44 (later j46 (later j48 (later j52 (later j54 j56))))))))))))))) p hp, ?_⟩
  clear hK K
  try simp only [Act.put, List.setIfInBounds_toArray, List.set_cons_zero, List.set_cons_succ]
  refine pureE (i := 27) (L := #[true, true, true, true, true, true, true, true, true, true, true, true, true, true, true, true, true, true, true, true, true, true, true, true, true, true, true, true, false, false, false, false, false]) (v := ?_) rfl (by rfl) (by kernel_rfl) (by kernel_rfl) (by kernel_rfl) (fun _ _ _ h => h) (by rfl) ?hy28 ?rest28
  case hy28 => intro w; go_simp; (try with_reducible rfl)
  try simp only [Act.put, List.setIfInBounds_toArray, List.set_cons_zero, List.set_cons_succ]
  refine pureE (i := 28) (L := #[true, true, true, true, true, true, true, true, true, true, true, true, true, true, true, true, true, true, true, true, true, true, true, true, true, true, true, true, true, false, false, false, false]) (v := ?_) rfl (by rfl) (by kernel_rfl) (by kernel_rfl) (by kernel_rfl) (fun _ _ _ h => h) (by rfl) ?hy29 ?rest29
  case hy29 => intro w; go_simp; (try with_reducible rfl)
  try simp only [Act.put, List.setIfInBounds_toArray, List.set_cons_zero, List.set_cons_succ]
  refine pureE (i := 29) (L := #[true, true, true, true, true, true, true, true, true, true, true, true, true, true, true, true, true, true, true, true, true, true, true, true, true, true, true, true, true, true, false, false, false]) (v := ?_) rfl (by rfl) (by kernel_rfl) (by kernel_rfl) (by kernel_rfl) (fun _ _ _ h => h) (by rfl) ?hy30 ?rest30
  case hy30 => intro w; go_simp; (try with_reducible rfl)
  try simp only [Act.put, List.setIfInBounds_toArray, List.set_cons_zero, List.set_cons_succ]
  refine pureE (i := 30) (L := #[true, true, true, true, true, true, true, true, true, true, true, true, true, true, true, true, true, true, true, true, true, true, true, true, true, true, true, true, true, true, true, false, false]) (v := ?_) rfl (by rfl) (by kernel_rfl) (by kernel_rfl) (by kernel_rfl) (fun _ _ _ h => h) (by rfl) ?hy31 ?rest31
  case hy31 => intro w; go_simp; (try with_reducible rfl)
  try simp only [Act.put, List.setIfInBounds_toArray, List.set_cons_zero, List.set_cons_succ]
  refine pureE (i := 31) (L := #[true, true, true, true, true, true, true, true, true, true, true, true, true, true, true, true, true, true, true, true, true, true, true, true, true, true, true, true, true, true, true, true, false]) (v := ?_) rfl (by rfl) (by kernel_rfl) (by kernel_rfl) (by kernel_rfl) (fun _ _ _ h => h) (by rfl) ?hy32 ?rest32
  case hy32 => intro w; go_simp; (try with_reducible rfl)
  try simp only [Act.put, List.setIfInBounds_toArray, List.set_cons_zero, List.set_cons_succ]
  refine pureE (i := 32) (L := #[true, true, true, true, true, true, true, true, true, true, true, true, true, true, true, true, true, true, true, true, true, true, true, true, true, true, true, true, true, true, true, true, true]) (v := ?_) rfl (by rfl) (by kernel_rfl) (by kernel_rfl) (by kernel_rfl) (fun _ _ _ h => h) (by rfl) ?hy33 ?rest33
  case hy33 => intro w; go_simp; (try with_reducible rfl)
  try simp only [Act.put, List.setIfInBounds_toArray, List.set_cons_zero, List.set_cons_succ]
  refine doneE (by kernel_rfl) ?_ _
  go_wp2
  go_ret
  exact ⟨rfl, (later j2 (later j4 (later j8 (later j10 (later j14 (later jt (later j16 (later j20 (later j22 (later j24 (later j28 (later j30 (later j32 (later j36 (later j38 (later j40 (later j44 (later j46 (later j48 (later j52 (later j54 j56)))))))))))))))))))))⟩
end Ma
end Go.Proofs.YtmbppgjhdcmckaaDoor
