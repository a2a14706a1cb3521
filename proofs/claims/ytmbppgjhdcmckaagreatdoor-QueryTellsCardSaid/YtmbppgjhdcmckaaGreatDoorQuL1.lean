/- headcountlaw25: over, told: walks (printed by a program of mine). -/
import Derived.Test.YtmbppgjhdcmckaaGreatDoorQuW6
namespace Go.Proofs.YtmbppgjhdcmckaaGreatDoor
open Go.RowKit
namespace Ma
open Dp Dy
theorem alloc_zq (w : World) : ∃ U, w.alloc (.cells #[.bool false, .slice none 0 0, .int .i64 0] 24) = U ∧ QBox U w.heap.size ZDv ∧ Below w.heap.size w U ∧ w.heap.size < U.heap.size :=
  ⟨_, rfl, heap_alloc_last _ _, (Below.refl _ w).alloc (Nat.le_refl _) _, by simp⟩
theorem alloc_u (w : World) (n : Int) : ∃ U, w.alloc (.cells #[.int .u32 n] 48) = U ∧ U.heap[w.heap.size]? = some (.cells #[.int .u32 n] 48 (0, 0)) ∧ Below w.heap.size w U ∧ w.heap.size < U.heap.size :=
  ⟨_, rfl, heap_alloc_last _ _, (Below.refl _ w).alloc (Nat.le_refl _) _, by simp⟩
theorem dyad_into {w : World} {g : Nat} {x : Dv} (h : QBox w g x) (x' : Dv) : ∃ U, w.setCells g 0 (cells3D x') = U ∧ QBox U g x' ∧ (∀ w0 B, Below B w0 w → B ≤ g → Below B w0 U) ∧ (∀ j, j ≠ g → U.heap[j]? = w.heap[j]?) ∧ U.heap.size ≤ w.heap.size ∧ w.heap.size ≤ U.heap.size := by
  refine ⟨_, rfl, ?_, fun w0 B hb hg => ?_, fun j hj => ?_, ?_, ?_⟩
  · unfold QBox at h ⊢
    simp [cells3D, World.setCells, World.setCell, Array.getElem?_modify, h]
  · simp only [cells3D, World.setCells]
    repeat (refine Below.setCell ?_ hg _)
    exact hb
  · have hj' : ¬ g = j := fun e => hj e.symm
    simp [cells3D, World.setCells, World.setCell, Array.getElem?_modify, hj']
  · simp [cells3D, World.setCells, World.setCell]
  · simp [cells3D, World.setCells, World.setCell]
theorem one_row {w : World} {g : Nat} {n : Int} (h : w.heap[g]? = some (.cells #[.int .u32 n] 48 (0, 0))) (h0 : 0 ≤ n) (h1 : n ≤ 4294967295) : Ints w g (g + 1) .u32 (some ⟨g, 0, none⟩) 1 [n] := by
  refine ⟨rfl, fun x hx => ?_, by decide, fun _ => ⟨g, 0, rfl, Nat.le_refl _, by omega, fun j hj => ?_⟩⟩
  · obtain rfl := List.mem_singleton.1 hx
    simp [IntKind.min, IntKind.max, IntKind.signed, IntKind.bits]
    omega
  · have : j = 0 := by simpa using hj
    subst this
    exact ⟨cell_of_row w g 0 _ _ _ h, frozen_of_row w g _ _ _ h⟩
set_option maxHeartbeats 3200000 in
set_option maxRecDepth 100000 in
/-- headcountlaw25.over. -/
theorem over_any (w : World) (n e : Int) (h0 : 0 ≤ n) (h1 : n ≤ 4294967295) :
    Calls Tryz.prog 18 #[.int .u32 n, .int .i64 e] w fun e' w' => ∃ x : Dv, e' = .returned (.agg #[.bool x.s, .slice x.A x.n x.c, .int .i64 x.e]) ∧ x.s = false ∧ x.e = e ∧ x.xs = [n] ∧ x.n = 1 ∧ Below w.heap.size w w' ∧ DRow w' w.heap.size w'.heap.size x := by
  obtain ⟨w1, hw1, bQ, j1, S1⟩ := alloc_zq w
  obtain ⟨w2, hw2, bN, j2, S2⟩ := alloc_u w1 n
  have s1 := j1.size
  have s2 := j2.size
  have bQ2 : QBox w2 w.heap.size ZDv := (j2.block _ S1).trans bQ
  obtain ⟨x, hx⟩ : ∃ x : Dv, x = ⟨false, some ⟨w1.heap.size, 0, none⟩, 1, 1, e, [n]⟩ := ⟨_, rfl⟩
  obtain ⟨U, hU, bU, hb, hf, l1, l2⟩ := dyad_into bQ2 ⟨false, some ⟨w1.heap.size, 0, none⟩, 1, 1, e, [n]⟩
  have th := QBox.there bQ2
  have I := one_row bN h0 h1
  have rx : DRow U w.heap.size U.heap.size x := by rw [hx]; exact (intsR I (w' := U) (fun b h1 h2 => hf b (by omega))).more (by omega) (by omega)
  have bX : QBox U w.heap.size x := by rw [hx]; exact bU
  have fin := hb _ _ (j1.trans (j2.mono s1)) (Nat.le_refl _)
  replace hU : w2.setCells w.heap.size 0 (#[.bool false, .slice (some ⟨w1.heap.size, 0, none⟩) 1 1, .int .i64 e] : Array Value).toList = U := hU
  have HU := Lib.hid hU
  have HX := Lib.hid hx
  clear hU hx bU
  go_enter Tryz.func18, Tryz.ntmps18
  go_wp2_with (first
    | (refine wpList_store_mid rfl 24 (.tmp 4) (.tmp 8) rfl w.heap.size 0 #[.bool false, .slice (some ⟨w1.heap.size, 0, none⟩) 1 1, .int .i64 e] rfl rfl th (by kernel_rfl) (all_oneCell_toArray (cells3D_one ⟨false, some ⟨w1.heap.size, 0, none⟩, 1, 1, e, [n]⟩)) ?_; rw [HU.out]))
  exact bodyPost_ret (results_cell_row Tryz.results18 _ _ w.heap.size 24 #[.bool x.s, .slice x.A x.n x.c, .int .i64 x.e] (0, 0) _ rfl bX Tryz.underlying24 rfl (by kernel_rfl)) rfl ⟨x, rfl, by rw [HX.out], by rw [HX.out], by rw [HX.out], by rw [HX.out], fin, rx⟩
/-- Is a told number that one? -/
def isD (r : Dn) (d : Dv) : Bool := Pa.Dy.same ⟨r.neg, canon 4294967296 r.m, r.e⟩ ⟨d.s, d.xs, d.e⟩
def toldB (T : Dn × Dn × Int) (a b : Dv) : Bool := decide (T.2.2 = 0) && (isD T.1 a && isD T.2.1 b)
theorem isD_is {r : Dn} {x : Dv} (h : Is r x) (d : Dv) : Pa.Dy.same ⟨x.s, x.xs, x.e⟩ ⟨d.s, d.xs, d.e⟩ = isD r d := by
  unfold isD
  rw [h.1, h.2.1, h.2.2]
set_option maxHeartbeats 12800000 in
set_option maxRecDepth 100000 in
/-- headcountlaw25.told. -/
theorem told_any (w : World) (p : Pv) (hR : PRows w 0 w.heap.size p) (hT : Tab w) (kind k : Int) (a b : Dv) (hA : DRow w 0 w.heap.size a) (hB : DRow w 0 w.heap.size b) (r : Bool) (hr : toldB (askQ p kind k) a b = r) :
    Calls Tryz.prog 23 #[.agg #[.bool p.M.S.s, .slice p.M.S.A p.M.S.n p.M.S.c, .int .i64 p.M.S.e, .bool p.M.W.s, .slice p.M.W.A p.M.W.n p.M.W.c, .int .i64 p.M.W.e, .bool p.M.C.s, .slice p.M.C.A p.M.C.n p.M.C.c, .int .i64 p.M.C.e, .bool p.M.A.s, .slice p.M.A.A p.M.A.n p.M.A.c, .int .i64 p.M.A.e, .bool p.h, .int .i64 p.mn, .int .i64 p.mx, .slice p.A p.n p.c], .int .u8 kind, .int .i64 k, .agg #[.bool a.s, .slice a.A a.n a.c, .int .i64 a.e], .agg #[.bool b.s, .slice b.A b.n b.c, .int .i64 b.e]] w fun e w' => e = .returned (.bool r) ∧ Below w.heap.size w w' := by
  obtain ⟨w1, hw1, bP, j1, S1⟩ := alloc_p w p
  obtain ⟨w2, hw2, bA, j2, S2⟩ := alloc_q w1 a
  obtain ⟨w3, hw3, bB, j3, S3⟩ := alloc_q w2 b
  have s1 := j1.size
  have s2 := j2.size
  have s3 := j3.size
  have z1 : w1.heap.size = w.heap.size + 1 := by rw [← hw1]; simp
  have z2 : w2.heap.size = w.heap.size + 1 + 1 := by rw [← hw2]; simp [z1]
  have jw : Below w.heap.size w w3 := (j1.trans (j2.mono s1)).trans (j3.mono (by omega))
  have S1' : w.heap.size < w3.heap.size := by omega
  have S2' : w.heap.size + 1 < w3.heap.size := by omega
  replace bP : PBox w3 w.heap.size p := (j3.block _ (by omega)).trans ((j2.block _ S1).trans bP)
  replace bA : QBox w3 w1.heap.size a := (j3.block _ S2).trans bA
  subst hw1 hw2
  rw [z1] at bA
  rw [z2] at bB S3
  obtain ⟨lo, hi, code, hh⟩ : ∃ lo hi code, askQ p kind k = (lo, hi, code) := ⟨_, _, _, rfl⟩
  rw [hh] at hr
  have HR := Lib.hid hr
  have HH := Lib.hid hh
  clear hr hh j1 j2 j3
  go_enter Tryz.func23, Tryz.ntmps23
  have rP := PBox.range bP
  go_wp2_with (first | (refine wpList_load_mid rfl 30 (.tmp 5) rfl w.heap.size 0 rfl [.bool p.M.S.s, .slice p.M.S.A p.M.S.n p.M.S.c, .int .i64 p.M.S.e, .bool p.M.W.s, .slice p.M.W.A p.M.W.n p.M.W.c, .int .i64 p.M.W.e, .bool p.M.C.s, .slice p.M.C.A p.M.C.n p.M.C.c, .int .i64 p.M.C.e, .bool p.M.A.s, .slice p.M.A.A p.M.A.n p.M.A.c, .int .i64 p.M.A.e, .bool p.h, .int .i64 p.mn, .int .i64 p.mx, .slice p.A p.n p.c] _ rP Tryz.underlying30 rfl (by kernel_rfl) ?_))
  clear rP
  refine (Ask_any w3 p (PRows.on hR jw) (tab_later hT jw) kind k lo hi code HH.out).mono ?_
  rintro e' u ⟨x, y, B, rfl, ix, iy, ju, l1, l2, rx, ry⟩
  try clear hw3
  obtain ⟨v, hv, bX, jv, Sv⟩ := alloc_t u x y
  have su := ju.size
  have sv := jv.size
  have bA2 : QBox v (w.heap.size + 1) a := ((later ju jv).block _ S2').trans bA
  have bB2 : QBox v (w.heap.size + 1 + 1) b := ((later ju jv).block _ S3).trans bB
  have rA := drow_on hA (later jw (later ju jv))
  have rB := drow_on hB (later jw (later ju jv))
  have rx2 : DRow v 0 v.heap.size x := (rx.below jv (by omega)).more (Nat.zero_le _) (by omega)
  have ry2 : DRow v 0 v.heap.size y := (ry.below jv (Nat.le_refl _)).more (Nat.zero_le _) (by omega)
  have bb := later jw (later ju jv)
  have rA1 := QBox.range bA2
  have rXl := TBox.low bX
  have rXh := TBox.high bX
  obtain ⟨t1, ht1⟩ : ∃ t, isD lo a = t := ⟨_, rfl⟩
  obtain ⟨t2, ht2⟩ : ∃ t, isD hi b = t := ⟨_, rfl⟩
  have H1 := Lib.hid ((isD_is ix a).trans ht1)
  have H2 := Lib.hid ((isD_is iy b).trans ht2)
  have HV : Hid (r = (decide (code = 0) && (t1 && t2))) := Lib.hid (by rw [← HR.out, toldB, ht1, ht2])
  clear ht1 ht2 HR HH ix iy
  by_cases c0 : code = 0
  · subst c0
    go_wp2_with (first
      | (refine wpList_store_nw rfl 32 (.tmp 11) (.tmp 18) rfl _ #[.bool x.s, .slice x.A x.n x.c, .int .i64 x.e, .bool y.s, .slice y.A y.n y.c, .int .i64 y.e] rfl rfl (by kernel_rfl) rfl (all_oneCell_toArray (cells6D_one x y)) ?_; rw [hv])
      | (refine wpList_load_midG (by rfl) 24 (.tmp 23) rfl u.heap.size 0 rfl [.bool x.s, .slice x.A x.n x.c, .int .i64 x.e] _ rXl Tryz.underlying24 rfl (by kernel_rfl) ?_)
      | (refine wpList_load_midG (by rfl) 24 (.tmp 8) rfl (w.heap.size + 1) 0 rfl [.bool a.s, .slice a.A a.n a.c, .int .i64 a.e] _ rA1 Tryz.underlying24 rfl (by kernel_rfl) ?_))
    refine (Pa.dyadSame_any v _ _ _ _ _ _ _ _ _ _ _ _ rx2 rA t1 H1.out).mono ?_
    rintro e' v1 ⟨rfl, k1⟩
    try clear hv
    clear rA1 rXl rXh
    cases t1
    · obtain rfl : r = false := HV.out
      clear HV H1 H2
      go_wp2
      go_ret
      exact ⟨rfl, later bb k1⟩
    · obtain rfl : r = t2 := by rw [HV.out]; simp
      have rXh := TBox.high (box_later bX k1 Sv)
      have rB1 := QBox.range (box_later bB2 k1 (by omega))
      go_wp2_with (first
        | (refine wpList_load_midG (by rfl) 24 (.tmp 29) rfl u.heap.size 3 rfl [.bool y.s, .slice y.A y.n y.c, .int .i64 y.e] _ rXh Tryz.underlying24 rfl (by kernel_rfl) ?_)
        | (refine wpList_load_midG (by rfl) 24 (.tmp 9) rfl (w.heap.size + 1 + 1) 0 rfl [.bool b.s, .slice b.A b.n b.c, .int .i64 b.e] _ rB1 Tryz.underlying24 rfl (by kernel_rfl) ?_))
      refine (Pa.dyadSame_any v1 _ _ _ _ _ _ _ _ _ _ _ _ (drow_on ry2 k1) (drow_on rB k1) r H2.out).mono ?_
      rintro e' v2 ⟨rfl, k2⟩
      clear HV H1 H2 rXh rB1
      have fin := later bb (later k1 k2)
      cases r
      · go_wp2
        go_ret
        exact ⟨rfl, fin⟩
      · go_wp2
        go_ret
        exact ⟨rfl, fin⟩
  · obtain rfl : r = false := by rw [HV.out, decide_eq_false c0]; rfl
    have c1 : (code == 0) = false := by simpa using c0
    clear HV H1 H2
    go_wp2_with (first
      | (refine wpList_store_nw rfl 32 (.tmp 11) (.tmp 18) rfl _ #[.bool x.s, .slice x.A x.n x.c, .int .i64 x.e, .bool y.s, .slice y.A y.n y.c, .int .i64 y.e] rfl rfl (by kernel_rfl) rfl (all_oneCell_toArray (cells6D_one x y)) ?_; rw [hv]))
    go_ret
    exact ⟨rfl, bb⟩
end Ma
end Go.Proofs.YtmbppgjhdcmckaaGreatDoor
