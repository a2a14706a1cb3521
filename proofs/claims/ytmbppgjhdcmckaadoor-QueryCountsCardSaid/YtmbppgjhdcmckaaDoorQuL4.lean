/- headcountlaw25.QueryCounts: the law's walk (printed by a program of mine). -/
import Derived.Test.YtmbppgjhdcmckaaDoorQuL3
namespace Go.Proofs.YtmbppgjhdcmckaaDoor
open Go.RowKit
namespace Ma
open Dp Dy
theorem PBox.rangeC {w : World} {g : Nat} {p : Pv} (h : PBox w g p) : w.rangeAt g 6 (cells3D p.M.C) := fun j v hj => by
  have hl : j < 3 := by
    rcases Nat.lt_or_ge j 3 with h' | h'
    · exact h'
    · rw [List.getElem?_eq_none (by simpa [cells3D] using h')] at hj
      cases hj
  have hc : j = 0 ∨ j = 1 ∨ j = 2 := by omega
  rcases hc with rfl | rfl | rfl
  · exact (PBox.range h 6 v hj)
  · exact (PBox.range h 7 v hj)
  · exact (PBox.range h 8 v hj)
theorem mayP_mass {p : Pv} (h : mayP p = true) : p.M.share := by
  unfold mayP at h
  simp only [Bool.and_eq_true, Bool.not_eq_true'] at h
  exact badS_one.1 h.1
/-- A number of a part that may be. -/
theorem part_num {w : World} {lo hi : Nat} {p : Pv} (hR : PRows w lo hi p) (h : mayP p = true) : ∃ D : Dn, Is D p.M.C ∧ D.May := by
  have hm : MayD p.M.C.s p.M.C.xs p.M.C.e := (mayP_mass h).1 2 (by decide)
  exact ⟨_, Is.of (dig_ints hR.1.C) hm, (may_dn (dig_ints hR.1.C) hm).1⟩
/-- An average near 1 / N tells N. -/
theorem count_told {w : World} {lo hi : Nat} {p : Pv} (hR : PRows w lo hi p) (hm : mayP p = true) {N M V1 V2 : Nat} (n1 : 1 ≤ N) (n2 : N ≤ 1000) (hM : M = 2 * N * (N + 1)) (h1 : V1 = 2 * N + 1) (h2 : V2 = 2 * N + 3) {D r : Dn} (hD : Is D p.M.C) (dm : D.May)
    (ht : timesD M Dn.zero D true = (r, true)) (hl : cmpD ⟨false, V1, 0⟩ r < 0) (hh : cmpD r ⟨false, V2, 0⟩ < 0) : askQ p 1 0 = (⟨false, N, 0⟩, ⟨false, N, 0⟩, 0) := by
  subst hM h1 h2
  rw [← whole_nat] at hl hh
  obtain ⟨a, b, c⟩ := count_law n1 n2 ht hl hh
  rw [whole_nat] at c
  exact (ask_at hm (by decide) (by decide)).trans (count_at hR.1.C hD dm a b c)
set_option maxHeartbeats 25600000 in
set_option maxRecDepth 100000 in
/-- headcountlaw25.QueryCounts. -/
theorem counts_walk (w : World) (p : Pv) (hR : PRows w 0 w.heap.size p) (n : Int) (hT : Tab w) :
    Calls Tryd.prog 3 #[.agg #[.bool p.M.S.s, .slice p.M.S.A p.M.S.n p.M.S.c, .int .i64 p.M.S.e, .bool p.M.W.s, .slice p.M.W.A p.M.W.n p.M.W.c, .int .i64 p.M.W.e, .bool p.M.C.s, .slice p.M.C.A p.M.C.n p.M.C.c, .int .i64 p.M.C.e, .bool p.M.A.s, .slice p.M.A.A p.M.A.n p.M.A.c, .int .i64 p.M.A.e, .bool p.h, .int .i64 p.mn, .int .i64 p.mx, .slice p.A p.n p.c], .int .i64 n] w fun e w' => e = .returned (.bool true) ∧ Below w.heap.size w w' := by
  obtain ⟨w1, hw, bP, j1, S1⟩ := alloc_p w p
  obtain ⟨g, hg⟩ : ∃ g, greatP p = g := ⟨_, rfl⟩
  obtain ⟨m, hm⟩ : ∃ m, mayP p = m := ⟨_, rfl⟩
  have HG := Lib.hid hg
  have HM := Lib.hid hm
  clear hg hm
  go_enter Tryd.func3, Tryd.ntmps3
  go_wp2_with fail
  refine (alive25_any w1 (tab_later hT j1)).mono ?_
  rintro e' v1 ⟨rfl, j2⟩
  try clear hw
  have rP := PBox.range (box_later bP j2 S1)
  go_wp2_with (first
    | (refine wpList_load_mid rfl 30 (.tmp 2) rfl (w.heap.size) 0 rfl [.bool p.M.S.s, .slice p.M.S.A p.M.S.n p.M.S.c, .int .i64 p.M.S.e, .bool p.M.W.s, .slice p.M.W.A p.M.W.n p.M.W.c, .int .i64 p.M.W.e, .bool p.M.C.s, .slice p.M.C.A p.M.C.n p.M.C.c, .int .i64 p.M.C.e, .bool p.M.A.s, .slice p.M.A.A p.M.A.n p.M.A.c, .int .i64 p.M.A.e, .bool p.h, .int .i64 p.mn, .int .i64 p.mx, .slice p.A p.n p.c] _ rP Tryd.underlying30 rfl (by kernel_rfl) ?_))
  refine (GreatPart_any v1 p (PRows.on hR (later j1 j2)) g HG.out).mono ?_
  rintro e' v3 ⟨rfl, j4⟩
  try clear hw
  clear rP
  cases g
  case true =>
    go_wp2
    go_ret
    exact ⟨rfl, (later j1 (later j2 j4))⟩
  have rP := PBox.range (box_later bP (later j2 j4) S1)
  go_wp2_with (first
    | (refine wpList_load_midG (by rfl) 30 (.tmp 2) rfl (w.heap.size) 0 rfl [.bool p.M.S.s, .slice p.M.S.A p.M.S.n p.M.S.c, .int .i64 p.M.S.e, .bool p.M.W.s, .slice p.M.W.A p.M.W.n p.M.W.c, .int .i64 p.M.W.e, .bool p.M.C.s, .slice p.M.C.A p.M.C.n p.M.C.c, .int .i64 p.M.C.e, .bool p.M.A.s, .slice p.M.A.A p.M.A.n p.M.A.c, .int .i64 p.M.A.e, .bool p.h, .int .i64 p.mn, .int .i64 p.mx, .slice p.A p.n p.c] _ rP Tryd.underlying30 rfl (by kernel_rfl) ?_))
  refine (CheckPart_any v3 p (PRows.on hR (later j1 (later j2 j4))) m HM.out).mono ?_
  rintro e' v5 ⟨rfl, j6⟩
  try clear hw
  clear rP
  cases m
  case false =>
    go_wp2
    go_ret
    exact ⟨rfl, (later j1 (later j2 (later j4 j6)))⟩
  by_cases q1 : n < 1
  case pos =>
    go_wp2
    go_ret
    exact ⟨rfl, (later j1 (later j2 (later j4 j6)))⟩
  by_cases q2 : 1000 < n
  case pos =>
    go_wp2
    go_ret
    exact ⟨rfl, (later j1 (later j2 (later j4 j6)))⟩
  obtain ⟨N, hN⟩ : ∃ N : Nat, n = (N : Int) := ⟨n.toNat, by omega⟩
  obtain ⟨a, ha⟩ : ∃ a : Int, a = 2 * n := ⟨_, rfl⟩
  obtain ⟨b, hb⟩ : ∃ b : Int, b = n + 1 := ⟨_, rfl⟩
  obtain ⟨M, hM⟩ : ∃ M : Nat, M = 2 * N * (N + 1) := ⟨_, rfl⟩
  obtain ⟨V1, h1⟩ : ∃ V : Nat, V = 2 * N + 1 := ⟨_, rfl⟩
  obtain ⟨V2, h2⟩ : ∃ V : Nat, V = 2 * N + 3 := ⟨_, rfl⟩
  obtain ⟨c, hc⟩ : ∃ c : Int, c = a + 1 := ⟨_, rfl⟩
  obtain ⟨d, hd⟩ : ∃ d : Int, d = a + 3 := ⟨_, rfl⟩
  have HM2 : M ≤ 2000 * 1001 := by rw [hM]; exact Nat.mul_le_mul (by omega) (by omega)
  have e1 : IntKind.i64.wrap (2 * n) = a := by rw [IntKind.wrap_i64]; omega
  have e2 : IntKind.i64.wrap (n + 1) = b := by rw [IntKind.wrap_i64]; omega
  have e3 : IntKind.i64.wrap (a * b) = (M : Int) := by
    have : a * b = (M : Int) := by rw [ha, hb, hN, hM]; push_cast; rfl
    rw [this, IntKind.wrap_i64]
    omega
  have e4 : IntKind.i64.wrap (a + 1) = c := by rw [IntKind.wrap_i64]; omega
  have e5 : IntKind.i64.wrap (a + 3) = d := by rw [IntKind.wrap_i64]; omega
  have HN := Lib.hid (show (1 ≤ N ∧ N ≤ 1000) ∧ (n.natAbs = N ∧ 0 ≤ n ∧ n ≤ 1000) ∧ (c.natAbs = V1 ∧ 0 ≤ c ∧ c ≤ 2001) ∧ d.natAbs = V2 ∧ 0 ≤ d ∧ d ≤ 2003 by omega)
  have HV := Lib.hid (show M = 2 * N * (N + 1) ∧ V1 = 2 * N + 1 ∧ V2 = 2 * N + 3 from ⟨hM, h1, h2⟩)
  clear ha hb hM h1 h2 hc hd hN
  obtain ⟨D, hD⟩ := part_num hR HM.out
  have HD := Lib.hid hD
  clear hD
  obtain ⟨r, ok, hr⟩ : ∃ r ok, timesD M Dn.zero D true = (r, ok) := ⟨_, _, rfl⟩
  have HK := Lib.hid hr
  have HX : Hid r.May := Lib.hid (by have := timesD_may M Dn.zero D true zero_may; rw [hr] at this; exact this)
  clear hr
  obtain ⟨z1, hz1⟩ : ∃ z, cmpD ⟨false, V1, 0⟩ r = z := ⟨_, rfl⟩
  obtain ⟨z2, hz2⟩ : ∃ z, cmpD r ⟨false, V2, 0⟩ = z := ⟨_, rfl⟩
  have HZ1 := Lib.hid hz1
  have HZ2 := Lib.hid hz2
  clear hz1 hz2
  have vm1 : Hid ((⟨false, V1, 0⟩ : Dn).May) := Lib.hid (by have := whole_may (z := (V1 : Int)) (by omega) (by have := HV.out; have := HN.out; omega); rw [whole_nat] at this; exact this)
  have vm2 : Hid ((⟨false, V2, 0⟩ : Dn).May) := Lib.hid (by have := whole_may (z := (V2 : Int)) (by omega) (by have := HV.out; have := HN.out; omega); rw [whole_nat] at this; exact this)
  have rC := PBox.rangeC (box_later bP (later j2 (later j4 j6)) S1)
  go_wp2_with (first
    | (refine wpList_load_mid rfl 24 (.tmp 35) rfl w.heap.size 6 rfl [.bool p.M.C.s, .slice p.M.C.A p.M.C.n p.M.C.c, .int .i64 p.M.C.e] _ rC Tryd.underlying24 rfl (by kernel_rfl) ?_))
  refine (times_any v5 p.M.C D HD.out.1 HD.out.2 (PRows.on hR (later j1 (later j2 (later j4 j6)))).1.C (tab_later hT (later j1 (later j2 (later j4 j6)))) M (by omega) r ok HK.out).mono ?_
  rintro e' v7 ⟨y, rfl, iy, j8, ry⟩
  try clear hw
  clear rC e3
  replace iy := Lib.hid iy
  replace ry := ints_all ry
  obtain ⟨u9, h12, by_, j10, s11⟩ := alloc_q v7 y
  go_upto_region 5 with (first | (refine wpList_store_nw rfl 24 (.tmp 6) (.tmp 43) rfl _ #[.bool y.s, .slice y.A y.n y.c, .int .i64 y.e] rfl rfl (by kernel_rfl) rfl (all_oneCell_toArray (cells3D_one y)) ?_; rw [h12]))
  try clear h12
  try clear hw
  refine region_E (Keeps u9) [] (m := 11) (L := #[false, false, false, false, false, false, false, false, false, false, false]) (by kernel_rfl) (by rfl) (by rfl) ?_
  have j14 : Below u9.heap.size u9 u9.drew := (Below.refl _ _).drew
  generalize u9.drew = v13 at *
  refine pureE (i := 0) (L := #[true, false, false, false, false, false, false, false, false, false, false]) (v := ?_) rfl (by rfl) (by kernel_rfl) (by kernel_rfl) (by kernel_rfl) (fun _ _ _ h => h) (by rfl) ?hy1 ?rest1
  case hy1 => intro w; go_simp; (try with_reducible rfl)
  try simp only [Act.put, List.setIfInBounds_toArray, List.set_cons_zero, List.set_cons_succ]
  refine pureE (i := 1) (L := #[true, true, false, false, false, false, false, false, false, false, false]) (v := ?_) rfl (by rfl) (by kernel_rfl) (by kernel_rfl) (by kernel_rfl) (fun _ _ _ h => h) (by rfl) ?hy2 ?rest2
  case hy2 => intro w; go_simp; (try with_reducible rfl)
  try simp only [Act.put, List.setIfInBounds_toArray, List.set_cons_zero, List.set_cons_succ]
  refine pureE (i := 2) (L := #[true, true, true, false, false, false, false, false, false, false, false]) (v := ?_) rfl (by rfl) (by kernel_rfl) (by kernel_rfl) (by kernel_rfl) (fun _ _ _ h => h) (by rfl) ?hy3 ?rest3
  case hy3 => intro w; go_simp; (try with_reducible rfl)
  try simp only [Act.put, List.setIfInBounds_toArray, List.set_cons_zero, List.set_cons_succ]
  have kpy15 : Keeps u9 v13 := fun p hp => Below.block j14 p hp
  refine readE (i := 4) (L := #[true, true, true, false, true, false, false, false, false, false, false]) (v := .agg #[.bool y.s, .slice y.A y.n y.c, .int .i64 y.e]) rfl (by rfl) (by kernel_rfl) (by kernel_rfl) (by kernel_rfl) (fun _ _ _ h => h) (by assumption) (by rfl) ?y15 ?z16
  case y15 =>
    intro w' h1
    exact run_load_op 24 (.tmp 6) rfl v7.heap.size 0 rfl [.bool y.s, .slice y.A y.n y.c, .int .i64 y.e] _ (QBox.range (x := y) ((h1 _ s11).trans by_)) Tryd.underlying24 rfl (by kernel_rfl)
  try simp only [Act.put, List.setIfInBounds_toArray, List.set_cons_zero, List.set_cons_succ]
  refine stepK (i := 3) (L := #[true, true, true, true, true, false, false, false, false, false, false]) rfl (by rfl) (by kernel_rfl) (by rfl) (fun K hK => ?_)
  go_simp
  go_at_call 11
  refine (Of_any v13 c (by have := HN.out; omega) (by have := HN.out; omega) false V1 (decide_eq_false (by have := HN.out; omega)) HN.out.2.2.1.1).mono ?_
  rintro e' v17 ⟨A1, m1, rfl, j18, J1⟩
  replace J1 := ints_all J1
  refine hK _ _ ⟨fun _ _ => fun p hp => Below.block (later j14 j18) p hp, ?_⟩
  clear hK K
  try simp only [Act.put, List.setIfInBounds_toArray, List.set_cons_zero, List.set_cons_succ]
  refine stepK (i := 5) (L := #[true, true, true, true, true, true, false, false, false, false, false]) rfl (by rfl) (by kernel_rfl) (by rfl) (fun K hK => ?_)
  go_simp
  go_at_call 10
  refine (Cmp_all v17 false y.s A1 y.A m1 m1 y.n y.c _ y.xs 0 y.e J1 (ints_on ry (later j10 (later j14 j18))) (tab_later hT (later j1 (later j2 (later j4 (later j6 (later j8 (later j10 (later j14 j18)))))))) z1 0 ((cmp_two (X := ⟨false, A1, m1, m1, 0, canon 4294967296 V1⟩) ⟨rfl, rfl, rfl⟩ iy.out vm1.out HX.out).trans (by rw [HZ1.out]))).mono ?_
  rintro e' v19 ⟨rfl, j20⟩
  refine hK _ _ ⟨fun _ _ => fun p hp => Below.block (later j14 (later j18 j20)) p hp, ?_⟩
  clear hK K
  try simp only [Act.put, List.setIfInBounds_toArray, List.set_cons_zero, List.set_cons_succ]
  refine pureE (i := 6) (L := #[true, true, true, true, true, true, true, false, false, false, false]) (v := ?_) rfl (by rfl) (by kernel_rfl) (by kernel_rfl) (by kernel_rfl) (fun _ _ _ h => h) (by rfl) ?hy7 ?rest7
  case hy7 => intro w; go_simp; (try with_reducible rfl)
  try simp only [Act.put, List.setIfInBounds_toArray, List.set_cons_zero, List.set_cons_succ]
  refine pureE (i := 7) (L := #[true, true, true, true, true, true, true, true, false, false, false]) (v := ?_) rfl (by rfl) (by kernel_rfl) (by kernel_rfl) (by kernel_rfl) (fun _ _ _ h => h) (by rfl) ?hy8 ?rest8
  case hy8 => intro w; go_simp; (try with_reducible rfl)
  try simp only [Act.put, List.setIfInBounds_toArray, List.set_cons_zero, List.set_cons_succ]
  refine pureE (i := 8) (L := #[true, true, true, true, true, true, true, true, true, false, false]) (v := ?_) rfl (by rfl) (by kernel_rfl) (by kernel_rfl) (by kernel_rfl) (fun _ _ _ h => h) (by rfl) ?hy9 ?rest9
  case hy9 => intro w; go_simp; (try with_reducible rfl)
  try simp only [Act.put, List.setIfInBounds_toArray, List.set_cons_zero, List.set_cons_succ]
  refine pureE (i := 9) (L := #[true, true, true, true, true, true, true, true, true, true, false]) (v := ?_) rfl (by rfl) (by kernel_rfl) (by kernel_rfl) (by kernel_rfl) (fun _ _ _ h => h) (by rfl) ?hy10 ?rest10
  case hy10 => intro w; go_simp; (try with_reducible rfl)
  try simp only [Act.put, List.setIfInBounds_toArray, List.set_cons_zero, List.set_cons_succ]
  refine pureE (i := 10) (L := #[true, true, true, true, true, true, true, true, true, true, true]) (v := ?_) rfl (by rfl) (by kernel_rfl) (by kernel_rfl) (by kernel_rfl) (fun _ _ _ h => h) (by rfl) ?hy11 ?rest11
  case hy11 => intro w; go_simp; (try with_reducible rfl)
  try simp only [Act.put, List.setIfInBounds_toArray, List.set_cons_zero, List.set_cons_succ]
  refine doneE (by kernel_rfl) ?_ _
  go_upto_region 6 with fail
  try clear hw
  refine region_E (Keeps v19) [] (m := 11) (L := #[false, false, false, false, false, false, false, false, false, false, false]) (by kernel_rfl) (by rfl) (by rfl) ?_
  have j22 : Below v19.heap.size v19 v19.drew := (Below.refl _ _).drew
  generalize v19.drew = v21 at *
  have kpy23 : Keeps v19 v21 := fun p hp => Below.block j22 p hp
  refine readE (i := 0) (L := #[true, false, false, false, false, false, false, false, false, false, false]) (v := .agg #[.bool y.s, .slice y.A y.n y.c, .int .i64 y.e]) rfl (by rfl) (by kernel_rfl) (by kernel_rfl) (by kernel_rfl) (fun _ _ _ h => h) (by assumption) (by rfl) ?y23 ?z24
  case y23 =>
    intro w' h1
    exact run_load_op 24 (.tmp 6) rfl v7.heap.size 0 rfl [.bool y.s, .slice y.A y.n y.c, .int .i64 y.e] _ (QBox.range (x := y) ((h1 _ (Nat.lt_of_lt_of_le s11 (Below.size (later j14 (later j18 j20))))).trans (box_later by_ (later j14 (later j18 j20)) s11))) Tryd.underlying24 rfl (by kernel_rfl)
  try simp only [Act.put, List.setIfInBounds_toArray, List.set_cons_zero, List.set_cons_succ]
  refine pureE (i := 1) (L := #[true, true, false, false, false, false, false, false, false, false, false]) (v := ?_) rfl (by rfl) (by kernel_rfl) (by kernel_rfl) (by kernel_rfl) (fun _ _ _ h => h) (by rfl) ?hy13 ?rest13
  case hy13 => intro w; go_simp; (try with_reducible rfl)
  try simp only [Act.put, List.setIfInBounds_toArray, List.set_cons_zero, List.set_cons_succ]
  refine pureE (i := 2) (L := #[true, true, true, false, false, false, false, false, false, false, false]) (v := ?_) rfl (by rfl) (by kernel_rfl) (by kernel_rfl) (by kernel_rfl) (fun _ _ _ h => h) (by rfl) ?hy14 ?rest14
  case hy14 => intro w; go_simp; (try with_reducible rfl)
  try simp only [Act.put, List.setIfInBounds_toArray, List.set_cons_zero, List.set_cons_succ]
  refine pureE (i := 3) (L := #[true, true, true, true, false, false, false, false, false, false, false]) (v := ?_) rfl (by rfl) (by kernel_rfl) (by kernel_rfl) (by kernel_rfl) (fun _ _ _ h => h) (by rfl) ?hy15 ?rest15
  case hy15 => intro w; go_simp; (try with_reducible rfl)
  try simp only [Act.put, List.setIfInBounds_toArray, List.set_cons_zero, List.set_cons_succ]
  refine stepK (i := 4) (L := #[true, true, true, true, true, false, false, false, false, false, false]) rfl (by rfl) (by kernel_rfl) (by rfl) (fun K hK => ?_)
  go_simp
  go_at_call 11
  refine (Of_any v21 d (by have := HN.out; omega) (by have := HN.out; omega) false V2 (decide_eq_false (by have := HN.out; omega)) HN.out.2.2.2.1).mono ?_
  rintro e' v25 ⟨A2, m2, rfl, j26, J2⟩
  replace J2 := ints_all J2
  refine hK _ _ ⟨fun _ _ => fun p hp => Below.block (later j22 j26) p hp, ?_⟩
  clear hK K
  try simp only [Act.put, List.setIfInBounds_toArray, List.set_cons_zero, List.set_cons_succ]
  refine stepK (i := 5) (L := #[true, true, true, true, true, true, false, false, false, false, false]) rfl (by rfl) (by kernel_rfl) (by rfl) (fun K hK => ?_)
  go_simp
  go_at_call 10
  refine (Cmp_all v25 y.s false y.A A2 y.n y.c m2 m2 y.xs _ y.e 0 (ints_on ry (later j10 (later j14 (later j18 (later j20 (later j22 j26)))))) J2 (tab_later hT (later j1 (later j2 (later j4 (later j6 (later j8 (later j10 (later j14 (later j18 (later j20 (later j22 j26))))))))))) z2 0 ((cmp_two (Y := ⟨false, A2, m2, m2, 0, canon 4294967296 V2⟩) iy.out ⟨rfl, rfl, rfl⟩ HX.out vm2.out).trans (by rw [HZ2.out]))).mono ?_
  rintro e' v27 ⟨rfl, j28⟩
  refine hK _ _ ⟨fun _ _ => fun p hp => Below.block (later j22 (later j26 j28)) p hp, ?_⟩
  clear hK K
  try simp only [Act.put, List.setIfInBounds_toArray, List.set_cons_zero, List.set_cons_succ]
  refine pureE (i := 6) (L := #[true, true, true, true, true, true, true, false, false, false, false]) (v := ?_) rfl (by rfl) (by kernel_rfl) (by kernel_rfl) (by kernel_rfl) (fun _ _ _ h => h) (by rfl) ?hy18 ?rest18
  case hy18 => intro w; go_simp; (try with_reducible rfl)
  try simp only [Act.put, List.setIfInBounds_toArray, List.set_cons_zero, List.set_cons_succ]
  refine pureE (i := 7) (L := #[true, true, true, true, true, true, true, true, false, false, false]) (v := ?_) rfl (by rfl) (by kernel_rfl) (by kernel_rfl) (by kernel_rfl) (fun _ _ _ h => h) (by rfl) ?hy19 ?rest19
  case hy19 => intro w; go_simp; (try with_reducible rfl)
  try simp only [Act.put, List.setIfInBounds_toArray, List.set_cons_zero, List.set_cons_succ]
  refine pureE (i := 8) (L := #[true, true, true, true, true, true, true, true, true, false, false]) (v := ?_) rfl (by rfl) (by kernel_rfl) (by kernel_rfl) (by kernel_rfl) (fun _ _ _ h => h) (by rfl) ?hy20 ?rest20
  case hy20 => intro w; go_simp; (try with_reducible rfl)
  try simp only [Act.put, List.setIfInBounds_toArray, List.set_cons_zero, List.set_cons_succ]
  refine pureE (i := 9) (L := #[true, true, true, true, true, true, true, true, true, true, false]) (v := ?_) rfl (by rfl) (by kernel_rfl) (by kernel_rfl) (by kernel_rfl) (fun _ _ _ h => h) (by rfl) ?hy21 ?rest21
  case hy21 => intro w; go_simp; (try with_reducible rfl)
  try simp only [Act.put, List.setIfInBounds_toArray, List.set_cons_zero, List.set_cons_succ]
  refine pureE (i := 10) (L := #[true, true, true, true, true, true, true, true, true, true, true]) (v := ?_) rfl (by rfl) (by kernel_rfl) (by kernel_rfl) (by kernel_rfl) (fun _ _ _ h => h) (by rfl) ?hy22 ?rest22
  case hy22 => intro w; go_simp; (try with_reducible rfl)
  try simp only [Act.put, List.setIfInBounds_toArray, List.set_cons_zero, List.set_cons_succ]
  refine doneE (by kernel_rfl) ?_ _
  cases ok
  case false =>
    go_wp2
    go_ret
    exact ⟨rfl, (later j1 (later j2 (later j4 (later j6 (later j8 (later j10 (later j14 (later j18 (later j20 (later j22 (later j26 j28)))))))))))⟩
  by_cases q3 : 0 ≤ z1
  case pos =>
    go_wp2
    go_ret
    exact ⟨rfl, (later j1 (later j2 (later j4 (later j6 (later j8 (later j10 (later j14 (later j18 (later j20 (later j22 (later j26 j28)))))))))))⟩
  by_cases q4 : 0 ≤ z2
  case pos =>
    go_wp2
    go_ret
    exact ⟨rfl, (later j1 (later j2 (later j4 (later j6 (later j8 (later j10 (later j14 (later j18 (later j20 (later j22 (later j26 j28)))))))))))⟩
  have HQ := Lib.hid (count_told hR HM.out HN.out.1.1 HN.out.1.2 HV.out.1 HV.out.2.1 HV.out.2.2 HD.out.1 HD.out.2 HK.out (by rw [HZ1.out]; omega) (by rw [HZ2.out]; omega))
  go_upto_region 9 with fail
  try clear hw
  refine region_E (Keeps v27) [] (m := 10) (L := #[false, false, false, false, false, false, false, false, false, false]) (by kernel_rfl) (by rfl) (by rfl) ?_
  have j30 : Below v27.heap.size v27 v27.drew := (Below.refl _ _).drew
  generalize v27.drew = v29 at *
  refine pureE (i := 0) (L := #[true, false, false, false, false, false, false, false, false, false]) (v := ?_) rfl (by rfl) (by kernel_rfl) (by kernel_rfl) (by kernel_rfl) (fun _ _ _ h => h) (by rfl) ?hy23 ?rest23
  case hy23 => intro w; go_simp; (try with_reducible rfl)
  try simp only [Act.put, List.setIfInBounds_toArray, List.set_cons_zero, List.set_cons_succ]
  refine pureE (i := 1) (L := #[true, true, false, false, false, false, false, false, false, false]) (v := ?_) rfl (by rfl) (by kernel_rfl) (by kernel_rfl) (by kernel_rfl) (fun _ _ _ h => h) (by rfl) ?hy24 ?rest24
  case hy24 => intro w; go_simp; (try with_reducible rfl)
  try simp only [Act.put, List.setIfInBounds_toArray, List.set_cons_zero, List.set_cons_succ]
  have kpy31 : Keeps v27 v29 := fun p hp => Below.block j30 p hp
  refine readE (i := 2) (L := #[true, true, true, false, false, false, false, false, false, false]) (v := .agg #[.bool p.M.S.s, .slice p.M.S.A p.M.S.n p.M.S.c, .int .i64 p.M.S.e, .bool p.M.W.s, .slice p.M.W.A p.M.W.n p.M.W.c, .int .i64 p.M.W.e, .bool p.M.C.s, .slice p.M.C.A p.M.C.n p.M.C.c, .int .i64 p.M.C.e, .bool p.M.A.s, .slice p.M.A.A p.M.A.n p.M.A.c, .int .i64 p.M.A.e, .bool p.h, .int .i64 p.mn, .int .i64 p.mx, .slice p.A p.n p.c]) rfl (by rfl) (by kernel_rfl) (by kernel_rfl) (by kernel_rfl) (fun _ _ _ h => h) (by assumption) (by rfl) ?y31 ?z32
  case y31 =>
    intro w' h1
    exact run_load_op 30 (.tmp 2) rfl (w.heap.size) 0 rfl (cells16 p) _ (PBox.range ((h1 _ (Nat.lt_of_lt_of_le S1 (Below.size (later j2 (later j4 (later j6 (later j8 (later j10 (later j14 (later j18 (later j20 (later j22 (later j26 j28))))))))))))).trans (box_later bP (later j2 (later j4 (later j6 (later j8 (later j10 (later j14 (later j18 (later j20 (later j22 (later j26 j28)))))))))) S1))) Tryd.underlying30 rfl (by kernel_rfl)
  try simp only [Act.put, List.setIfInBounds_toArray, List.set_cons_zero, List.set_cons_succ]
  refine pureE (i := 3) (L := #[true, true, true, true, false, false, false, false, false, false]) (v := ?_) rfl (by rfl) (by kernel_rfl) (by kernel_rfl) (by kernel_rfl) (fun _ _ _ h => h) (by rfl) ?hy26 ?rest26
  case hy26 => intro w; go_simp; (try with_reducible rfl)
  try simp only [Act.put, List.setIfInBounds_toArray, List.set_cons_zero, List.set_cons_succ]
  refine pureE (i := 5) (L := #[true, true, true, true, false, true, false, false, false, false]) (v := ?_) rfl (by rfl) (by kernel_rfl) (by kernel_rfl) (by kernel_rfl) (fun _ _ _ h => h) (by rfl) ?hy27 ?rest27
  case hy27 => intro w; go_simp; (try with_reducible rfl)
  try simp only [Act.put, List.setIfInBounds_toArray, List.set_cons_zero, List.set_cons_succ]
  refine stepK (i := 4) (L := #[true, true, true, true, true, true, false, false, false, false]) rfl (by rfl) (by kernel_rfl) (by rfl) (fun K hK => ?_)
  go_simp
  go_at_call 11
  refine (Of_any v29 n (by have := HN.out; omega) (by have := HN.out; omega) false N (decide_eq_false (by have := HN.out; omega)) HN.out.2.1.1).mono ?_
  rintro e' v33 ⟨A3, m3, rfl, j34, J3⟩
  replace J3 := ints_all J3
  refine hK _ _ ⟨fun _ _ => fun p hp => Below.block (later j30 j34) p hp, ?_⟩
  clear hK K
  try simp only [Act.put, List.setIfInBounds_toArray, List.set_cons_zero, List.set_cons_succ]
  refine stepK (i := 6) (L := #[true, true, true, true, true, true, true, false, false, false]) rfl (by rfl) (by kernel_rfl) (by rfl) (fun K hK => ?_)
  go_simp
  go_at_call 11
  refine (Of_any v33 n (by have := HN.out; omega) (by have := HN.out; omega) false N (decide_eq_false (by have := HN.out; omega)) HN.out.2.1.1).mono ?_
  rintro e' v35 ⟨A4, m4, rfl, j36, J4⟩
  replace J4 := ints_all J4
  refine hK _ _ ⟨fun _ _ => fun p hp => Below.block (later j30 (later j34 j36)) p hp, ?_⟩
  clear hK K
  try simp only [Act.put, List.setIfInBounds_toArray, List.set_cons_zero, List.set_cons_succ]
  refine stepK (i := 7) (L := #[true, true, true, true, true, true, true, true, false, false]) rfl (by rfl) (by kernel_rfl) (by rfl) (fun K hK => ?_)
  go_simp
  go_at_call 12
  refine (told_any v35 p (PRows.on hR (later j1 (later j2 (later j4 (later j6 (later j8 (later j10 (later j14 (later j18 (later j20 (later j22 (later j26 (later j28 (later j30 (later j34 j36))))))))))))))) (tab_later hT (later j1 (later j2 (later j4 (later j6 (later j8 (later j10 (later j14 (later j18 (later j20 (later j22 (later j26 (later j28 (later j30 (later j34 j36))))))))))))))) 1 0 ⟨false, A3, m3, m3, 0, canon 4294967296 N⟩ ⟨false, A4, m4, m4, 0, canon 4294967296 N⟩ (ints_on J3 j36) J4 true (told_yes HQ.out ⟨rfl, rfl, rfl⟩ ⟨rfl, rfl, rfl⟩)).mono ?_
  rintro e' v37 ⟨rfl, j38⟩
  refine hK _ _ ⟨fun _ _ => fun p hp => Below.block (later j30 (later j34 (later j36 j38))) p hp, ?_⟩
  clear hK K
  try simp only [Act.put, List.setIfInBounds_toArray, List.set_cons_zero, List.set_cons_succ]
  refine pureE (i := 8) (L := #[true, true, true, true, true, true, true, true, true, false]) (v := ?_) rfl (by rfl) (by kernel_rfl) (by kernel_rfl) (by kernel_rfl) (fun _ _ _ h => h) (by rfl) ?hy31 ?rest31
  case hy31 => intro w; go_simp; (try with_reducible rfl)
  try simp only [Act.put, List.setIfInBounds_toArray, List.set_cons_zero, List.set_cons_succ]
  refine pureE (i := 9) (L := #[true, true, true, true, true, true, true, true, true, true]) (v := ?_) rfl (by rfl) (by kernel_rfl) (by kernel_rfl) (by kernel_rfl) (fun _ _ _ h => h) (by rfl) ?hy32 ?rest32
  case hy32 => intro w; go_simp; (try with_reducible rfl)
  try simp only [Act.put, List.setIfInBounds_toArray, List.set_cons_zero, List.set_cons_succ]
  refine doneE (by kernel_rfl) ?_ _
  go_wp2
  go_ret
  exact ⟨rfl, (later j1 (later j2 (later j4 (later j6 (later j8 (later j10 (later j14 (later j18 (later j20 (later j22 (later j26 (later j28 (later j30 (later j34 (later j36 j38)))))))))))))))⟩
end Ma
end Go.Proofs.YtmbppgjhdcmckaaDoor
