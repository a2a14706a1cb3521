/- headcountlaw25.QuerySums: the law's walk (printed by a program of mine). -/
import Derived.Test.YtmbppgjhdcmckaaDoorQuL3
namespace Go.Proofs.YtmbppgjhdcmckaaDoor
open Go.RowKit
namespace Ma
open Dp Dy
/-- A sum, told down and up: numbers. -/
theorem sums_ask {w : World} {lo' hi' : Nat} {a : Dv} (hA : Ints w lo' hi' .u32 a.A a.n a.xs) (hm : MayD a.s a.xs a.e) (h8 : a.n ≤ 8) {N k : Nat} (n1 : 1 ≤ N) (n2 : N ≤ 1000) (hk : k ≤ 64) :
    ∃ (D lo hi r1 r2 : Dn), (Is D a ∧ D.May) ∧ (∀ {w' : World} {x : Dv}, DRow w' 0 w'.heap.size x → DRow w' 0 w'.heap.size a → Is ⟨false, N, 0⟩ x → askQ ⟨⟨ZDv, ZDv, x, a⟩, false, 0, 0, none, 0, 0, []⟩ 2 (k : Int) = (lo, hi, 0)) ∧ timesD N Dn.zero lo true = (r1, true) ∧ timesD N Dn.zero hi true = (r2, true) ∧ (lo.May ∧ hi.May ∧ r1.May ∧ r2.May) ∧ cmpD r1 D ≤ 0 ∧ cmpD D r2 ≤ 0 := by
  have hD : Is (dn a.s a.xs a.e) a := Is.of (dig_ints hA) hm
  have dm : (dn a.s a.xs a.e).May := (may_dn (dig_ints hA) hm).1
  have hb : (dn a.s a.xs a.e).m < 2 ^ 256 := by
    have h := num_lt 4294967296 (by decide) _ (dig_ints hA)
    have hl : a.xs.length ≤ 8 := by rw [hA.len]; exact h8
    have h2 : 4294967296 ^ a.xs.length ≤ 4294967296 ^ 8 := Nat.pow_le_pow_right (by decide) hl
    rw [b32 8] at h2
    exact Nat.lt_of_lt_of_le h h2
  generalize dn a.s a.xs a.e = D at *
  obtain ⟨lo, r1, h1, h2⟩ := sums_may hb n1 n2 hk D.neg
  obtain ⟨hi, r2, h3, h4⟩ := sums_may hb n1 n2 hk (!D.neg)
  have c1 := sums_low n1 h1 h2
  have c2 := sums_high n1 h3 h4
  have m1 : r1.May := by have := timesD_may N Dn.zero lo true zero_may; rw [h2] at this; exact this
  have m2 : r2.May := by have := timesD_may N Dn.zero hi true zero_may; rw [h4] at this; exact this
  have m3 : lo.May := by have : (toD D (whole N) k D.neg).1.May := formed_may ..; rw [h1] at this; exact this
  have m4 : hi.May := by have : (toD D (whole N) k (!D.neg)).1.May := formed_may ..; rw [h3] at this; exact this
  have mN : (⟨false, N, 0⟩ : Dn).May := by rw [← whole_nat]; exact whole_may (by omega) (by omega)
  rw [whole_nat] at h1 h3
  refine ⟨D, lo, hi, r1, r2, ⟨hD, dm⟩, fun {w'} {x} rx ra ix => ?_, h2, h4, ⟨m3, m4, m1, m2⟩, c1, c2⟩
  have hp : mayP ⟨⟨ZDv, ZDv, x, a⟩, false, 0, 0, none, 0, 0, []⟩ = true :=
    part_may (R := fourR Dn.zero Dn.zero ⟨false, N, 0⟩ D) (w := w') (lo := 0) (hi := w'.heap.size) ⟨⟨rowZ _ _ _, rowZ _ _ _, rx, ra⟩, Ints.nil_ ..⟩ (fourR_is isZ isZ ix hD) (fourR_may zero_may zero_may mN dm) rfl (fun _ => rfl) rfl rfl
  exact (ask_at hp (by omega) (by omega)).trans (parts_at (k := k) rx hD ix dm mN rfl (show N ≠ 0 by omega) hk h1 h3)
set_option maxHeartbeats 51200000 in
set_option maxRecDepth 100000 in
/-- headcountlaw25.QuerySums. -/
theorem sums25_walk (w : World) (a : Dv) (hA : DRow w 0 w.heap.size a) (hT : Tab w) (n k : Int) :
    Calls Tryd.prog 4 #[.agg #[.bool a.s, .slice a.A a.n a.c, .int .i64 a.e], .int .i64 n, .int .i64 k] w fun e w' => e = .returned (.bool true) ∧ Below w.heap.size w w' := by
  obtain ⟨w1, hw, bA, j1, S1⟩ := alloc_q w a
  obtain ⟨g, hg⟩ : ∃ g, Pa.Dy.great ⟨a.s, a.xs, a.e⟩ = g := ⟨_, rfl⟩
  obtain ⟨m, hm⟩ : ∃ m, chkX a.s a.xs a.e = m := ⟨_, rfl⟩
  have HG := Lib.hid hg
  have HM := Lib.hid hm
  clear hg hm
  go_enter Tryd.func4, Tryd.ntmps4
  go_wp2_with fail
  refine (alive25_any w1 (tab_later hT j1)).mono ?_
  rintro e' v1 ⟨rfl, j2⟩
  try clear hw
  have rA : v1.rangeAt (w.heap.size) 0 [.bool a.s, .slice a.A a.n a.c, .int .i64 a.e] := QBox.range (x := a) (box_later bA j2 S1)
  go_wp2_with (first
    | (refine wpList_load_mid rfl 24 (.tmp 3) rfl (w.heap.size) 0 rfl [.bool a.s, .slice a.A a.n a.c, .int .i64 a.e] _ rA Tryd.underlying24 rfl (by kernel_rfl) ?_))
  refine (Pa.rGreat_any v1 a.s a.A a.n a.c a.xs a.e hA.len g HG.out).mono ?_
  rintro e' v3 ⟨rfl, j4⟩
  try clear hw
  clear rA
  cases g
  case true =>
    go_wp2
    go_ret
    exact ⟨rfl, (later j1 (later j2 j4))⟩
  have rA : v3.rangeAt (w.heap.size) 0 [.bool a.s, .slice a.A a.n a.c, .int .i64 a.e] := QBox.range (x := a) (box_later bA (later j2 j4) S1)
  go_wp2_with (first
    | (refine wpList_load_midG (by rfl) 24 (.tmp 3) rfl (w.heap.size) 0 rfl [.bool a.s, .slice a.A a.n a.c, .int .i64 a.e] _ rA Tryd.underlying24 rfl (by kernel_rfl) ?_))
  refine (Check_all v3 a.s a.A a.n a.c a.xs a.e (ints_on hA (later j1 (later j2 j4))) m HM.out).mono ?_
  rintro e' v5 ⟨rfl, j6⟩
  try clear hw
  clear rA
  by_cases m0 : m = 0
  case neg =>
    go_wp2
    go_ret
    exact ⟨rfl, (later j1 (later j2 (later j4 j6)))⟩
  subst m0
  have cA := boxD (show v5.heap[w.heap.size]? = some (.cells #[.bool a.s, .slice a.A a.n a.c, .int .i64 a.e] 24 (0, 0)) from (box_later bA (later j2 (later j4 j6)) S1))
  obtain ⟨⟨p1, p2, p3⟩, p4, p5, p6⟩ := cA
  by_cases q0 : (8 : Int) < a.n
  case pos =>
    go_wp2
    go_ret
    exact ⟨rfl, (later j1 (later j2 (later j4 j6)))⟩
  by_cases q1 : (200 : Int) < a.e
  case pos =>
    go_wp2
    go_ret
    exact ⟨rfl, (later j1 (later j2 (later j4 j6)))⟩
  by_cases q2 : n < 1
  case pos =>
    go_wp2
    go_ret
    exact ⟨rfl, (later j1 (later j2 (later j4 j6)))⟩
  by_cases q3 : 1000 < n
  case pos =>
    go_wp2
    go_ret
    exact ⟨rfl, (later j1 (later j2 (later j4 j6)))⟩
  by_cases q4 : k < 0
  case pos =>
    go_wp2
    go_ret
    exact ⟨rfl, (later j1 (later j2 (later j4 j6)))⟩
  by_cases q5 : 64 < k
  case pos =>
    go_wp2
    go_ret
    exact ⟨rfl, (later j1 (later j2 (later j4 j6)))⟩
  obtain ⟨N, rfl⟩ : ∃ N : Nat, n = (N : Int) := ⟨n.toNat, by omega⟩
  obtain ⟨J, rfl⟩ : ∃ J : Nat, k = (J : Int) := ⟨k.toNat, by omega⟩
  have hmay : MayD a.s a.xs a.e := by
    have h := HM.out
    unfold chkX at h
    split at h
    · assumption
    · exact absurd h (by decide)
  obtain ⟨D, lo, hi, r1, r2, hD, hask, t1, t2, hms, c1, c2⟩ := sums_ask hA hmay (by omega) (N := N) (k := J) (by omega) (by omega) (by omega)
  have HD := Lib.hid hD
  have T1 := Lib.hid t1
  have T2 := Lib.hid t2
  have HMs := Lib.hid hms
  have HN := Lib.hid (show 1 ≤ N ∧ N ≤ 1000 by omega)
  obtain ⟨z1, hz1⟩ : ∃ z, cmpD r1 D = z := ⟨_, rfl⟩
  obtain ⟨z2, hz2⟩ : ∃ z, cmpD D r2 = z := ⟨_, rfl⟩
  rw [hz1] at c1
  rw [hz2] at c2
  have HZ1 := Lib.hid hz1
  have HZ2 := Lib.hid hz2
  clear hD t1 t2 hms hz1 hz2 hmay
  have bA_ := (box_later bA (later j2 (later j4 j6)) S1)
  go_upto_region 4 with fail
  clear p1 p2 p3 p4 p5 p6
  try clear hw
  refine region_E (Keeps v5) [] (m := 13) (L := #[false, false, false, false, false, false, false, false, false, false, false, false, false]) (by kernel_rfl) (by rfl) (by rfl) ?_
  have j8 : Below v5.heap.size v5 v5.drew := (Below.refl _ _).drew
  generalize v5.drew = v7 at *
  refine pureE (i := 0) (L := #[true, false, false, false, false, false, false, false, false, false, false, false, false]) (v := ?_) rfl (by rfl) (by kernel_rfl) (by kernel_rfl) (by kernel_rfl) (fun _ _ _ h => h) (by rfl) ?hy1 ?rest1
  case hy1 => intro w; go_simp; (try with_reducible rfl)
  try simp only [Act.put, List.setIfInBounds_toArray, List.set_cons_zero, List.set_cons_succ]
  have kpy9 : Keeps v5 v7 := fun p hp => Below.block j8 p hp
  refine readE (i := 2) (L := #[true, false, true, false, false, false, false, false, false, false, false, false, false]) (v := .agg #[.bool a.s, .slice a.A a.n a.c, .int .i64 a.e]) rfl (by rfl) (by kernel_rfl) (by kernel_rfl) (by kernel_rfl) (fun _ _ _ h => h) (by assumption) (by rfl) ?y9 ?z10
  case y9 =>
    intro w' h1
    exact run_load_op 24 (.tmp 3) rfl w.heap.size 0 rfl [.bool a.s, .slice a.A a.n a.c, .int .i64 a.e] _ (QBox.range (x := a) ((h1 _ (Nat.lt_of_lt_of_le S1 (Below.size (later j2 (later j4 j6))))).trans bA_)) Tryd.underlying24 rfl (by kernel_rfl)
  try simp only [Act.put, List.setIfInBounds_toArray, List.set_cons_zero, List.set_cons_succ]
  refine pureE (i := 5) (L := #[true, false, true, false, false, true, false, false, false, false, false, false, false]) (v := ?_) rfl (by rfl) (by kernel_rfl) (by kernel_rfl) (by kernel_rfl) (fun _ _ _ h => h) (by rfl) ?hy3 ?rest3
  case hy3 => intro w; go_simp; (try with_reducible rfl)
  try simp only [Act.put, List.setIfInBounds_toArray, List.set_cons_zero, List.set_cons_succ]
  refine E_of_C (fun (A : Act) a' w' => ∃ (v60 v62 v63 v65 v58 : Value) (X Y : Dv) (g8 l_ h_ : Nat), a' = ((((((((A.put (some 60) (v60)).put (some 62) (v62)).put (some 63) (v63)).put (some 65) (v65)).put (some 58) (v58)).put (some 66) (.agg #[.bool X.s, .slice X.A X.n X.c, .int .i64 X.e, .bool Y.s, .slice Y.A Y.n Y.c, .int .i64 Y.e])).put (some 67) (.int .i64 0)).put (some 8) (.pointer (some ⟨g8, 0, none⟩))) ∧ v5.heap.size ≤ g8 ∧ v5.heap.size ≤ l_ ∧ h_ ≤ w'.heap.size ∧ (g8 < l_ ∨ h_ ≤ g8) ∧ TBox w' g8 ZDv ZDv ∧ Below v5.heap.size v5 w' ∧ Hid (Is lo X ∧ Is hi Y) ∧ DRow w' l_ h_ X ∧ DRow w' l_ h_ Y) #[true, true, true, true, true, true, true, true, true, true, true, false, false] 2 ?leaf ?tree
  case tree =>
    have zv7 : v5.heap.size ≤ v7.heap.size := Below.size j8
    
    refine stepC2 (i := 1) (j := 10) (Li := #[true, true, true, false, false, true, false, false, false, false, false, false, false]) (Lj := #[true, false, true, false, false, true, false, false, false, false, true, false, false]) rfl rfl (by rfl) (by rfl) (by kernel_rfl) (by rfl) (by rfl) (fun K hK => ?o1_1) (fun K hK => ?o1_10)
    case o1_1 =>
      
      go_simp
      go_at_call 11
      refine (Of_any v7 N (by have := HN.out; omega) (by have := HN.out; omega) false N (decide_eq_false (by omega)) (Int.natAbs_natCast N)).mono ?_
      rintro e' v11 ⟨A1, n1, rfl, j12, I1⟩
      have i1 : DRow v11 0 v11.heap.size ⟨false, A1, n1, n1, 0, canon 4294967296 N⟩ := ints_all I1
      clear I1
      have zv11 : v7.heap.size ≤ v11.heap.size := Below.size j12
      refine hK _ _ ⟨fun _ _ => fun p hp => Below.block (later j8 j12) p hp, ?_⟩
      clear hK K
      try simp only [Act.put, List.setIfInBounds_toArray, List.set_cons_zero, List.set_cons_succ]
      refine pureC (i := 3) (L := #[true, true, true, true, false, true, false, false, false, false, false, false, false]) (v := ?_) rfl (by rfl) (by kernel_rfl) (by kernel_rfl) (by kernel_rfl) (fun _ _ _ h => h) (by rfl) ?hy4 ?rest4
      case hy4 => intro w; go_simp; (try with_reducible rfl)
      try simp only [Act.put, List.setIfInBounds_toArray, List.set_cons_zero, List.set_cons_succ]
      refine pureC (i := 4) (L := #[true, true, true, true, true, true, false, false, false, false, false, false, false]) (v := ?_) rfl (by rfl) (by kernel_rfl) (by kernel_rfl) (by kernel_rfl) (fun _ _ _ h => h) (by rfl) ?hy5 ?rest5
      case hy5 => intro w; go_simp; (try with_reducible rfl)
      try simp only [Act.put, List.setIfInBounds_toArray, List.set_cons_zero, List.set_cons_succ]
      refine stepC2 (i := 6) (j := 10) (Li := #[true, true, true, true, true, true, true, false, false, false, false, false, false]) (Lj := #[true, true, true, true, true, true, false, false, false, false, true, false, false]) rfl rfl (by rfl) (by rfl) (by kernel_rfl) (by rfl) (by rfl) (fun K hK => ?o2_6) (fun K hK => ?o2_10)
      case o2_6 =>
        
        go_simp
        go_at_call 15
        refine (Ask_any v11 ⟨⟨ZDv, ZDv, ⟨false, A1, n1, n1, 0, canon 4294967296 N⟩, a⟩, false, 0, 0, none, 0, 0, []⟩ ⟨⟨rowZ _ _ _, rowZ _ _ _, i1, (ints_on hA (later j1 (later j2 (later j4 (later j6 (later j8 j12))))))⟩, Ints.nil_ ..⟩ (tab_later hT (later j1 (later j2 (later j4 (later j6 (later j8 j12)))))) 2 J lo hi 0 (hask (x := ⟨false, A1, n1, n1, 0, canon 4294967296 N⟩) i1 (ints_on hA (later j1 (later j2 (later j4 (later j6 (later j8 j12)))))) ⟨rfl, rfl, rfl⟩)).mono ?_
        rintro e' v13 ⟨X, Y, B_, rfl, ix, iy, j14, l1, l2, rx, ry⟩
        have zv13 : v11.heap.size ≤ v13.heap.size := Below.size j14
        refine hK _ _ ⟨fun _ _ => fun p hp => Below.block (later j8 (later j12 j14)) p hp, ?_⟩
        clear hK K
        try simp only [Act.put, List.setIfInBounds_toArray, List.set_cons_zero, List.set_cons_succ]
        refine pureC (i := 7) (L := #[true, true, true, true, true, true, true, true, false, false, false, false, false]) (v := ?_) rfl (by rfl) (by kernel_rfl) (by kernel_rfl) (by kernel_rfl) (fun _ _ _ h => h) (by rfl) ?hy6 ?rest6
        case hy6 => intro w; go_simp; (try with_reducible rfl)
        try simp only [Act.put, List.setIfInBounds_toArray, List.set_cons_zero, List.set_cons_succ]
        refine pureC (i := 8) (L := #[true, true, true, true, true, true, true, true, true, false, false, false, false]) (v := ?_) rfl (by rfl) (by kernel_rfl) (by kernel_rfl) (by kernel_rfl) (fun _ _ _ h => h) (by rfl) ?hy7 ?rest7
        case hy7 => intro w; go_simp; (try with_reducible rfl)
        try simp only [Act.put, List.setIfInBounds_toArray, List.set_cons_zero, List.set_cons_succ]
        refine pureC (i := 9) (L := #[true, true, true, true, true, true, true, true, true, true, false, false, false]) (v := ?_) rfl (by rfl) (by kernel_rfl) (by kernel_rfl) (by kernel_rfl) (fun _ _ _ h => h) (by rfl) ?hy8 ?rest8
        case hy8 => intro w; go_simp; (try with_reducible rfl)
        try simp only [Act.put, List.setIfInBounds_toArray, List.set_cons_zero, List.set_cons_succ]
        refine stepC (i := 10) (L := #[true, true, true, true, true, true, true, true, true, true, true, false, false]) rfl (by rfl) (by kernel_rfl) (by rfl) (fun K hK => ?_)
        go_simp
        obtain ⟨v15, hc_, bT, j16, s17⟩ := alloc_zt v13
        rw [hc_]
        clear hc_
        have zv15 : v13.heap.size ≤ v15.heap.size := Below.size j16
        refine hK _ _ ⟨fun _ _ => fun p hp => Below.block (later j8 (later j12 (later j14 j16))) p hp, ?_⟩
        clear hK K
        try simp only [Act.put, List.setIfInBounds_toArray, List.set_cons_zero, List.set_cons_succ]
        exact leafC ⟨_, _, _, _, _, X, Y, v13.heap.size, v11.heap.size, v13.heap.size, rfl, by omega, by omega, by omega, by omega, bT, (later j8 (later j12 (later j14 j16))), Lib.hid ⟨ix, iy⟩, (Ints.more (Ints.below rx j16 l2) (Nat.le_refl _) (by omega)), (Ints.more (Ints.below ry j16 (Nat.le_refl _)) l1 (by omega))⟩
      case o2_10 =>
        
        go_simp
        obtain ⟨v18, hc_, bT, j19, s20⟩ := alloc_zt v11
        rw [hc_]
        clear hc_
        have zv18 : v11.heap.size ≤ v18.heap.size := Below.size j19
        refine hK _ _ ⟨fun _ _ => fun p hp => Below.block (later j8 (later j12 j19)) p hp, ?_⟩
        clear hK K
        try simp only [Act.put, List.setIfInBounds_toArray, List.set_cons_zero, List.set_cons_succ]
        refine stepC (i := 6) (L := #[true, true, true, true, true, true, true, false, false, false, true, false, false]) rfl (by rfl) (by kernel_rfl) (by rfl) (fun K hK => ?_)
        go_simp
        go_at_call 15
        refine (Ask_any v18 ⟨⟨ZDv, ZDv, ⟨false, A1, n1, n1, 0, canon 4294967296 N⟩, a⟩, false, 0, 0, none, 0, 0, []⟩ ⟨⟨rowZ _ _ _, rowZ _ _ _, (ints_on i1 j19), (ints_on hA (later j1 (later j2 (later j4 (later j6 (later j8 (later j12 j19)))))))⟩, Ints.nil_ ..⟩ (tab_later hT (later j1 (later j2 (later j4 (later j6 (later j8 (later j12 j19))))))) 2 J lo hi 0 (hask (x := ⟨false, A1, n1, n1, 0, canon 4294967296 N⟩) (ints_on i1 j19) (ints_on hA (later j1 (later j2 (later j4 (later j6 (later j8 (later j12 j19))))))) ⟨rfl, rfl, rfl⟩)).mono ?_
        rintro e' v21 ⟨X, Y, B_, rfl, ix, iy, j22, l1, l2, rx, ry⟩
        have zv21 : v18.heap.size ≤ v21.heap.size := Below.size j22
        refine hK _ _ ⟨fun _ _ => fun p hp => Below.block (later j8 (later j12 (later j19 j22))) p hp, ?_⟩
        clear hK K
        try simp only [Act.put, List.setIfInBounds_toArray, List.set_cons_zero, List.set_cons_succ]
        refine pureC (i := 7) (L := #[true, true, true, true, true, true, true, true, false, false, true, false, false]) (v := ?_) rfl (by rfl) (by kernel_rfl) (by kernel_rfl) (by kernel_rfl) (fun _ _ _ h => h) (by rfl) ?hy11 ?rest11
        case hy11 => intro w; go_simp; (try with_reducible rfl)
        try simp only [Act.put, List.setIfInBounds_toArray, List.set_cons_zero, List.set_cons_succ]
        refine pureC (i := 8) (L := #[true, true, true, true, true, true, true, true, true, false, true, false, false]) (v := ?_) rfl (by rfl) (by kernel_rfl) (by kernel_rfl) (by kernel_rfl) (fun _ _ _ h => h) (by rfl) ?hy12 ?rest12
        case hy12 => intro w; go_simp; (try with_reducible rfl)
        try simp only [Act.put, List.setIfInBounds_toArray, List.set_cons_zero, List.set_cons_succ]
        refine pureC (i := 9) (L := #[true, true, true, true, true, true, true, true, true, true, true, false, false]) (v := ?_) rfl (by rfl) (by kernel_rfl) (by kernel_rfl) (by kernel_rfl) (fun _ _ _ h => h) (by rfl) ?hy13 ?rest13
        case hy13 => intro w; go_simp; (try with_reducible rfl)
        try simp only [Act.put, List.setIfInBounds_toArray, List.set_cons_zero, List.set_cons_succ]
        exact leafC ⟨_, _, _, _, _, X, Y, v11.heap.size, v18.heap.size, v21.heap.size, rfl, by omega, by omega, by omega, by omega, (box_later bT j22 s20), (later j8 (later j12 (later j19 j22))), Lib.hid ⟨ix, iy⟩, (Ints.more rx (Nat.le_refl _) (by omega)), (Ints.more ry l1 (by omega))⟩
    case o1_10 =>
      
      go_simp
      obtain ⟨v23, hc_, bT, j24, s25⟩ := alloc_zt v7
      rw [hc_]
      clear hc_
      have zv23 : v7.heap.size ≤ v23.heap.size := Below.size j24
      refine hK _ _ ⟨fun _ _ => fun p hp => Below.block (later j8 j24) p hp, ?_⟩
      clear hK K
      try simp only [Act.put, List.setIfInBounds_toArray, List.set_cons_zero, List.set_cons_succ]
      refine stepC (i := 1) (L := #[true, true, true, false, false, true, false, false, false, false, true, false, false]) rfl (by rfl) (by kernel_rfl) (by rfl) (fun K hK => ?_)
      go_simp
      go_at_call 11
      refine (Of_any v23 N (by have := HN.out; omega) (by have := HN.out; omega) false N (decide_eq_false (by omega)) (Int.natAbs_natCast N)).mono ?_
      rintro e' v26 ⟨A1, n1, rfl, j27, I1⟩
      have i1 : DRow v26 0 v26.heap.size ⟨false, A1, n1, n1, 0, canon 4294967296 N⟩ := ints_all I1
      clear I1
      have zv26 : v23.heap.size ≤ v26.heap.size := Below.size j27
      refine hK _ _ ⟨fun _ _ => fun p hp => Below.block (later j8 (later j24 j27)) p hp, ?_⟩
      clear hK K
      try simp only [Act.put, List.setIfInBounds_toArray, List.set_cons_zero, List.set_cons_succ]
      refine pureC (i := 3) (L := #[true, true, true, true, false, true, false, false, false, false, true, false, false]) (v := ?_) rfl (by rfl) (by kernel_rfl) (by kernel_rfl) (by kernel_rfl) (fun _ _ _ h => h) (by rfl) ?hy15 ?rest15
      case hy15 => intro w; go_simp; (try with_reducible rfl)
      try simp only [Act.put, List.setIfInBounds_toArray, List.set_cons_zero, List.set_cons_succ]
      refine pureC (i := 4) (L := #[true, true, true, true, true, true, false, false, false, false, true, false, false]) (v := ?_) rfl (by rfl) (by kernel_rfl) (by kernel_rfl) (by kernel_rfl) (fun _ _ _ h => h) (by rfl) ?hy16 ?rest16
      case hy16 => intro w; go_simp; (try with_reducible rfl)
      try simp only [Act.put, List.setIfInBounds_toArray, List.set_cons_zero, List.set_cons_succ]
      refine stepC (i := 6) (L := #[true, true, true, true, true, true, true, false, false, false, true, false, false]) rfl (by rfl) (by kernel_rfl) (by rfl) (fun K hK => ?_)
      go_simp
      go_at_call 15
      refine (Ask_any v26 ⟨⟨ZDv, ZDv, ⟨false, A1, n1, n1, 0, canon 4294967296 N⟩, a⟩, false, 0, 0, none, 0, 0, []⟩ ⟨⟨rowZ _ _ _, rowZ _ _ _, i1, (ints_on hA (later j1 (later j2 (later j4 (later j6 (later j8 (later j24 j27)))))))⟩, Ints.nil_ ..⟩ (tab_later hT (later j1 (later j2 (later j4 (later j6 (later j8 (later j24 j27))))))) 2 J lo hi 0 (hask (x := ⟨false, A1, n1, n1, 0, canon 4294967296 N⟩) i1 (ints_on hA (later j1 (later j2 (later j4 (later j6 (later j8 (later j24 j27))))))) ⟨rfl, rfl, rfl⟩)).mono ?_
      rintro e' v28 ⟨X, Y, B_, rfl, ix, iy, j29, l1, l2, rx, ry⟩
      have zv28 : v26.heap.size ≤ v28.heap.size := Below.size j29
      refine hK _ _ ⟨fun _ _ => fun p hp => Below.block (later j8 (later j24 (later j27 j29))) p hp, ?_⟩
      clear hK K
      try simp only [Act.put, List.setIfInBounds_toArray, List.set_cons_zero, List.set_cons_succ]
      refine pureC (i := 7) (L := #[true, true, true, true, true, true, true, true, false, false, true, false, false]) (v := ?_) rfl (by rfl) (by kernel_rfl) (by kernel_rfl) (by kernel_rfl) (fun _ _ _ h => h) (by rfl) ?hy18 ?rest18
      case hy18 => intro w; go_simp; (try with_reducible rfl)
      try simp only [Act.put, List.setIfInBounds_toArray, List.set_cons_zero, List.set_cons_succ]
      refine pureC (i := 8) (L := #[true, true, true, true, true, true, true, true, true, false, true, false, false]) (v := ?_) rfl (by rfl) (by kernel_rfl) (by kernel_rfl) (by kernel_rfl) (fun _ _ _ h => h) (by rfl) ?hy19 ?rest19
      case hy19 => intro w; go_simp; (try with_reducible rfl)
      try simp only [Act.put, List.setIfInBounds_toArray, List.set_cons_zero, List.set_cons_succ]
      refine pureC (i := 9) (L := #[true, true, true, true, true, true, true, true, true, true, true, false, false]) (v := ?_) rfl (by rfl) (by kernel_rfl) (by kernel_rfl) (by kernel_rfl) (fun _ _ _ h => h) (by rfl) ?hy20 ?rest20
      case hy20 => intro w; go_simp; (try with_reducible rfl)
      try simp only [Act.put, List.setIfInBounds_toArray, List.set_cons_zero, List.set_cons_succ]
      exact leafC ⟨_, _, _, _, _, X, Y, v7.heap.size, v26.heap.size, v28.heap.size, rfl, by omega, by omega, by omega, by omega, (box_later bT (later j27 j29) s25), (later j8 (later j24 (later j27 j29))), Lib.hid ⟨ix, iy⟩, (Ints.more rx (Nat.le_refl _) (by omega)), (Ints.more ry l1 (by omega))⟩
  case leaf =>
    rintro a' w' ⟨v60, v62, v63, v65, v58, X, Y, g8, l_, h_, rfl, l8, l9, l10, l11, bT, bw, hXY, rX, rY⟩
    try simp only [Act.put, List.setIfInBounds_toArray, List.set_cons_zero, List.set_cons_succ]
    have lt8 := lt_of_heap bT
    
    have kp_ : Keeps v5 w' := fun p hp => Below.block bw p hp
    obtain ⟨U, hc_, bU, hb_, hf_, q5, q5'⟩ := told_into bT X Y
    refine stepK (i := 11) (L := #[true, true, true, true, true, true, true, true, true, true, true, true, false]) rfl (by rfl) (by kernel_rfl) (by rfl) (fun K hK => ?_)
    refine wp_store_mid 45 (.tmp 8) (.tmp 66) rfl g8 0 #[.bool X.s, .slice X.A X.n X.c, .int .i64 X.e, .bool Y.s, .slice Y.A Y.n Y.c, .int .i64 Y.e] rfl rfl bT.there (by kernel_rfl) (all_oneCell_toArray (cells6D_one X Y)) ?_
    rw [show w'.setCells g8 0 (#[.bool X.s, .slice X.A X.n X.c, .int .i64 X.e, .bool Y.s, .slice Y.A Y.n Y.c, .int .i64 Y.e] : Array Value).toList = U from hc_]
    clear hc_
    replace kp_ : Keeps v5 U := fun p hp => (hf_ p (by omega)).trans (kp_ p hp)
    refine hK _ _ ⟨fun _ _ => kp_, ?_⟩
    clear hK K kp_
    try simp only [Act.put, List.setIfInBounds_toArray, List.set_cons_zero, List.set_cons_succ]
    refine pureE (i := 12) (L := #[true, true, true, true, true, true, true, true, true, true, true, true, true]) (v := ?_) rfl (by rfl) (by kernel_rfl) (by kernel_rfl) (by kernel_rfl) (fun _ _ _ h => h) (by rfl) ?hy22 ?rest22
    case hy22 => intro w; go_simp; (try with_reducible rfl)
    try simp only [Act.put, List.setIfInBounds_toArray, List.set_cons_zero, List.set_cons_succ]
    refine doneE (by kernel_rfl) ?_ _
    have jU := hb_ _ _ bw l8
    have dX : DRow U 0 U.heap.size X := (intsR rX (w' := U) (fun b h1 h2 => hf_ b (by omega))).more (Nat.zero_le _) (by omega)
    have dY : DRow U 0 U.heap.size Y := (intsR rY (w' := U) (fun b h1 h2 => hf_ b (by omega))).more (Nat.zero_le _) (by omega)
    have sU : g8 < U.heap.size := by omega
    clear hb_ hf_ bT bw rX rY l9 l10 l11 hask
    have rl := TBox.low bU
    go_wp2_with (first
      | (refine wpList_load_mid rfl 24 (.tmp 69) rfl (g8) 0 rfl [.bool X.s, .slice X.A X.n X.c, .int .i64 X.e] _ rl Tryd.underlying24 rfl (by kernel_rfl) ?_))
    refine (times_any U X lo hXY.out.1 HMs.out.1 dX (tab_later hT (later j1 (later j2 (later j4 (later j6 jU))))) N (by have := HN.out; omega) r1 true T1.out).mono ?_
    rintro e' v30 ⟨x1, rfl, i1, j31, d1⟩
    try clear hw
    clear rl
    replace i1 := Lib.hid i1
    replace d1 := ints_all d1
    obtain ⟨u32, h35, b1, j33, s34⟩ := alloc_q v30 x1
    have rl := TBox.high (box_later bU (later j31 j33) sU)
    go_wp2_with (first
      | (refine wpList_store_nw rfl 24 (.tmp 10) (.tmp 73) rfl _ #[.bool x1.s, .slice x1.A x1.n x1.c, .int .i64 x1.e] rfl rfl (by kernel_rfl) rfl (all_oneCell_toArray (cells3D_one x1)) ?_; rw [h35])
      | (refine wpList_load_mid rfl 24 (.tmp 76) rfl (g8) 3 rfl [.bool Y.s, .slice Y.A Y.n Y.c, .int .i64 Y.e] _ rl Tryd.underlying24 rfl (by kernel_rfl) ?_))
    refine (times_any u32 Y hi hXY.out.2 HMs.out.2.1 (ints_on dY (later j31 j33)) (tab_later hT (later j1 (later j2 (later j4 (later j6 (later jU (later j31 j33))))))) N (by have := HN.out; omega) r2 true T2.out).mono ?_
    rintro e' v36 ⟨x2, rfl, i2, j37, d2⟩
    try clear hw
    clear rl h35
    replace i2 := Lib.hid i2
    replace d2 := ints_all d2
    obtain ⟨u38, h41, b2, j39, s40⟩ := alloc_q v36 x2
    have ra : u38.rangeAt (v30.heap.size) 0 [.bool x1.s, .slice x1.A x1.n x1.c, .int .i64 x1.e] := QBox.range (x := x1) (box_later b1 (later j37 j39) s34)
    have rb : u38.rangeAt (w.heap.size) 0 [.bool a.s, .slice a.A a.n a.c, .int .i64 a.e] := QBox.range (x := a) (box_later bA_ (later jU (later j31 (later j33 (later j37 j39)))) (Nat.lt_of_lt_of_le S1 (Below.size (later j2 (later j4 j6)))))
    go_wp2_with (first
      | (refine wpList_store_nw rfl 24 (.tmp 12) (.tmp 80) rfl _ #[.bool x2.s, .slice x2.A x2.n x2.c, .int .i64 x2.e] rfl rfl (by kernel_rfl) rfl (all_oneCell_toArray (cells3D_one x2)) ?_; rw [h41])
      | (refine wpList_load_mid rfl 24 (.tmp 10) rfl (v30.heap.size) 0 rfl [.bool x1.s, .slice x1.A x1.n x1.c, .int .i64 x1.e] _ ra Tryd.underlying24 rfl (by kernel_rfl) ?_)
      | (refine wpList_load_mid rfl 24 (.tmp 3) rfl (w.heap.size) 0 rfl [.bool a.s, .slice a.A a.n a.c, .int .i64 a.e] _ rb Tryd.underlying24 rfl (by kernel_rfl) ?_))
    refine (Cmp_all u38 x1.s a.s x1.A a.A x1.n x1.c a.n a.c x1.xs a.xs x1.e a.e (ints_on d1 (later j33 (later j37 j39))) (ints_on hA (later j1 (later j2 (later j4 (later j6 (later jU (later j31 (later j33 (later j37 j39))))))))) (tab_later hT (later j1 (later j2 (later j4 (later j6 (later jU (later j31 (later j33 (later j37 j39))))))))) z1 0 ((cmp_two i1.out HD.out.1 HMs.out.2.2.1 HD.out.2).trans (by rw [HZ1.out]))).mono ?_
    rintro e' v42 ⟨rfl, j43⟩
    try clear hw
    clear ra rb h41
    have ra : v42.rangeAt (v36.heap.size) 0 [.bool x2.s, .slice x2.A x2.n x2.c, .int .i64 x2.e] := QBox.range (x := x2) (box_later b2 j43 s40)
    have rb : v42.rangeAt (w.heap.size) 0 [.bool a.s, .slice a.A a.n a.c, .int .i64 a.e] := QBox.range (x := a) (box_later bA_ (later jU (later j31 (later j33 (later j37 (later j39 j43))))) (Nat.lt_of_lt_of_le S1 (Below.size (later j2 (later j4 j6)))))
    go_wp2_with (first
      | (refine wpList_load_mid rfl 24 (.tmp 12) rfl (v36.heap.size) 0 rfl [.bool x2.s, .slice x2.A x2.n x2.c, .int .i64 x2.e] _ ra Tryd.underlying24 rfl (by kernel_rfl) ?_)
      | (refine wpList_load_mid rfl 24 (.tmp 3) rfl (w.heap.size) 0 rfl [.bool a.s, .slice a.A a.n a.c, .int .i64 a.e] _ rb Tryd.underlying24 rfl (by kernel_rfl) ?_))
    refine (Cmp_all v42 a.s x2.s a.A x2.A a.n a.c x2.n x2.c a.xs x2.xs a.e x2.e (ints_on hA (later j1 (later j2 (later j4 (later j6 (later jU (later j31 (later j33 (later j37 (later j39 j43)))))))))) (ints_on d2 (later j39 j43)) (tab_later hT (later j1 (later j2 (later j4 (later j6 (later jU (later j31 (later j33 (later j37 (later j39 j43)))))))))) z2 0 ((cmp_two HD.out.1 i2.out HD.out.2 HMs.out.2.2.2).trans (by rw [HZ2.out]))).mono ?_
    rintro e' v44 ⟨rfl, j45⟩
    try clear hw
    clear ra rb
    go_wp2
    go_ret
    exact ⟨rfl, (later j1 (later j2 (later j4 (later j6 (later jU (later j31 (later j33 (later j37 (later j39 (later j43 j45))))))))))⟩
theorem sums25_walkR (w : World) (s : Bool) (A : Option Addr) (m c : Nat) (xs : List Int) (e : Int) (h : Ints w 0 w.heap.size .u32 A m xs) (n k : Int) (hT : Tab w) :
    Calls Tryd.prog 4 #[.agg #[.bool s, .slice A m c, .int .i64 e], .int .i64 n, .int .i64 k] w fun e' w' => e' = .returned (.bool true) ∧ Below w.heap.size w w' :=
  sums25_walk w ⟨s, A, m, c, e, xs⟩ h hT n k
end Ma
end Go.Proofs.YtmbppgjhdcmckaaDoor
