/- headcountlaw25.times: a walk (printed by a program of mine). -/
import Derived.Test.YtmbppgjhdcmckaaDoorQuL1
namespace Go.Proofs.YtmbppgjhdcmckaaDoor
open Go.RowKit
namespace Ma
open Dp Dy
/-- So many times: sum, part, are all right? -/
def timesD (n : Nat) (s p : Dn) (ok : Bool) : Dn × Bool :=
  if h : n = 0 then (s, ok) else
  let s' := if n % 2 = 1 then (addD s p).1 else s
  let o' := if n % 2 = 1 then ok && decide ((addD s p).2 = 0) else ok
  if n / 2 = 0 then (s', o') else timesD (n / 2) s' (addD p p).1 (o' && decide ((addD p p).2 = 0))
termination_by n
decreasing_by omega
theorem timesD_zero (s p : Dn) (o : Bool) : timesD 0 s p o = (s, o) := by
  rw [timesD]
  rfl
theorem timesD_odd_end {m : Nat} {s p : Dn} {o : Bool} {r : Dn × Bool} (h0 : 0 < m) (h1 : m % 2 = 1) (h2 : m / 2 = 0) (h : timesD m s p o = r) : timesD 0 (addD s p).1 p (o && decide ((addD s p).2 = 0)) = r := by
  rw [timesD, dif_neg (by omega)] at h
  simp only [if_pos h1, if_pos h2] at h
  rw [timesD_zero]
  exact h
theorem timesD_even_end {m : Nat} {s p : Dn} {o : Bool} {r : Dn × Bool} (h0 : 0 < m) (h1 : ¬ m % 2 = 1) (h2 : m / 2 = 0) (h : timesD m s p o = r) : timesD 0 s p o = r := by
  omega
theorem timesD_odd_more {m q : Nat} {s p : Dn} {o : Bool} {r : Dn × Bool} (h0 : 0 < m) (h1 : m % 2 = 1) (h2 : m / 2 = q) (h3 : 0 < q) (h : timesD m s p o = r) : timesD q (addD s p).1 (addD p p).1 ((o && decide ((addD s p).2 = 0)) && decide ((addD p p).2 = 0)) = r := by
  rw [timesD, dif_neg (by omega)] at h
  simp only [if_pos h1, h2, if_neg (show ¬ q = 0 by omega)] at h
  exact h
theorem timesD_even_more {m q : Nat} {s p : Dn} {o : Bool} {r : Dn × Bool} (h0 : 0 < m) (h1 : ¬ m % 2 = 1) (h2 : m / 2 = q) (h3 : 0 < q) (h : timesD m s p o = r) : timesD q s (addD p p).1 (o && decide ((addD p p).2 = 0)) = r := by
  rw [timesD, dif_neg (by omega)] at h
  simp only [if_neg h1, h2, if_neg (show ¬ q = 0 by omega)] at h
  exact h
set_option maxHeartbeats 12800000 in
set_option maxRecDepth 100000 in
/-- headcountlaw25.times. -/
theorem times_any (w : World) (x : Dv) (d : Dn) (hx : Is d x) (hd : d.May) (hR : DRow w 0 w.heap.size x) (hT : Tab w) (n : Nat) (hn : n ≤ 9223372036854775807) (r : Dn) (ok : Bool) (h : timesD n Dn.zero d true = (r, ok)) :
    Calls Tryd.prog 9 #[.agg #[.bool x.s, .slice x.A x.n x.c, .int .i64 x.e], .int .i64 (n : Nat)] w fun e w' => ∃ y : Dv, e = .returned (.tuple #[.agg #[.bool y.s, .slice y.A y.n y.c, .int .i64 y.e], .bool ok]) ∧ Is r y ∧ Below w.heap.size w w' ∧ DRow w' w.heap.size w'.heap.size y := by
  obtain ⟨w1, hw1, bX, j1, S1⟩ := alloc_q w x
  obtain ⟨w2, hw2, bZ, j2, S2⟩ := alloc_zq w1
  have s1 := j1.size
  have s2 := j2.size
  have z1 : w1.heap.size = w.heap.size + 1 := by rw [← hw1]; simp
  have jw : Below w.heap.size w w2 := j1.trans (j2.mono s1)
  replace bX : QBox w2 w.heap.size x := (j2.block _ S1).trans bX
  subst hw1
  rw [z1] at bZ S2
  have HH := Lib.hid h
  have HX := Lib.hid hx
  clear h hx
  go_enter Tryd.func9, Tryd.ntmps9
  go_wp2_with fail
  clear j1 S1 j2 s1 s2 z1
  try clear hw2
  try clear hw
  refine region_E (Keeps w2) [] (m := 7) (L := #[false, false, false, false, false, false, false]) (by kernel_rfl) (by rfl) (by rfl) ?_
  have j2 : Below w2.heap.size w2 w2.drew := (Below.refl _ _).drew
  generalize w2.drew = v1 at *
  have kpy3 : Keeps w2 v1 := fun p hp => Below.block j2 p hp
  refine readE (i := 1) (L := #[false, true, false, false, false, false, false]) (v := .agg #[.bool x.s, .slice x.A x.n x.c, .int .i64 x.e]) rfl (by rfl) (by kernel_rfl) (by kernel_rfl) (by kernel_rfl) (fun _ _ _ h => h) (by assumption) (by rfl) ?y3 ?z4
  case y3 =>
    intro w' h1
    exact run_load_op 24 (.tmp 2) rfl w.heap.size 0 rfl [.bool x.s, .slice x.A x.n x.c, .int .i64 x.e] _ (QBox.range (x := x) ((h1 _ (show w.heap.size < w2.heap.size by omega)).trans bX)) Tryd.underlying24 rfl (by kernel_rfl)
  try simp only [Act.put, List.setIfInBounds_toArray, List.set_cons_zero, List.set_cons_succ]
  refine E_of_C (fun (A : Act) a' w' => ∃ (A1 : Option Addr) (g6 g7 : Nat), a' = (((A.put (some 13) (.agg #[.bool false, .slice A1 0 0, .int .i64 0])).put (some 6) (.pointer (some ⟨g6, 0, none⟩))).put (some 7) (.pointer (some ⟨g7, 0, none⟩))) ∧ w2.heap.size ≤ g6 ∧ w2.heap.size ≤ g7 ∧ g6 ≠ g7 ∧ QBox w' g6 ZDv ∧ QBox w' g7 ZDv ∧ Below w2.heap.size w2 w') #[true, true, true, true, false, false, false] 3 ?leaf ?tree
  case tree =>
    have zv1 : w2.heap.size ≤ v1.heap.size := Below.size j2
    
    refine stepC3 (i := 0) (j := 2) (k := 3) (Li := #[true, true, false, false, false, false, false]) (Lj := #[false, true, true, false, false, false, false]) (Lk := #[false, true, false, true, false, false, false]) rfl rfl rfl (by rfl) (by rfl) (by rfl) (by kernel_rfl) (by rfl) (by rfl) (by rfl) (fun K hK => ?o1_0) (fun K hK => ?o1_2) (fun K hK => ?o1_3)
    case o1_0 =>
      
      go_simp
      go_at_call 11
      refine (Of_any v1 0 (by decide) (by decide) false 0 rfl rfl).mono ?_
      rintro e' v5 ⟨A1, n1, rfl, j6, I1⟩
      obtain rfl : n1 = 0 := by
        have := I1.len
        rw [canon_zero] at this
        simpa using this.symm
      clear I1
      have zv5 : v1.heap.size ≤ v5.heap.size := Below.size j6
      refine hK _ _ ⟨fun _ _ => fun p hp => Below.block (later j2 j6) p hp, ?_⟩
      clear hK K
      try simp only [Act.put, List.setIfInBounds_toArray, List.set_cons_zero, List.set_cons_succ]
      refine stepC2 (i := 2) (j := 3) (Li := #[true, true, true, false, false, false, false]) (Lj := #[true, true, false, true, false, false, false]) rfl rfl (by rfl) (by rfl) (by kernel_rfl) (by rfl) (by rfl) (fun K hK => ?o2_2) (fun K hK => ?o2_3)
      case o2_2 =>
        
        go_simp
        obtain ⟨v7, hc_, b6, j8, s9⟩ := alloc_zq v5
        rw [hc_]
        clear hc_
        have zv7 : v5.heap.size ≤ v7.heap.size := Below.size j8
        refine hK _ _ ⟨fun _ _ => fun p hp => Below.block (later j2 (later j6 j8)) p hp, ?_⟩
        clear hK K
        try simp only [Act.put, List.setIfInBounds_toArray, List.set_cons_zero, List.set_cons_succ]
        refine stepC (i := 3) (L := #[true, true, true, true, false, false, false]) rfl (by rfl) (by kernel_rfl) (by rfl) (fun K hK => ?_)
        go_simp
        obtain ⟨v10, hc_, b7, j11, s12⟩ := alloc_zq v7
        rw [hc_]
        clear hc_
        have zv10 : v7.heap.size ≤ v10.heap.size := Below.size j11
        refine hK _ _ ⟨fun _ _ => fun p hp => Below.block (later j2 (later j6 (later j8 j11))) p hp, ?_⟩
        clear hK K
        try simp only [Act.put, List.setIfInBounds_toArray, List.set_cons_zero, List.set_cons_succ]
        exact leafC ⟨A1, v5.heap.size, v7.heap.size, rfl, by omega, by omega, by omega, (box_later b6 j11 s9), b7, (later j2 (later j6 (later j8 j11)))⟩
      case o2_3 =>
        
        go_simp
        obtain ⟨v13, hc_, b7, j14, s15⟩ := alloc_zq v5
        rw [hc_]
        clear hc_
        have zv13 : v5.heap.size ≤ v13.heap.size := Below.size j14
        refine hK _ _ ⟨fun _ _ => fun p hp => Below.block (later j2 (later j6 j14)) p hp, ?_⟩
        clear hK K
        try simp only [Act.put, List.setIfInBounds_toArray, List.set_cons_zero, List.set_cons_succ]
        refine stepC (i := 2) (L := #[true, true, true, true, false, false, false]) rfl (by rfl) (by kernel_rfl) (by rfl) (fun K hK => ?_)
        go_simp
        obtain ⟨v16, hc_, b6, j17, s18⟩ := alloc_zq v13
        rw [hc_]
        clear hc_
        have zv16 : v13.heap.size ≤ v16.heap.size := Below.size j17
        refine hK _ _ ⟨fun _ _ => fun p hp => Below.block (later j2 (later j6 (later j14 j17))) p hp, ?_⟩
        clear hK K
        try simp only [Act.put, List.setIfInBounds_toArray, List.set_cons_zero, List.set_cons_succ]
        exact leafC ⟨A1, v13.heap.size, v5.heap.size, rfl, by omega, by omega, by omega, b6, (box_later b7 j17 s15), (later j2 (later j6 (later j14 j17)))⟩
    case o1_2 =>
      
      go_simp
      obtain ⟨v19, hc_, b6, j20, s21⟩ := alloc_zq v1
      rw [hc_]
      clear hc_
      have zv19 : v1.heap.size ≤ v19.heap.size := Below.size j20
      refine hK _ _ ⟨fun _ _ => fun p hp => Below.block (later j2 j20) p hp, ?_⟩
      clear hK K
      try simp only [Act.put, List.setIfInBounds_toArray, List.set_cons_zero, List.set_cons_succ]
      refine stepC2 (i := 0) (j := 3) (Li := #[true, true, true, false, false, false, false]) (Lj := #[false, true, true, true, false, false, false]) rfl rfl (by rfl) (by rfl) (by kernel_rfl) (by rfl) (by rfl) (fun K hK => ?o3_0) (fun K hK => ?o3_3)
      case o3_0 =>
        
        go_simp
        go_at_call 11
        refine (Of_any v19 0 (by decide) (by decide) false 0 rfl rfl).mono ?_
        rintro e' v22 ⟨A1, n1, rfl, j23, I1⟩
        obtain rfl : n1 = 0 := by
          have := I1.len
          rw [canon_zero] at this
          simpa using this.symm
        clear I1
        have zv22 : v19.heap.size ≤ v22.heap.size := Below.size j23
        refine hK _ _ ⟨fun _ _ => fun p hp => Below.block (later j2 (later j20 j23)) p hp, ?_⟩
        clear hK K
        try simp only [Act.put, List.setIfInBounds_toArray, List.set_cons_zero, List.set_cons_succ]
        refine stepC (i := 3) (L := #[true, true, true, true, false, false, false]) rfl (by rfl) (by kernel_rfl) (by rfl) (fun K hK => ?_)
        go_simp
        obtain ⟨v24, hc_, b7, j25, s26⟩ := alloc_zq v22
        rw [hc_]
        clear hc_
        have zv24 : v22.heap.size ≤ v24.heap.size := Below.size j25
        refine hK _ _ ⟨fun _ _ => fun p hp => Below.block (later j2 (later j20 (later j23 j25))) p hp, ?_⟩
        clear hK K
        try simp only [Act.put, List.setIfInBounds_toArray, List.set_cons_zero, List.set_cons_succ]
        exact leafC ⟨A1, v1.heap.size, v22.heap.size, rfl, by omega, by omega, by omega, (box_later b6 (later j23 j25) s21), b7, (later j2 (later j20 (later j23 j25)))⟩
      case o3_3 =>
        
        go_simp
        obtain ⟨v27, hc_, b7, j28, s29⟩ := alloc_zq v19
        rw [hc_]
        clear hc_
        have zv27 : v19.heap.size ≤ v27.heap.size := Below.size j28
        refine hK _ _ ⟨fun _ _ => fun p hp => Below.block (later j2 (later j20 j28)) p hp, ?_⟩
        clear hK K
        try simp only [Act.put, List.setIfInBounds_toArray, List.set_cons_zero, List.set_cons_succ]
        refine stepC (i := 0) (L := #[true, true, true, true, false, false, false]) rfl (by rfl) (by kernel_rfl) (by rfl) (fun K hK => ?_)
        go_simp
        go_at_call 11
        refine (Of_any v27 0 (by decide) (by decide) false 0 rfl rfl).mono ?_
        rintro e' v30 ⟨A1, n1, rfl, j31, I1⟩
        obtain rfl : n1 = 0 := by
          have := I1.len
          rw [canon_zero] at this
          simpa using this.symm
        clear I1
        have zv30 : v27.heap.size ≤ v30.heap.size := Below.size j31
        refine hK _ _ ⟨fun _ _ => fun p hp => Below.block (later j2 (later j20 (later j28 j31))) p hp, ?_⟩
        clear hK K
        try simp only [Act.put, List.setIfInBounds_toArray, List.set_cons_zero, List.set_cons_succ]
        exact leafC ⟨A1, v1.heap.size, v19.heap.size, rfl, by omega, by omega, by omega, (box_later b6 (later j28 j31) s21), (box_later b7 j31 s29), (later j2 (later j20 (later j28 j31)))⟩
    case o1_3 =>
      
      go_simp
      obtain ⟨v32, hc_, b7, j33, s34⟩ := alloc_zq v1
      rw [hc_]
      clear hc_
      have zv32 : v1.heap.size ≤ v32.heap.size := Below.size j33
      refine hK _ _ ⟨fun _ _ => fun p hp => Below.block (later j2 j33) p hp, ?_⟩
      clear hK K
      try simp only [Act.put, List.setIfInBounds_toArray, List.set_cons_zero, List.set_cons_succ]
      refine stepC2 (i := 0) (j := 2) (Li := #[true, true, false, true, false, false, false]) (Lj := #[false, true, true, true, false, false, false]) rfl rfl (by rfl) (by rfl) (by kernel_rfl) (by rfl) (by rfl) (fun K hK => ?o4_0) (fun K hK => ?o4_2)
      case o4_0 =>
        
        go_simp
        go_at_call 11
        refine (Of_any v32 0 (by decide) (by decide) false 0 rfl rfl).mono ?_
        rintro e' v35 ⟨A1, n1, rfl, j36, I1⟩
        obtain rfl : n1 = 0 := by
          have := I1.len
          rw [canon_zero] at this
          simpa using this.symm
        clear I1
        have zv35 : v32.heap.size ≤ v35.heap.size := Below.size j36
        refine hK _ _ ⟨fun _ _ => fun p hp => Below.block (later j2 (later j33 j36)) p hp, ?_⟩
        clear hK K
        try simp only [Act.put, List.setIfInBounds_toArray, List.set_cons_zero, List.set_cons_succ]
        refine stepC (i := 2) (L := #[true, true, true, true, false, false, false]) rfl (by rfl) (by kernel_rfl) (by rfl) (fun K hK => ?_)
        go_simp
        obtain ⟨v37, hc_, b6, j38, s39⟩ := alloc_zq v35
        rw [hc_]
        clear hc_
        have zv37 : v35.heap.size ≤ v37.heap.size := Below.size j38
        refine hK _ _ ⟨fun _ _ => fun p hp => Below.block (later j2 (later j33 (later j36 j38))) p hp, ?_⟩
        clear hK K
        try simp only [Act.put, List.setIfInBounds_toArray, List.set_cons_zero, List.set_cons_succ]
        exact leafC ⟨A1, v35.heap.size, v1.heap.size, rfl, by omega, by omega, by omega, b6, (box_later b7 (later j36 j38) s34), (later j2 (later j33 (later j36 j38)))⟩
      case o4_2 =>
        
        go_simp
        obtain ⟨v40, hc_, b6, j41, s42⟩ := alloc_zq v32
        rw [hc_]
        clear hc_
        have zv40 : v32.heap.size ≤ v40.heap.size := Below.size j41
        refine hK _ _ ⟨fun _ _ => fun p hp => Below.block (later j2 (later j33 j41)) p hp, ?_⟩
        clear hK K
        try simp only [Act.put, List.setIfInBounds_toArray, List.set_cons_zero, List.set_cons_succ]
        refine stepC (i := 0) (L := #[true, true, true, true, false, false, false]) rfl (by rfl) (by kernel_rfl) (by rfl) (fun K hK => ?_)
        go_simp
        go_at_call 11
        refine (Of_any v40 0 (by decide) (by decide) false 0 rfl rfl).mono ?_
        rintro e' v43 ⟨A1, n1, rfl, j44, I1⟩
        obtain rfl : n1 = 0 := by
          have := I1.len
          rw [canon_zero] at this
          simpa using this.symm
        clear I1
        have zv43 : v40.heap.size ≤ v43.heap.size := Below.size j44
        refine hK _ _ ⟨fun _ _ => fun p hp => Below.block (later j2 (later j33 (later j41 j44))) p hp, ?_⟩
        clear hK K
        try simp only [Act.put, List.setIfInBounds_toArray, List.set_cons_zero, List.set_cons_succ]
        exact leafC ⟨A1, v32.heap.size, v1.heap.size, rfl, by omega, by omega, by omega, (box_later b6 j44 s42), (box_later b7 (later j41 j44) s34), (later j2 (later j33 (later j41 j44)))⟩
  case leaf =>
    rintro a' w' ⟨A1, g6, g7, rfl, l6, l7, hne, b6, b7, bw⟩
    try simp only [Act.put, List.setIfInBounds_toArray, List.set_cons_zero, List.set_cons_succ]
    have lt6 := lt_of_heap b6
    have lt7 := lt_of_heap b7
    
    have kp_ : Keeps w2 w' := fun p hp => Below.block bw p hp
    obtain ⟨U4, hc_, b6', hb4, hf4, q4, q4'⟩ := dyad_into b6 ⟨false, A1, 0, 0, 0, []⟩
    refine stepK (i := 4) (L := #[true, true, true, true, true, false, false]) rfl (by rfl) (by kernel_rfl) (by rfl) (fun K hK => ?_)
    refine wp_store_mid 24 (.tmp 6) (.tmp 13) rfl g6 0 #[.bool false, .slice A1 0 0, .int .i64 0] rfl rfl b6.there (by kernel_rfl) (all_oneCell_toArray (cells3D_one ⟨false, A1, 0, 0, 0, []⟩)) ?_
    rw [show w'.setCells g6 0 (#[.bool false, .slice A1 0 0, .int .i64 0] : Array Value).toList = U4 from hc_]
    clear hc_
    replace kp_ : Keeps w2 U4 := fun p hp => (hf4 p (by omega)).trans (kp_ p hp)
    refine hK _ _ ⟨fun _ _ => kp_, ?_⟩
    clear hK K
    try simp only [Act.put, List.setIfInBounds_toArray, List.set_cons_zero, List.set_cons_succ]
    have b7' : QBox U4 g7 ZDv := (hf4 _ (by omega)).trans b7
    obtain ⟨U5, hc_, b7'', hb5, hf5, q5, q5'⟩ := dyad_into b7' x
    refine stepK (i := 5) (L := #[true, true, true, true, true, true, false]) rfl (by rfl) (by kernel_rfl) (by rfl) (fun K hK => ?_)
    refine wp_store_mid 24 (.tmp 7) (.tmp 14) rfl g7 0 #[.bool x.s, .slice x.A x.n x.c, .int .i64 x.e] rfl rfl b7'.there (by kernel_rfl) (all_oneCell_toArray (cells3D_one x)) ?_
    rw [show U4.setCells g7 0 (#[.bool x.s, .slice x.A x.n x.c, .int .i64 x.e] : Array Value).toList = U5 from hc_]
    clear hc_
    replace kp_ : Keeps w2 U5 := fun p hp => (hf5 p (by omega)).trans (kp_ p hp)
    refine hK _ _ ⟨fun _ _ => kp_, ?_⟩
    clear hK K kp_
    try simp only [Act.put, List.setIfInBounds_toArray, List.set_cons_zero, List.set_cons_succ]
    refine pureE (i := 6) (L := #[true, true, true, true, true, true, true]) (v := ?_) rfl (by rfl) (by kernel_rfl) (by kernel_rfl) (by kernel_rfl) (fun _ _ _ h => h) (by rfl) ?hy10 ?rest10
    case hy10 => intro w; go_simp; (try with_reducible rfl)
    try simp only [Act.put, List.setIfInBounds_toArray, List.set_cons_zero, List.set_cons_succ]
    refine doneE (by kernel_rfl) ?_ _
    have B6 : QBox U5 g6 ⟨false, A1, 0, 0, 0, []⟩ := (hf5 _ (by omega)).trans b6'
    have bw5 := hb5 _ _ (hb4 _ _ bw l6) l7
    have bZ5 : QBox U5 (w.heap.size + 1) ZDv := (hf5 _ (by omega)).trans ((hf4 _ (by omega)).trans ((bw.block _ S2).trans bZ))
    have sw := bw.size
    have b5 := hb5 _ _ (hb4 _ _ (jw.trans (bw.mono jw.size)) (by omega)) (by omega)
    have hR5 : DRow U5 0 w.heap.size x := intsR hR (w' := U5) (fun b h1 h2 => b5.block b h2)
    have n0 : ∀ (W : World) (lo hi : Nat), DRow W lo hi ⟨false, A1, 0, 0, 0, []⟩ := fun W lo hi => ⟨rfl, (fun x hx => absurd hx (by simp)), (Nat.zero_le _), (fun h => absurd h (Nat.lt_irrefl 0))⟩
    clear hb4 hb5 hf4 hf5 b7' b6' b6 b7 bw5 bX bZ
    go_wp2
    go_loopw [1, 8] (fun nv okv wr => ∃ (m : Nat) (s p : Dv) (ds dp : Dn) (o : Bool) (lo hi lo' hi' : Nat), nv = .int .i64 m ∧ okv = .bool o ∧ m ≤ n ∧ Hid (timesD m ds dp o = (r, ok)) ∧ Hid (Is ds s) ∧ Hid (Is dp p) ∧ Hid (ds.May ∧ dp.May) ∧ QBox wr g6 s ∧ QBox wr g7 p ∧ QBox wr (w.heap.size + 1) ZDv ∧ Below w.heap.size w wr ∧ g6 < wr.heap.size ∧ g7 < wr.heap.size ∧ DRow wr lo hi s ∧ g6 < lo ∧ g7 < lo ∧ lo ≤ hi ∧ hi ≤ wr.heap.size ∧ DRow wr lo' hi' p ∧ hi' ≤ wr.heap.size ∧ (hi' ≤ w.heap.size ∨ (g6 < lo' ∧ g7 < lo'))) (fun nv _ _ => (intOf nv).toNat)
    case atStart => exact ⟨n, ⟨false, A1, 0, 0, 0, []⟩, x, Dn.zero, d, true, U5.heap.size, U5.heap.size, 0, w.heap.size, rfl, rfl, Nat.le_refl _, HH, Lib.hid ⟨rfl, rfl, by rw [show Dn.zero.m = 0 from rfl, canon_zero]⟩, HX, Lib.hid ⟨zero_may, hd⟩, B6, b7'', bZ5, b5, by omega, by omega, n0 _ _ _, by omega, by omega, Nat.le_refl _, Nat.le_refl _, hR5, by omega, .inl (Nat.le_refl _)⟩
    case round =>
      clear HH HX B6 b7'' bZ5 b5 hR5 n0 bw
      obtain ⟨m, s, p, ds, dp, o, lo, hi, lo', hi', rfl, rfl, hmn, ht, is, ip, hm, b6, b7, bZ, hb, t6, t7, rs, e1, e2, e3, e4, rp, e5, e6⟩ := hrel
      have lw := hb.size
      by_cases h0 : m = 0
      · subst h0
        have ht0 := ht.out
        rw [timesD_zero] at ht0
        injection ht0 with h1 h2
        subst h1 h2
        obtain ⟨U, hU, bF, hbF, hfF, q1, q2⟩ := dyad_into bZ s
        have th := QBox.there bZ
        replace hU : wr.setCells (w.heap.size + 1) 0 (#[.bool s.s, .slice s.A s.n s.c, .int .i64 s.e] : Array Value).toList = U := hU
        have HU := Lib.hid hU
        clear hU
        have rl6 := QBox.range b6
        go_wp2_with (first
          | (refine wpList_load_mid rfl 24 (.tmp 6) rfl g6 0 rfl [.bool s.s, .slice s.A s.n s.c, .int .i64 s.e] _ rl6 Tryd.underlying24 rfl (by kernel_rfl) ?_)
          | (refine wpList_store_mid rfl 24 (.tmp 4) (.tmp 48) rfl (w.heap.size + 1) 0 #[.bool s.s, .slice s.A s.n s.c, .int .i64 s.e] rfl rfl th (by kernel_rfl) (all_oneCell_toArray (cells3D_one s)) ?_; rw [HU.out]))
        have fin := hbF _ _ hb (by omega)
        exact bodyPost_ret (results_row_slot Tryd.results9 _ _ (w.heap.size + 1) 24 #[.bool s.s, .slice s.A s.n s.c, .int .i64 s.e] (0, 0) _ (.bool o) rfl rfl bF Tryd.underlying24 rfl (by kernel_rfl)) rfl ⟨s, rfl, is.out, fin, (intsR rs (w' := U) (fun b h1 h2 => hfF b (by omega))).more (by omega) (by omega)⟩
      have hm0 : 0 < m := by omega
      obtain ⟨q, hq⟩ : ∃ q, m / 2 = q := ⟨_, rfl⟩
      have hdiv : ((m : Nat) : Int).tdiv 2 = ((q : Nat) : Int) := by rw [Int.tdiv_eq_ediv_of_nonneg (by omega)]; omega
      have hwm : IntKind.i64.wrap ((q : Nat) : Int) = ((q : Nat) : Int) := by rw [IntKind.wrap_i64]; omega
      have hql : q < m := by omega
      by_cases hodd : m % 2 = 1
      · skip
        have hrem : ((m : Nat) : Int).tmod 2 = 1 := by rw [Int.tmod_eq_emod_of_nonneg (by omega)]; omega
        cases o
        · skip
          obtain ⟨ra, hra⟩ : ∃ q, (addD ds dp).1 = q := ⟨_, rfl⟩
          obtain ⟨ca, hca⟩ : ∃ q, (addD ds dp).2 = q := ⟨_, rfl⟩
          have HXa := Lib.hid (show addX s.s s.xs s.e p.s p.xs p.e = (ra, ca) by rw [is.out.add ip.out hm.out.1 hm.out.2, ← hra, ← hca])
          have rl6 := QBox.range b6
          have rl7 := QBox.range b7
          go_wp2_with (first
            | (refine wpList_load_mid rfl 24 (.tmp 6) rfl g6 0 rfl [.bool s.s, .slice s.A s.n s.c, .int .i64 s.e] _ rl6 Tryd.underlying24 rfl (by kernel_rfl) ?_)
            | (refine wpList_load_mid rfl 24 (.tmp 7) rfl g7 0 rfl [.bool p.s, .slice p.A p.n p.c, .int .i64 p.e] _ rl7 Tryd.underlying24 rfl (by kernel_rfl) ?_))
          refine (Add_all wr s.s p.s s.A p.A s.n s.c p.n p.c s.xs p.xs s.e p.e (rs.more (Nat.zero_le _) e4) (rp.more (Nat.zero_le _) e5) (tab_later hT hb) ra ca HXa.out).mono ?_
          rintro e' va ⟨Aa, na, ka, rfl, _, ja, Ia⟩
          clear rl6 rl7
          obtain ⟨ua, hua, baa, jua, Sua⟩ := alloc_q va ⟨ra.neg, Aa, na, ka, ra.e, canon 4294967296 ra.m⟩
          replace hua : va.alloc (.cells #[.bool ra.neg, .slice Aa na ka, .int .i64 ra.e] 24) = ua := hua
          have sa_ := ja.size
          have sua := jua.size
          have b6a : QBox ua g6 s := ((later ja jua).block _ t6).trans b6
          have b7a : QBox ua g7 p := ((later ja jua).block _ t7).trans b7
          have bZa : QBox ua (w.heap.size + 1) ZDv := ((later ja jua).block _ (by omega)).trans bZ
          have hba : Below w.heap.size w ua := hb.trans ((later ja jua).mono (Below.size hb))
          obtain ⟨Ua, hUa, bna, hBa, hFa, l1a, l2a⟩ := dyad_into b6a ⟨ra.neg, Aa, na, ka, ra.e, canon 4294967296 ra.m⟩
          have tha := QBox.there b6a
          replace hUa : ua.setCells g6 0 (#[.bool ra.neg, .slice Aa na ka, .int .i64 ra.e] : Array Value).toList = Ua := hUa
          have HUa := Lib.hid hUa
          clear hUa
          have rla := QBox.range baa
          obtain ⟨xa, hxa⟩ : ∃ y : Dv, y = ⟨ra.neg, Aa, na, ka, ra.e, canon 4294967296 ra.m⟩ := ⟨_, rfl⟩
          have isa : Hid (Is ra xa) := Lib.hid (by rw [hxa]; exact ⟨rfl, rfl, rfl⟩)
          have bNa : QBox Ua g6 xa := by rw [hxa]; exact bna
          have boa : QBox Ua g7 p := (hFa _ (by omega)).trans b7a
          have bYa : QBox Ua (w.heap.size + 1) ZDv := (hFa _ (by omega)).trans bZa
          have hya : Below w.heap.size w Ua := hBa _ _ hba (by omega)
          have rna : DRow Ua wr.heap.size va.heap.size xa := by rw [hxa]; exact intsR (Ia.below jua (Nat.le_refl _)) (w' := Ua) (fun b h1 h2 => hFa b (by omega))
          have roa := intsR (rp.below (later ja jua) e5) (w' := Ua) (fun b h1 h2 => hFa b (by omega))
          have mra : ra.May := by rw [← hra]; exact add_may _ _
          clear bna hxa
          by_cases hq0 : q = 0
          · skip
            subst hq0
            have ht1 := Lib.hid (timesD_odd_end (by omega) (by omega) (by omega) ht.out)
            replace ht1 : Hid (timesD 0 ra dp false = (r, ok)) := Lib.hid (by have := ht1.out; rw [hra, hca] at this; exact this)
            go_wp2_with (first
              | (refine wpList_load_mid rfl 24 (.tmp 9) rfl va.heap.size 0 rfl [.bool ra.neg, .slice Aa na ka, .int .i64 ra.e] _ rla Tryd.underlying24 rfl (by kernel_rfl) ?_)
              | (refine wpList_store_mid rfl 24 (.tmp 6) (.tmp 26) rfl g6 0 #[.bool ra.neg, .slice Aa na ka, .int .i64 ra.e] rfl rfl tha (by kernel_rfl) (all_oneCell_toArray (cells3D_one ⟨ra.neg, Aa, na, ka, ra.e, canon 4294967296 ra.m⟩)) ?_; rw [HUa.out]))
            go_roundw
            case rel => exact ⟨0, xa, p, ra, dp, false, wr.heap.size, va.heap.size, lo', hi', by first | rfl | (congr 1; omega) | go_num, by first | rfl | simp, by omega, ht1, isa, ip, Lib.hid ⟨mra, hm.out.2⟩, bNa, boa, bYa, hya, by omega, by omega, rna, by omega, by omega, by omega, by omega, roa, by omega, by omega⟩
            case measure => first | (simp [intOf]; done) | (simp [intOf]; omega)
          · skip
            have hq1 : 0 < q := by omega
            have ht1 := Lib.hid (timesD_odd_more (by omega) (by omega) hq (by omega) ht.out)
            replace ht1 : Hid (timesD q ra (addD dp dp).1 (false && decide ((addD dp dp).2 = 0)) = (r, ok)) := Lib.hid (by have := ht1.out; rw [hra, hca] at this; exact this)
            obtain ⟨rb, hrb⟩ : ∃ q, (addD dp dp).1 = q := ⟨_, rfl⟩
            obtain ⟨cb, hcb⟩ : ∃ q, (addD dp dp).2 = q := ⟨_, rfl⟩
            have HXb := Lib.hid (show addX p.s p.xs p.e p.s p.xs p.e = (rb, cb) by rw [ip.out.add ip.out hm.out.2 hm.out.2, ← hrb, ← hcb])
            have rl6 := QBox.range bNa
            have rl7 := QBox.range boa
            go_wp2_with (first
              | (refine wpList_load_mid rfl 24 (.tmp 9) rfl va.heap.size 0 rfl [.bool ra.neg, .slice Aa na ka, .int .i64 ra.e] _ rla Tryd.underlying24 rfl (by kernel_rfl) ?_)
              | (refine wpList_store_mid rfl 24 (.tmp 6) (.tmp 26) rfl g6 0 #[.bool ra.neg, .slice Aa na ka, .int .i64 ra.e] rfl rfl tha (by kernel_rfl) (all_oneCell_toArray (cells3D_one ⟨ra.neg, Aa, na, ka, ra.e, canon 4294967296 ra.m⟩)) ?_; rw [HUa.out])
              | (refine wpList_load_mid rfl 24 (.tmp 7) rfl g7 0 rfl [.bool p.s, .slice p.A p.n p.c, .int .i64 p.e] _ rl7 Tryd.underlying24 rfl (by kernel_rfl) ?_))
            refine (Add_all Ua p.s p.s p.A p.A p.n p.c p.n p.c p.xs p.xs p.e p.e (roa.more (Nat.zero_le _) (by omega)) (roa.more (Nat.zero_le _) (by omega)) (tab_later hT hya) rb cb HXb.out).mono ?_
            rintro e' vb ⟨Ab, nb, kb, rfl, _, jb, Ib⟩
            clear rl6 rl7
            obtain ⟨ub, hub, bab, jub, Sub⟩ := alloc_q vb ⟨rb.neg, Ab, nb, kb, rb.e, canon 4294967296 rb.m⟩
            replace hub : vb.alloc (.cells #[.bool rb.neg, .slice Ab nb kb, .int .i64 rb.e] 24) = ub := hub
            have sb_ := jb.size
            have sub := jub.size
            have b6b : QBox ub g6 xa := ((later jb jub).block _ (show g6 < Ua.heap.size by omega)).trans bNa
            have b7b : QBox ub g7 p := ((later jb jub).block _ (show g7 < Ua.heap.size by omega)).trans boa
            have bZb : QBox ub (w.heap.size + 1) ZDv := ((later jb jub).block _ (by omega)).trans bYa
            have hbb : Below w.heap.size w ub := hya.trans ((later jb jub).mono (Below.size hya))
            obtain ⟨Ub, hUb, bnb, hBb, hFb, l1b, l2b⟩ := dyad_into b7b ⟨rb.neg, Ab, nb, kb, rb.e, canon 4294967296 rb.m⟩
            have thb := QBox.there b7b
            replace hUb : ub.setCells g7 0 (#[.bool rb.neg, .slice Ab nb kb, .int .i64 rb.e] : Array Value).toList = Ub := hUb
            have HUb := Lib.hid hUb
            clear hUb
            have rlb := QBox.range bab
            obtain ⟨xb, hxb⟩ : ∃ y : Dv, y = ⟨rb.neg, Ab, nb, kb, rb.e, canon 4294967296 rb.m⟩ := ⟨_, rfl⟩
            have isb : Hid (Is rb xb) := Lib.hid (by rw [hxb]; exact ⟨rfl, rfl, rfl⟩)
            have bNb : QBox Ub g7 xb := by rw [hxb]; exact bnb
            have bob : QBox Ub g6 xa := (hFb _ (by omega)).trans b6b
            have bYb : QBox Ub (w.heap.size + 1) ZDv := (hFb _ (by omega)).trans bZb
            have hyb : Below w.heap.size w Ub := hBb _ _ hbb (by omega)
            have rnb : DRow Ub Ua.heap.size vb.heap.size xb := by rw [hxb]; exact intsR (Ib.below jub (Nat.le_refl _)) (w' := Ub) (fun b h1 h2 => hFb b (by omega))
            have rob := intsR (rna.below (later jb jub) (by omega)) (w' := Ub) (fun b h1 h2 => hFb b (by omega))
            have mrb : rb.May := by rw [← hrb]; exact add_may _ _
            clear bnb hxb
            replace ht1 : Hid (timesD q ra rb false = (r, ok)) := Lib.hid (by have := ht1.out; rw [hrb, hcb] at this; exact this)
            go_wp2_with (first
              | (refine wpList_load_mid rfl 24 (.tmp 11) rfl vb.heap.size 0 rfl [.bool rb.neg, .slice Ab nb kb, .int .i64 rb.e] _ rlb Tryd.underlying24 rfl (by kernel_rfl) ?_)
              | (refine wpList_store_mid rfl 24 (.tmp 7) (.tmp 42) rfl g7 0 #[.bool rb.neg, .slice Ab nb kb, .int .i64 rb.e] rfl rfl thb (by kernel_rfl) (all_oneCell_toArray (cells3D_one ⟨rb.neg, Ab, nb, kb, rb.e, canon 4294967296 rb.m⟩)) ?_; rw [HUb.out]))
            go_roundw
            case rel => exact ⟨q, xa, xb, ra, rb, false, wr.heap.size, va.heap.size, Ua.heap.size, vb.heap.size, by first | rfl | (congr 1; omega) | go_num, by first | rfl | simp, by omega, ht1, isa, isb, Lib.hid ⟨mra, mrb⟩, bob, bNb, bYb, hyb, by omega, by omega, rob, by omega, by omega, by omega, by omega, rnb, by omega, by omega⟩
            case measure => first | (simp [intOf]; done) | (simp [intOf]; omega)
        · skip
          obtain ⟨ra, hra⟩ : ∃ q, (addD ds dp).1 = q := ⟨_, rfl⟩
          obtain ⟨ca, hca⟩ : ∃ q, (addD ds dp).2 = q := ⟨_, rfl⟩
          have HXa := Lib.hid (show addX s.s s.xs s.e p.s p.xs p.e = (ra, ca) by rw [is.out.add ip.out hm.out.1 hm.out.2, ← hra, ← hca])
          have rl6 := QBox.range b6
          have rl7 := QBox.range b7
          go_wp2_with (first
            | (refine wpList_load_mid rfl 24 (.tmp 6) rfl g6 0 rfl [.bool s.s, .slice s.A s.n s.c, .int .i64 s.e] _ rl6 Tryd.underlying24 rfl (by kernel_rfl) ?_)
            | (refine wpList_load_mid rfl 24 (.tmp 7) rfl g7 0 rfl [.bool p.s, .slice p.A p.n p.c, .int .i64 p.e] _ rl7 Tryd.underlying24 rfl (by kernel_rfl) ?_))
          refine (Add_all wr s.s p.s s.A p.A s.n s.c p.n p.c s.xs p.xs s.e p.e (rs.more (Nat.zero_le _) e4) (rp.more (Nat.zero_le _) e5) (tab_later hT hb) ra ca HXa.out).mono ?_
          rintro e' va ⟨Aa, na, ka, rfl, _, ja, Ia⟩
          clear rl6 rl7
          obtain ⟨ua, hua, baa, jua, Sua⟩ := alloc_q va ⟨ra.neg, Aa, na, ka, ra.e, canon 4294967296 ra.m⟩
          replace hua : va.alloc (.cells #[.bool ra.neg, .slice Aa na ka, .int .i64 ra.e] 24) = ua := hua
          have sa_ := ja.size
          have sua := jua.size
          have b6a : QBox ua g6 s := ((later ja jua).block _ t6).trans b6
          have b7a : QBox ua g7 p := ((later ja jua).block _ t7).trans b7
          have bZa : QBox ua (w.heap.size + 1) ZDv := ((later ja jua).block _ (by omega)).trans bZ
          have hba : Below w.heap.size w ua := hb.trans ((later ja jua).mono (Below.size hb))
          obtain ⟨Ua, hUa, bna, hBa, hFa, l1a, l2a⟩ := dyad_into b6a ⟨ra.neg, Aa, na, ka, ra.e, canon 4294967296 ra.m⟩
          have tha := QBox.there b6a
          replace hUa : ua.setCells g6 0 (#[.bool ra.neg, .slice Aa na ka, .int .i64 ra.e] : Array Value).toList = Ua := hUa
          have HUa := Lib.hid hUa
          clear hUa
          have rla := QBox.range baa
          obtain ⟨xa, hxa⟩ : ∃ y : Dv, y = ⟨ra.neg, Aa, na, ka, ra.e, canon 4294967296 ra.m⟩ := ⟨_, rfl⟩
          have isa : Hid (Is ra xa) := Lib.hid (by rw [hxa]; exact ⟨rfl, rfl, rfl⟩)
          have bNa : QBox Ua g6 xa := by rw [hxa]; exact bna
          have boa : QBox Ua g7 p := (hFa _ (by omega)).trans b7a
          have bYa : QBox Ua (w.heap.size + 1) ZDv := (hFa _ (by omega)).trans bZa
          have hya : Below w.heap.size w Ua := hBa _ _ hba (by omega)
          have rna : DRow Ua wr.heap.size va.heap.size xa := by rw [hxa]; exact intsR (Ia.below jua (Nat.le_refl _)) (w' := Ua) (fun b h1 h2 => hFa b (by omega))
          have roa := intsR (rp.below (later ja jua) e5) (w' := Ua) (fun b h1 h2 => hFa b (by omega))
          have mra : ra.May := by rw [← hra]; exact add_may _ _
          clear bna hxa
          by_cases hq0 : q = 0
          · skip
            subst hq0
            have ht1 := Lib.hid (timesD_odd_end (by omega) (by omega) (by omega) ht.out)
            replace ht1 : Hid (timesD 0 ra dp (ca == 0) = (r, ok)) := Lib.hid (by have := ht1.out; rw [hra, hca] at this; exact this)
            go_wp2_with (first
              | (refine wpList_load_mid rfl 24 (.tmp 9) rfl va.heap.size 0 rfl [.bool ra.neg, .slice Aa na ka, .int .i64 ra.e] _ rla Tryd.underlying24 rfl (by kernel_rfl) ?_)
              | (refine wpList_store_mid rfl 24 (.tmp 6) (.tmp 26) rfl g6 0 #[.bool ra.neg, .slice Aa na ka, .int .i64 ra.e] rfl rfl tha (by kernel_rfl) (all_oneCell_toArray (cells3D_one ⟨ra.neg, Aa, na, ka, ra.e, canon 4294967296 ra.m⟩)) ?_; rw [HUa.out]))
            go_roundw
            case rel => exact ⟨0, xa, p, ra, dp, (ca == 0), wr.heap.size, va.heap.size, lo', hi', by first | rfl | (congr 1; omega) | go_num, by first | rfl | simp, by omega, ht1, isa, ip, Lib.hid ⟨mra, hm.out.2⟩, bNa, boa, bYa, hya, by omega, by omega, rna, by omega, by omega, by omega, by omega, roa, by omega, by omega⟩
            case measure => first | (simp [intOf]; done) | (simp [intOf]; omega)
          · skip
            have hq1 : 0 < q := by omega
            have ht1 := Lib.hid (timesD_odd_more (by omega) (by omega) hq (by omega) ht.out)
            replace ht1 : Hid (timesD q ra (addD dp dp).1 ((ca == 0) && decide ((addD dp dp).2 = 0)) = (r, ok)) := Lib.hid (by have := ht1.out; rw [hra, hca] at this; exact this)
            obtain ⟨o1, ho1⟩ : ∃ o, (ca == 0) = o := ⟨_, rfl⟩
            rw [ho1] at ht1
            cases o1
            · skip
              obtain ⟨rb, hrb⟩ : ∃ q, (addD dp dp).1 = q := ⟨_, rfl⟩
              obtain ⟨cb, hcb⟩ : ∃ q, (addD dp dp).2 = q := ⟨_, rfl⟩
              have HXb := Lib.hid (show addX p.s p.xs p.e p.s p.xs p.e = (rb, cb) by rw [ip.out.add ip.out hm.out.2 hm.out.2, ← hrb, ← hcb])
              have rl6 := QBox.range bNa
              have rl7 := QBox.range boa
              go_wp2_with (first
                | (refine wpList_load_mid rfl 24 (.tmp 9) rfl va.heap.size 0 rfl [.bool ra.neg, .slice Aa na ka, .int .i64 ra.e] _ rla Tryd.underlying24 rfl (by kernel_rfl) ?_)
                | (refine wpList_store_mid rfl 24 (.tmp 6) (.tmp 26) rfl g6 0 #[.bool ra.neg, .slice Aa na ka, .int .i64 ra.e] rfl rfl tha (by kernel_rfl) (all_oneCell_toArray (cells3D_one ⟨ra.neg, Aa, na, ka, ra.e, canon 4294967296 ra.m⟩)) ?_; rw [HUa.out])
                | (refine wpList_load_mid rfl 24 (.tmp 7) rfl g7 0 rfl [.bool p.s, .slice p.A p.n p.c, .int .i64 p.e] _ rl7 Tryd.underlying24 rfl (by kernel_rfl) ?_))
              refine (Add_all Ua p.s p.s p.A p.A p.n p.c p.n p.c p.xs p.xs p.e p.e (roa.more (Nat.zero_le _) (by omega)) (roa.more (Nat.zero_le _) (by omega)) (tab_later hT hya) rb cb HXb.out).mono ?_
              rintro e' vb ⟨Ab, nb, kb, rfl, _, jb, Ib⟩
              clear rl6 rl7
              obtain ⟨ub, hub, bab, jub, Sub⟩ := alloc_q vb ⟨rb.neg, Ab, nb, kb, rb.e, canon 4294967296 rb.m⟩
              replace hub : vb.alloc (.cells #[.bool rb.neg, .slice Ab nb kb, .int .i64 rb.e] 24) = ub := hub
              have sb_ := jb.size
              have sub := jub.size
              have b6b : QBox ub g6 xa := ((later jb jub).block _ (show g6 < Ua.heap.size by omega)).trans bNa
              have b7b : QBox ub g7 p := ((later jb jub).block _ (show g7 < Ua.heap.size by omega)).trans boa
              have bZb : QBox ub (w.heap.size + 1) ZDv := ((later jb jub).block _ (by omega)).trans bYa
              have hbb : Below w.heap.size w ub := hya.trans ((later jb jub).mono (Below.size hya))
              obtain ⟨Ub, hUb, bnb, hBb, hFb, l1b, l2b⟩ := dyad_into b7b ⟨rb.neg, Ab, nb, kb, rb.e, canon 4294967296 rb.m⟩
              have thb := QBox.there b7b
              replace hUb : ub.setCells g7 0 (#[.bool rb.neg, .slice Ab nb kb, .int .i64 rb.e] : Array Value).toList = Ub := hUb
              have HUb := Lib.hid hUb
              clear hUb
              have rlb := QBox.range bab
              obtain ⟨xb, hxb⟩ : ∃ y : Dv, y = ⟨rb.neg, Ab, nb, kb, rb.e, canon 4294967296 rb.m⟩ := ⟨_, rfl⟩
              have isb : Hid (Is rb xb) := Lib.hid (by rw [hxb]; exact ⟨rfl, rfl, rfl⟩)
              have bNb : QBox Ub g7 xb := by rw [hxb]; exact bnb
              have bob : QBox Ub g6 xa := (hFb _ (by omega)).trans b6b
              have bYb : QBox Ub (w.heap.size + 1) ZDv := (hFb _ (by omega)).trans bZb
              have hyb : Below w.heap.size w Ub := hBb _ _ hbb (by omega)
              have rnb : DRow Ub Ua.heap.size vb.heap.size xb := by rw [hxb]; exact intsR (Ib.below jub (Nat.le_refl _)) (w' := Ub) (fun b h1 h2 => hFb b (by omega))
              have rob := intsR (rna.below (later jb jub) (by omega)) (w' := Ub) (fun b h1 h2 => hFb b (by omega))
              have mrb : rb.May := by rw [← hrb]; exact add_may _ _
              clear bnb hxb
              replace ht1 : Hid (timesD q ra rb false = (r, ok)) := Lib.hid (by have := ht1.out; rw [hrb, hcb] at this; exact this)
              go_wp2_with (first
                | (refine wpList_load_mid rfl 24 (.tmp 11) rfl vb.heap.size 0 rfl [.bool rb.neg, .slice Ab nb kb, .int .i64 rb.e] _ rlb Tryd.underlying24 rfl (by kernel_rfl) ?_)
                | (refine wpList_store_mid rfl 24 (.tmp 7) (.tmp 42) rfl g7 0 #[.bool rb.neg, .slice Ab nb kb, .int .i64 rb.e] rfl rfl thb (by kernel_rfl) (all_oneCell_toArray (cells3D_one ⟨rb.neg, Ab, nb, kb, rb.e, canon 4294967296 rb.m⟩)) ?_; rw [HUb.out]))
              go_roundw
              case rel => exact ⟨q, xa, xb, ra, rb, false, wr.heap.size, va.heap.size, Ua.heap.size, vb.heap.size, by first | rfl | (congr 1; omega) | go_num, by first | rfl | simp, by omega, ht1, isa, isb, Lib.hid ⟨mra, mrb⟩, bob, bNb, bYb, hyb, by omega, by omega, rob, by omega, by omega, by omega, by omega, rnb, by omega, by omega⟩
              case measure => first | (simp [intOf]; done) | (simp [intOf]; omega)
            · skip
              obtain ⟨rb, hrb⟩ : ∃ q, (addD dp dp).1 = q := ⟨_, rfl⟩
              obtain ⟨cb, hcb⟩ : ∃ q, (addD dp dp).2 = q := ⟨_, rfl⟩
              have HXb := Lib.hid (show addX p.s p.xs p.e p.s p.xs p.e = (rb, cb) by rw [ip.out.add ip.out hm.out.2 hm.out.2, ← hrb, ← hcb])
              have rl6 := QBox.range bNa
              have rl7 := QBox.range boa
              go_wp2_with (first
                | (refine wpList_load_mid rfl 24 (.tmp 9) rfl va.heap.size 0 rfl [.bool ra.neg, .slice Aa na ka, .int .i64 ra.e] _ rla Tryd.underlying24 rfl (by kernel_rfl) ?_)
                | (refine wpList_store_mid rfl 24 (.tmp 6) (.tmp 26) rfl g6 0 #[.bool ra.neg, .slice Aa na ka, .int .i64 ra.e] rfl rfl tha (by kernel_rfl) (all_oneCell_toArray (cells3D_one ⟨ra.neg, Aa, na, ka, ra.e, canon 4294967296 ra.m⟩)) ?_; rw [HUa.out])
                | (refine wpList_load_mid rfl 24 (.tmp 7) rfl g7 0 rfl [.bool p.s, .slice p.A p.n p.c, .int .i64 p.e] _ rl7 Tryd.underlying24 rfl (by kernel_rfl) ?_))
              refine (Add_all Ua p.s p.s p.A p.A p.n p.c p.n p.c p.xs p.xs p.e p.e (roa.more (Nat.zero_le _) (by omega)) (roa.more (Nat.zero_le _) (by omega)) (tab_later hT hya) rb cb HXb.out).mono ?_
              rintro e' vb ⟨Ab, nb, kb, rfl, _, jb, Ib⟩
              clear rl6 rl7
              obtain ⟨ub, hub, bab, jub, Sub⟩ := alloc_q vb ⟨rb.neg, Ab, nb, kb, rb.e, canon 4294967296 rb.m⟩
              replace hub : vb.alloc (.cells #[.bool rb.neg, .slice Ab nb kb, .int .i64 rb.e] 24) = ub := hub
              have sb_ := jb.size
              have sub := jub.size
              have b6b : QBox ub g6 xa := ((later jb jub).block _ (show g6 < Ua.heap.size by omega)).trans bNa
              have b7b : QBox ub g7 p := ((later jb jub).block _ (show g7 < Ua.heap.size by omega)).trans boa
              have bZb : QBox ub (w.heap.size + 1) ZDv := ((later jb jub).block _ (by omega)).trans bYa
              have hbb : Below w.heap.size w ub := hya.trans ((later jb jub).mono (Below.size hya))
              obtain ⟨Ub, hUb, bnb, hBb, hFb, l1b, l2b⟩ := dyad_into b7b ⟨rb.neg, Ab, nb, kb, rb.e, canon 4294967296 rb.m⟩
              have thb := QBox.there b7b
              replace hUb : ub.setCells g7 0 (#[.bool rb.neg, .slice Ab nb kb, .int .i64 rb.e] : Array Value).toList = Ub := hUb
              have HUb := Lib.hid hUb
              clear hUb
              have rlb := QBox.range bab
              obtain ⟨xb, hxb⟩ : ∃ y : Dv, y = ⟨rb.neg, Ab, nb, kb, rb.e, canon 4294967296 rb.m⟩ := ⟨_, rfl⟩
              have isb : Hid (Is rb xb) := Lib.hid (by rw [hxb]; exact ⟨rfl, rfl, rfl⟩)
              have bNb : QBox Ub g7 xb := by rw [hxb]; exact bnb
              have bob : QBox Ub g6 xa := (hFb _ (by omega)).trans b6b
              have bYb : QBox Ub (w.heap.size + 1) ZDv := (hFb _ (by omega)).trans bZb
              have hyb : Below w.heap.size w Ub := hBb _ _ hbb (by omega)
              have rnb : DRow Ub Ua.heap.size vb.heap.size xb := by rw [hxb]; exact intsR (Ib.below jub (Nat.le_refl _)) (w' := Ub) (fun b h1 h2 => hFb b (by omega))
              have rob := intsR (rna.below (later jb jub) (by omega)) (w' := Ub) (fun b h1 h2 => hFb b (by omega))
              have mrb : rb.May := by rw [← hrb]; exact add_may _ _
              clear bnb hxb
              replace ht1 : Hid (timesD q ra rb (cb == 0) = (r, ok)) := Lib.hid (by have := ht1.out; rw [hrb, hcb] at this; exact this)
              go_wp2_with (first
                | (refine wpList_load_mid rfl 24 (.tmp 11) rfl vb.heap.size 0 rfl [.bool rb.neg, .slice Ab nb kb, .int .i64 rb.e] _ rlb Tryd.underlying24 rfl (by kernel_rfl) ?_)
                | (refine wpList_store_mid rfl 24 (.tmp 7) (.tmp 42) rfl g7 0 #[.bool rb.neg, .slice Ab nb kb, .int .i64 rb.e] rfl rfl thb (by kernel_rfl) (all_oneCell_toArray (cells3D_one ⟨rb.neg, Ab, nb, kb, rb.e, canon 4294967296 rb.m⟩)) ?_; rw [HUb.out]))
              go_roundw
              case rel => exact ⟨q, xa, xb, ra, rb, (cb == 0), wr.heap.size, va.heap.size, Ua.heap.size, vb.heap.size, by first | rfl | (congr 1; omega) | go_num, by first | rfl | simp, by omega, ht1, isa, isb, Lib.hid ⟨mra, mrb⟩, bob, bNb, bYb, hyb, by omega, by omega, rob, by omega, by omega, by omega, by omega, rnb, by omega, by omega⟩
              case measure => first | (simp [intOf]; done) | (simp [intOf]; omega)
      · skip
        have hrem : ((m : Nat) : Int).tmod 2 = 0 := by rw [Int.tmod_eq_emod_of_nonneg (by omega)]; omega
        cases o
        · skip
          by_cases hq0 : q = 0
          · skip
            subst hq0
            have ht1 := Lib.hid (timesD_even_end (by omega) (by omega) (by omega) ht.out)
            go_wp2
            go_roundw
            case rel => exact ⟨0, s, p, ds, dp, false, lo, hi, lo', hi', by first | rfl | (congr 1; omega) | go_num, by first | rfl | simp, by omega, ht1, is, ip, Lib.hid ⟨hm.out.1, hm.out.2⟩, b6, b7, bZ, hb, by omega, by omega, rs, by omega, by omega, by omega, by omega, rp, by omega, by omega⟩
            case measure => first | (simp [intOf]; done) | (simp [intOf]; omega)
          · skip
            have hq1 : 0 < q := by omega
            have ht1 := Lib.hid (timesD_even_more (by omega) (by omega) hq (by omega) ht.out)
            obtain ⟨rb, hrb⟩ : ∃ q, (addD dp dp).1 = q := ⟨_, rfl⟩
            obtain ⟨cb, hcb⟩ : ∃ q, (addD dp dp).2 = q := ⟨_, rfl⟩
            have HXb := Lib.hid (show addX p.s p.xs p.e p.s p.xs p.e = (rb, cb) by rw [ip.out.add ip.out hm.out.2 hm.out.2, ← hrb, ← hcb])
            have rl6 := QBox.range b6
            have rl7 := QBox.range b7
            go_wp2_with (first
              | (refine wpList_load_mid rfl 24 (.tmp 7) rfl g7 0 rfl [.bool p.s, .slice p.A p.n p.c, .int .i64 p.e] _ rl7 Tryd.underlying24 rfl (by kernel_rfl) ?_))
            refine (Add_all wr p.s p.s p.A p.A p.n p.c p.n p.c p.xs p.xs p.e p.e (rp.more (Nat.zero_le _) e5) (rp.more (Nat.zero_le _) e5) (tab_later hT hb) rb cb HXb.out).mono ?_
            rintro e' vb ⟨Ab, nb, kb, rfl, _, jb, Ib⟩
            clear rl6 rl7
            obtain ⟨ub, hub, bab, jub, Sub⟩ := alloc_q vb ⟨rb.neg, Ab, nb, kb, rb.e, canon 4294967296 rb.m⟩
            replace hub : vb.alloc (.cells #[.bool rb.neg, .slice Ab nb kb, .int .i64 rb.e] 24) = ub := hub
            have sb_ := jb.size
            have sub := jub.size
            have b6b : QBox ub g6 s := ((later jb jub).block _ t6).trans b6
            have b7b : QBox ub g7 p := ((later jb jub).block _ t7).trans b7
            have bZb : QBox ub (w.heap.size + 1) ZDv := ((later jb jub).block _ (by omega)).trans bZ
            have hbb : Below w.heap.size w ub := hb.trans ((later jb jub).mono (Below.size hb))
            obtain ⟨Ub, hUb, bnb, hBb, hFb, l1b, l2b⟩ := dyad_into b7b ⟨rb.neg, Ab, nb, kb, rb.e, canon 4294967296 rb.m⟩
            have thb := QBox.there b7b
            replace hUb : ub.setCells g7 0 (#[.bool rb.neg, .slice Ab nb kb, .int .i64 rb.e] : Array Value).toList = Ub := hUb
            have HUb := Lib.hid hUb
            clear hUb
            have rlb := QBox.range bab
            obtain ⟨xb, hxb⟩ : ∃ y : Dv, y = ⟨rb.neg, Ab, nb, kb, rb.e, canon 4294967296 rb.m⟩ := ⟨_, rfl⟩
            have isb : Hid (Is rb xb) := Lib.hid (by rw [hxb]; exact ⟨rfl, rfl, rfl⟩)
            have bNb : QBox Ub g7 xb := by rw [hxb]; exact bnb
            have bob : QBox Ub g6 s := (hFb _ (by omega)).trans b6b
            have bYb : QBox Ub (w.heap.size + 1) ZDv := (hFb _ (by omega)).trans bZb
            have hyb : Below w.heap.size w Ub := hBb _ _ hbb (by omega)
            have rnb : DRow Ub wr.heap.size vb.heap.size xb := by rw [hxb]; exact intsR (Ib.below jub (Nat.le_refl _)) (w' := Ub) (fun b h1 h2 => hFb b (by omega))
            have rob := intsR (rs.below (later jb jub) e4) (w' := Ub) (fun b h1 h2 => hFb b (by omega))
            have mrb : rb.May := by rw [← hrb]; exact add_may _ _
            clear bnb hxb
            replace ht1 : Hid (timesD q ds rb false = (r, ok)) := Lib.hid (by have := ht1.out; rw [hrb, hcb] at this; exact this)
            go_wp2_with (first
              | (refine wpList_load_mid rfl 24 (.tmp 11) rfl vb.heap.size 0 rfl [.bool rb.neg, .slice Ab nb kb, .int .i64 rb.e] _ rlb Tryd.underlying24 rfl (by kernel_rfl) ?_)
              | (refine wpList_store_mid rfl 24 (.tmp 7) (.tmp 42) rfl g7 0 #[.bool rb.neg, .slice Ab nb kb, .int .i64 rb.e] rfl rfl thb (by kernel_rfl) (all_oneCell_toArray (cells3D_one ⟨rb.neg, Ab, nb, kb, rb.e, canon 4294967296 rb.m⟩)) ?_; rw [HUb.out]))
            go_roundw
            case rel => exact ⟨q, s, xb, ds, rb, false, lo, hi, wr.heap.size, vb.heap.size, by first | rfl | (congr 1; omega) | go_num, by first | rfl | simp, by omega, ht1, is, isb, Lib.hid ⟨hm.out.1, mrb⟩, bob, bNb, bYb, hyb, by omega, by omega, rob, by omega, by omega, by omega, by omega, rnb, by omega, by omega⟩
            case measure => first | (simp [intOf]; done) | (simp [intOf]; omega)
        · skip
          by_cases hq0 : q = 0
          · skip
            subst hq0
            have ht1 := Lib.hid (timesD_even_end (by omega) (by omega) (by omega) ht.out)
            go_wp2
            go_roundw
            case rel => exact ⟨0, s, p, ds, dp, true, lo, hi, lo', hi', by first | rfl | (congr 1; omega) | go_num, by first | rfl | simp, by omega, ht1, is, ip, Lib.hid ⟨hm.out.1, hm.out.2⟩, b6, b7, bZ, hb, by omega, by omega, rs, by omega, by omega, by omega, by omega, rp, by omega, by omega⟩
            case measure => first | (simp [intOf]; done) | (simp [intOf]; omega)
          · skip
            have hq1 : 0 < q := by omega
            have ht1 := Lib.hid (timesD_even_more (by omega) (by omega) hq (by omega) ht.out)
            obtain ⟨rb, hrb⟩ : ∃ q, (addD dp dp).1 = q := ⟨_, rfl⟩
            obtain ⟨cb, hcb⟩ : ∃ q, (addD dp dp).2 = q := ⟨_, rfl⟩
            have HXb := Lib.hid (show addX p.s p.xs p.e p.s p.xs p.e = (rb, cb) by rw [ip.out.add ip.out hm.out.2 hm.out.2, ← hrb, ← hcb])
            have rl6 := QBox.range b6
            have rl7 := QBox.range b7
            go_wp2_with (first
              | (refine wpList_load_mid rfl 24 (.tmp 7) rfl g7 0 rfl [.bool p.s, .slice p.A p.n p.c, .int .i64 p.e] _ rl7 Tryd.underlying24 rfl (by kernel_rfl) ?_))
            refine (Add_all wr p.s p.s p.A p.A p.n p.c p.n p.c p.xs p.xs p.e p.e (rp.more (Nat.zero_le _) e5) (rp.more (Nat.zero_le _) e5) (tab_later hT hb) rb cb HXb.out).mono ?_
            rintro e' vb ⟨Ab, nb, kb, rfl, _, jb, Ib⟩
            clear rl6 rl7
            obtain ⟨ub, hub, bab, jub, Sub⟩ := alloc_q vb ⟨rb.neg, Ab, nb, kb, rb.e, canon 4294967296 rb.m⟩
            replace hub : vb.alloc (.cells #[.bool rb.neg, .slice Ab nb kb, .int .i64 rb.e] 24) = ub := hub
            have sb_ := jb.size
            have sub := jub.size
            have b6b : QBox ub g6 s := ((later jb jub).block _ t6).trans b6
            have b7b : QBox ub g7 p := ((later jb jub).block _ t7).trans b7
            have bZb : QBox ub (w.heap.size + 1) ZDv := ((later jb jub).block _ (by omega)).trans bZ
            have hbb : Below w.heap.size w ub := hb.trans ((later jb jub).mono (Below.size hb))
            obtain ⟨Ub, hUb, bnb, hBb, hFb, l1b, l2b⟩ := dyad_into b7b ⟨rb.neg, Ab, nb, kb, rb.e, canon 4294967296 rb.m⟩
            have thb := QBox.there b7b
            replace hUb : ub.setCells g7 0 (#[.bool rb.neg, .slice Ab nb kb, .int .i64 rb.e] : Array Value).toList = Ub := hUb
            have HUb := Lib.hid hUb
            clear hUb
            have rlb := QBox.range bab
            obtain ⟨xb, hxb⟩ : ∃ y : Dv, y = ⟨rb.neg, Ab, nb, kb, rb.e, canon 4294967296 rb.m⟩ := ⟨_, rfl⟩
            have isb : Hid (Is rb xb) := Lib.hid (by rw [hxb]; exact ⟨rfl, rfl, rfl⟩)
            have bNb : QBox Ub g7 xb := by rw [hxb]; exact bnb
            have bob : QBox Ub g6 s := (hFb _ (by omega)).trans b6b
            have bYb : QBox Ub (w.heap.size + 1) ZDv := (hFb _ (by omega)).trans bZb
            have hyb : Below w.heap.size w Ub := hBb _ _ hbb (by omega)
            have rnb : DRow Ub wr.heap.size vb.heap.size xb := by rw [hxb]; exact intsR (Ib.below jub (Nat.le_refl _)) (w' := Ub) (fun b h1 h2 => hFb b (by omega))
            have rob := intsR (rs.below (later jb jub) e4) (w' := Ub) (fun b h1 h2 => hFb b (by omega))
            have mrb : rb.May := by rw [← hrb]; exact add_may _ _
            clear bnb hxb
            replace ht1 : Hid (timesD q ds rb (cb == 0) = (r, ok)) := Lib.hid (by have := ht1.out; rw [hrb, hcb] at this; exact this)
            go_wp2_with (first
              | (refine wpList_load_mid rfl 24 (.tmp 11) rfl vb.heap.size 0 rfl [.bool rb.neg, .slice Ab nb kb, .int .i64 rb.e] _ rlb Tryd.underlying24 rfl (by kernel_rfl) ?_)
              | (refine wpList_store_mid rfl 24 (.tmp 7) (.tmp 42) rfl g7 0 #[.bool rb.neg, .slice Ab nb kb, .int .i64 rb.e] rfl rfl thb (by kernel_rfl) (all_oneCell_toArray (cells3D_one ⟨rb.neg, Ab, nb, kb, rb.e, canon 4294967296 rb.m⟩)) ?_; rw [HUb.out]))
            go_roundw
            case rel => exact ⟨q, s, xb, ds, rb, (cb == 0), lo, hi, wr.heap.size, vb.heap.size, by first | rfl | (congr 1; omega) | go_num, by first | rfl | simp, by omega, ht1, is, isb, Lib.hid ⟨hm.out.1, mrb⟩, bob, bNb, bYb, hyb, by omega, by omega, rob, by omega, by omega, by omega, by omega, rnb, by omega, by omega⟩
            case measure => first | (simp [intOf]; done) | (simp [intOf]; omega)
end Ma
end Go.Proofs.YtmbppgjhdcmckaaDoor
