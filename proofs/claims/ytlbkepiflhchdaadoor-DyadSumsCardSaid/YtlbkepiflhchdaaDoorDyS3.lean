/- The reference's Plus over signed numbers of bits: a walk (printed by a program of mine). -/
import Derived.Test.YtlbkepiflhchdaaDoorDyS2
namespace Go.Proofs.YtlbkepiflhchdaaDoor
open Go.RowKit
namespace Dy
open Dp
theorem boxSA {w : World} {g : Nat} {x y : Value} {t : TypeId} (h : w.heap[g]? = some (.cells #[x, y] t (0, 0))) :
    (∀ o, (w.alloc o).cell? ⟨g, 0, none⟩ = some x) ∧ (∀ o, (w.alloc o).cell? ⟨g, 1, none⟩ = some y) ∧ (∀ o, (w.alloc o).frozen? ⟨g, 0, none⟩ = false) ∧ (∀ o, (w.alloc o).frozen? ⟨g, 1, none⟩ = false) :=
  ⟨fun o => (boxS (heapAll o h)).1.1, fun o => (boxS (heapAll o h)).1.2, fun o => (boxS (heapAll o h)).2.1, fun o => (boxS (heapAll o h)).2.2⟩
theorem plus_cases (s1 s2 : Bool) (x y : Nat) (s : Bool) (v : Nat) (h : plusS s1 x s2 y = (s, v)) :
    (s1 = s2 ∧ s = s1 ∧ x + y = v) ∨ ((s1 == s2) = false ∧ cmpN x y = 0 ∧ y ≤ x ∧ s = s1 ∧ x - y = v) ∨ ((s1 == s2) = false ∧ cmpN x y = 1 ∧ y ≤ x ∧ s = s1 ∧ x - y = v) ∨ ((s1 == s2) = false ∧ cmpN x y = -1 ∧ x ≤ y ∧ s = s2 ∧ y - x = v) := by
  unfold plusS at h
  by_cases h1 : s1 = s2
  · rw [if_pos h1] at h
    injection h with h2 h3
    exact .inl ⟨h1, h2.symm, h3⟩
  · rw [if_neg h1] at h
    have h4 : (s1 == s2) = false := by simpa using h1
    right
    by_cases h5 : y ≤ x
    · rw [if_pos h5] at h
      injection h with h2 h3
      by_cases h6 : x = y
      · exact .inl ⟨h4, by unfold cmpN; rw [if_neg (by omega), if_pos h6], h5, h2.symm, h3⟩
      · exact .inr (.inl ⟨h4, by unfold cmpN; rw [if_neg (by omega), if_neg h6], h5, h2.symm, h3⟩)
    · rw [if_neg h5] at h
      injection h with h2 h3
      exact .inr (.inr ⟨h4, by unfold cmpN; rw [if_pos (by omega)], by omega, h2.symm, h3⟩)
theorem dig2 {n : Nat} : Dig 2 (canon 2 n) := (canon_spec 2 n (by decide)).1
theorem num2 {n : Nat} : num 2 (canon 2 n) = n := (canon_spec 2 n (by decide)).2.2
theorem canon2_len {x y : Nat} (h : x ≤ y) : (canon 2 x).length ≤ (canon 2 y).length := by
  have h1 := canon_spec 2 y (by decide)
  refine canon_len (by decide) (Nat.lt_of_le_of_lt h ?_)
  have := num_lt 2 (by decide) _ h1.1
  rwa [h1.2.2] at this
set_option maxHeartbeats 12800000 in
set_option maxRecDepth 100000 in
/-- headcountref02.Plus. -/
theorem rPlus_any (w : World) (s1 s2 : Bool) (x y : Nat) (A1 : Option Addr) (n1 c1 : Nat) (A2 : Option Addr) (n2 c2 : Nat) (h1 : Ints w 0 w.heap.size .u8 A1 n1 (canon 2 x)) (h2 : Ints w 0 w.heap.size .u8 A2 n2 (canon 2 y)) (hn1 : n1 ≤ 4000) (hn2 : n2 ≤ 4000) (s : Bool) (v : Nat) (hp : plusS s1 x s2 y = (s, v)) :
    Calls Tryd.prog 68 #[.agg #[.bool s1, .slice A1 n1 c1], .agg #[.bool s2, .slice A2 n2 c2]] w fun e w' => ∃ A n c, e = .returned (.agg #[.bool s, .slice A n c]) ∧ n ≤ c ∧ Below w.heap.size w w' ∧ Ints w' w.heap.size w'.heap.size .u8 A n (canon 2 v) := by
  have l1 := Lib.hid h1.len
  have l2 := Lib.hid h2.len
  have I1 := (h1.alloc (Nat.le_refl _) (.cells #[.bool s1, .slice A1 n1 c1] 87)).alloc (by simp) (.cells #[.bool s2, .slice A2 n2 c2] 87)
  have I2 := (h2.alloc (Nat.le_refl _) (.cells #[.bool s1, .slice A1 n1 c1] 87)).alloc (by simp) (.cells #[.bool s2, .slice A2 n2 c2] 87)
  clear h1 h2
  generalize hw : (w.alloc (.cells #[.bool s1, .slice A1 n1 c1] 87)).alloc (.cells #[.bool s2, .slice A2 n2 c2] 87) = w1 at *
  have HS1 : Hid (w1.heap.size = w.heap.size + 2) := by rw [Hid, ← hw]; simp
  have b1 : Below w.heap.size w w1 := by rw [← hw]; exact ((Below.refl _ w).alloc (Nat.le_refl _) _).alloc (by simp) _
  have X1 : w1.heap[w.heap.size]? = some (.cells #[.bool s1, .slice A1 n1 c1] 87 (0, 0)) := by
    rw [← hw, Below.heap_alloc _ _ _ (by simp)]
    exact heap_alloc_last _ _
  have X2 : w1.heap[w.heap.size + 1]? = some (.cells #[.bool s2, .slice A2 n2 c2] 87 (0, 0)) := by
    rw [← hw]
    exact heap_alloc2_new _ _ _
  obtain ⟨y0, y1, y2, y3⟩ := boxSA X1
  obtain ⟨z0, z1, z2, z3⟩ := boxSA X2
  have I1a := I1.alloc (by have := HS1.out; omega) (.cells #[.bool false, .slice none 0 0] 87)
  have I2a := I2.alloc (by have := HS1.out; omega) (.cells #[.bool false, .slice none 0 0] 87)
  clear I1 I2
  replace X1 := heapAll (.cells #[.bool false, .slice none 0 0] 87) X1
  replace X2 := heapAll (.cells #[.bool false, .slice none 0 0] 87) X2
  have X3 := heap_alloc_last w1 (.cells #[.bool false, .slice none 0 0] 87)
  have b2 := b1.alloc (by have := HS1.out; omega) (.cells #[.bool false, .slice none 0 0] 87)
  have HS2 : Hid ((w1.alloc (.cells #[.bool false, .slice none 0 0] 87)).heap.size = w1.heap.size + 1) := by rw [Hid]; simp
  clear b1
  rcases plus_cases s1 s2 x y s v hp with ⟨rfl, rfl, hv⟩ | ⟨he, hr, hle, rfl, hv⟩ | ⟨he, hr, hle, rfl, hv⟩ | ⟨he, hr, hle, rfl, hv⟩
  · have HV := Lib.hid hv
    clear hp hv
    go_enter Tryd.func68, Tryd.ntmps68
    go_wp2_with fail
    generalize hw2 : w1.alloc (.cells #[.bool false, .slice none 0 0] 87) = w2 at *
    clear hw2 y0 y1 y2 y3 z0 z1 z2 z3
    try clear hw
    have kD : Keeps w2 w2.drew := fun _ _ => rfl
    have d2 : Below w2.heap.size w2 w2.drew := (Below.refl _ _).drew
    refine region_E (Keeps w2) [8] (m := 9) (L := #[false, false, false, false, false, false, false, false, false]) (by kernel_rfl) (by rfl) (by rfl) ?_
    refine pureE (i := 0) (L := #[true, false, false, false, false, false, false, false, false]) (v := ?_) rfl (by rfl) (by kernel_rfl) (by kernel_rfl) (by kernel_rfl) (fun _ _ _ h => h) (by rfl) ?hy1 ?rest1
    case hy1 => intro w; go_simp; (try with_reducible rfl)
    try simp only [Act.put, List.setIfInBounds_toArray, List.set_cons_zero, List.set_cons_succ]
    refine readE (i := 1) (L := #[true, true, false, false, false, false, false, false, false]) (v := .bool s) rfl (by rfl) (by kernel_rfl) (by kernel_rfl) (by kernel_rfl) (fun _ _ _ h => h) (by assumption) (by rfl) ?hyA1 ?restA1
    case hyA1 =>
      intro w' h
      obtain ⟨⟨k1, k2⟩, _⟩ := boxS ((h _ (by have := HS1.out; have := HS2.out; omega)).trans X1)
      go_simp
    try simp only [Act.put, List.setIfInBounds_toArray, List.set_cons_zero, List.set_cons_succ]
    refine pureE (i := 2) (L := #[true, true, true, false, false, false, false, false, false]) (v := ?_) rfl (by rfl) (by kernel_rfl) (by kernel_rfl) (by kernel_rfl) (fun _ _ _ h => h) (by rfl) ?hy3 ?rest3
    case hy3 => intro w; go_simp; (try with_reducible rfl)
    try simp only [Act.put, List.setIfInBounds_toArray, List.set_cons_zero, List.set_cons_succ]
    refine readE (i := 3) (L := #[true, true, true, true, false, false, false, false, false]) (v := .slice A1 n1 c1) rfl (by rfl) (by kernel_rfl) (by kernel_rfl) (by kernel_rfl) (fun _ _ _ h => h) (by assumption) (by rfl) ?hyB1 ?restB1
    case hyB1 =>
      intro w' h
      obtain ⟨⟨k1, k2⟩, _⟩ := boxS ((h _ (by have := HS1.out; have := HS2.out; omega)).trans X1)
      go_simp
    try simp only [Act.put, List.setIfInBounds_toArray, List.set_cons_zero, List.set_cons_succ]
    refine pureE (i := 4) (L := #[true, true, true, true, true, false, false, false, false]) (v := ?_) rfl (by rfl) (by kernel_rfl) (by kernel_rfl) (by kernel_rfl) (fun _ _ _ h => h) (by rfl) ?hy5 ?rest5
    case hy5 => intro w; go_simp; (try with_reducible rfl)
    try simp only [Act.put, List.setIfInBounds_toArray, List.set_cons_zero, List.set_cons_succ]
    refine readE (i := 5) (L := #[true, true, true, true, true, true, false, false, false]) (v := .slice A2 n2 c2) rfl (by rfl) (by kernel_rfl) (by kernel_rfl) (by kernel_rfl) (fun _ _ _ h => h) (by assumption) (by rfl) ?hyC1 ?restC1
    case hyC1 =>
      intro w' h
      obtain ⟨⟨k1, k2⟩, _⟩ := boxS ((h _ (by have := HS1.out; have := HS2.out; omega)).trans X2)
      go_simp
    try simp only [Act.put, List.setIfInBounds_toArray, List.set_cons_zero, List.set_cons_succ]
    refine stepK (i := 6) (L := #[true, true, true, true, true, true, true, false, false]) rfl (by rfl) (by kernel_rfl) (by rfl) (fun K hK => ?_)
    go_simp
    go_at_call 98
    refine (Plus_any w2.drew 0 w.heap.size 0 w.heap.size A1 n1 c1 _ (I1a.drewN 1) A2 n2 c2 _ (I2a.drewN 1) dig2 dig2 (by show w.heap.size ≤ w2.heap.size; have := HS1.out; have := HS2.out; omega) (by show w.heap.size ≤ w2.heap.size; have := HS1.out; have := HS2.out; omega) (by omega) (by omega) v (by rw [num2, num2]; exact HV.out)).mono ?_
    rintro e w3 ⟨A3, n3, c3, rfl, hc3, hB, hI⟩
    have d3 := d2.trans hB
    have hI3 := Lib.hid hI
    have hs3 := hB.size
    clear hB hI
    refine hK _ _ ⟨fun _ _ p hp => d3.block p hp, ?_⟩
    clear hK K
    try simp only [Act.put, List.setIfInBounds_toArray, List.set_cons_zero, List.set_cons_succ]
    refine pureE (i := 7) (L := #[true, true, true, true, true, true, true, true, false]) (v := ?_) rfl (by rfl) (by kernel_rfl) (by kernel_rfl) (by kernel_rfl) (fun _ _ _ h => h) (by rfl) ?hy8 ?rest8
    case hy8 => intro w; go_simp; (try with_reducible rfl)
    try simp only [Act.put, List.setIfInBounds_toArray, List.set_cons_zero, List.set_cons_succ]
    obtain ⟨⟨p1, p2⟩, p3, p4⟩ := boxS ((d3.block w1.heap.size (by have := HS2.out; omega)).trans X3)
    refine stepK (i := 8) (L := #[true, true, true, true, true, true, true, true, true]) rfl (by rfl) (by kernel_rfl) (by rfl) (fun K hK => ?_)
    go_simp
    refine hK _ _ ⟨fun h => absurd h (by decide), ?_⟩
    clear hK K
    try simp only [Act.put, List.setIfInBounds_toArray, List.set_cons_zero, List.set_cons_succ]
    refine doneE (by kernel_rfl) ?_ _
    go_wp2
    refine bodyPost_ret (v := .agg #[.bool s, .slice A3 n3 c3]) (by simp [results, Tryd.results68, go_sem, p1, p2]) rfl ⟨A3, n3, c3, rfl, hc3, ?_, ?_⟩
    · exact ((b2.trans (d3.mono (by have := HS1.out; have := HS2.out; omega))).setCell (by have := HS1.out; simp; omega) _).setCell (by have := HS1.out; simp; omega) _
    · exact ((ints_set (ints_set hI3.out (by show w1.heap.size < w2.heap.size; have := HS2.out; omega) 0 _) (by show w1.heap.size < w2.heap.size; have := HS2.out; omega) 1 _).more (by show w.heap.size ≤ w2.heap.size; have := HS1.out; have := HS2.out; omega) (by simp [World.setCell]))
  · have HV := Lib.hid hv
    have HR := Lib.hid hr
    clear hp hv hr
    go_enter Tryd.func68, Tryd.ntmps68
    go_wp2_with fail
    refine (Order_any _ 0 w.heap.size 0 w.heap.size A1 n1 c1 _ I1a A2 n2 c2 _ I2a dig2 dig2 (by omega) (by omega) (0) (by rw [num2, num2]; exact HR.out)).mono ?_
    rintro e wq ⟨rfl, rfl⟩
    clear HR
    go_wp2_with fail
    generalize hw2 : w1.alloc (.cells #[.bool false, .slice none 0 0] 87) = w2 at *
    clear hw2 y0 y1 y2 y3 z0 z1 z2 z3
    try clear hw
    have kD : Keeps w2 w2.drew := fun _ _ => rfl
    have d2 : Below w2.heap.size w2 w2.drew := (Below.refl _ _).drew
    refine region_E (Keeps w2) [8] (m := 9) (L := #[false, false, false, false, false, false, false, false, false]) (by kernel_rfl) (by rfl) (by rfl) ?_
    refine pureE (i := 0) (L := #[true, false, false, false, false, false, false, false, false]) (v := ?_) rfl (by rfl) (by kernel_rfl) (by kernel_rfl) (by kernel_rfl) (fun _ _ _ h => h) (by rfl) ?hy10 ?rest10
    case hy10 => intro w; go_simp; (try with_reducible rfl)
    try simp only [Act.put, List.setIfInBounds_toArray, List.set_cons_zero, List.set_cons_succ]
    refine readE (i := 1) (L := #[true, true, false, false, false, false, false, false, false]) (v := .bool s) rfl (by rfl) (by kernel_rfl) (by kernel_rfl) (by kernel_rfl) (fun _ _ _ h => h) (by assumption) (by rfl) ?hyA2 ?restA2
    case hyA2 =>
      intro w' h
      obtain ⟨⟨k1, k2⟩, _⟩ := boxS ((h _ (by have := HS1.out; have := HS2.out; omega)).trans X1)
      go_simp
    try simp only [Act.put, List.setIfInBounds_toArray, List.set_cons_zero, List.set_cons_succ]
    refine pureE (i := 2) (L := #[true, true, true, false, false, false, false, false, false]) (v := ?_) rfl (by rfl) (by kernel_rfl) (by kernel_rfl) (by kernel_rfl) (fun _ _ _ h => h) (by rfl) ?hy12 ?rest12
    case hy12 => intro w; go_simp; (try with_reducible rfl)
    try simp only [Act.put, List.setIfInBounds_toArray, List.set_cons_zero, List.set_cons_succ]
    refine readE (i := 3) (L := #[true, true, true, true, false, false, false, false, false]) (v := .slice A1 n1 c1) rfl (by rfl) (by kernel_rfl) (by kernel_rfl) (by kernel_rfl) (fun _ _ _ h => h) (by assumption) (by rfl) ?hyB2 ?restB2
    case hyB2 =>
      intro w' h
      obtain ⟨⟨k1, k2⟩, _⟩ := boxS ((h _ (by have := HS1.out; have := HS2.out; omega)).trans X1)
      go_simp
    try simp only [Act.put, List.setIfInBounds_toArray, List.set_cons_zero, List.set_cons_succ]
    refine pureE (i := 4) (L := #[true, true, true, true, true, false, false, false, false]) (v := ?_) rfl (by rfl) (by kernel_rfl) (by kernel_rfl) (by kernel_rfl) (fun _ _ _ h => h) (by rfl) ?hy14 ?rest14
    case hy14 => intro w; go_simp; (try with_reducible rfl)
    try simp only [Act.put, List.setIfInBounds_toArray, List.set_cons_zero, List.set_cons_succ]
    refine readE (i := 5) (L := #[true, true, true, true, true, true, false, false, false]) (v := .slice A2 n2 c2) rfl (by rfl) (by kernel_rfl) (by kernel_rfl) (by kernel_rfl) (fun _ _ _ h => h) (by assumption) (by rfl) ?hyC2 ?restC2
    case hyC2 =>
      intro w' h
      obtain ⟨⟨k1, k2⟩, _⟩ := boxS ((h _ (by have := HS1.out; have := HS2.out; omega)).trans X2)
      go_simp
    try simp only [Act.put, List.setIfInBounds_toArray, List.set_cons_zero, List.set_cons_succ]
    refine stepK (i := 6) (L := #[true, true, true, true, true, true, true, false, false]) rfl (by rfl) (by kernel_rfl) (by rfl) (fun K hK => ?_)
    go_simp
    go_at_call 100
    refine (Minus_any w2.drew 0 w.heap.size 0 w.heap.size A1 n1 c1 _ (I1a.drewN 1) A2 n2 c2 _ (I2a.drewN 1) dig2 dig2 (by show w.heap.size ≤ w2.heap.size; have := HS1.out; have := HS2.out; omega) (by show w.heap.size ≤ w2.heap.size; have := HS1.out; have := HS2.out; omega) (by omega) (by have := canon2_len hle; have := l1.out; have := l2.out; omega) (by rw [num2, num2]; exact hle) v (by rw [num2, num2]; exact HV.out)).mono ?_
    rintro e w3 ⟨A3, n3, c3, rfl, hc3, hB, hI⟩
    have d3 := d2.trans hB
    have hI3 := Lib.hid hI
    have hs3 := hB.size
    clear hB hI
    refine hK _ _ ⟨fun _ _ p hp => d3.block p hp, ?_⟩
    clear hK K
    try simp only [Act.put, List.setIfInBounds_toArray, List.set_cons_zero, List.set_cons_succ]
    refine pureE (i := 7) (L := #[true, true, true, true, true, true, true, true, false]) (v := ?_) rfl (by rfl) (by kernel_rfl) (by kernel_rfl) (by kernel_rfl) (fun _ _ _ h => h) (by rfl) ?hy17 ?rest17
    case hy17 => intro w; go_simp; (try with_reducible rfl)
    try simp only [Act.put, List.setIfInBounds_toArray, List.set_cons_zero, List.set_cons_succ]
    obtain ⟨⟨p1, p2⟩, p3, p4⟩ := boxS ((d3.block w1.heap.size (by have := HS2.out; omega)).trans X3)
    refine stepK (i := 8) (L := #[true, true, true, true, true, true, true, true, true]) rfl (by rfl) (by kernel_rfl) (by rfl) (fun K hK => ?_)
    go_simp
    refine hK _ _ ⟨fun h => absurd h (by decide), ?_⟩
    clear hK K
    try simp only [Act.put, List.setIfInBounds_toArray, List.set_cons_zero, List.set_cons_succ]
    refine doneE (by kernel_rfl) ?_ _
    go_wp2
    refine bodyPost_ret (v := .agg #[.bool s, .slice A3 n3 c3]) (by simp [results, Tryd.results68, go_sem, p1, p2]) rfl ⟨A3, n3, c3, rfl, hc3, ?_, ?_⟩
    · exact ((b2.trans (d3.mono (by have := HS1.out; have := HS2.out; omega))).setCell (by have := HS1.out; simp; omega) _).setCell (by have := HS1.out; simp; omega) _
    · exact ((ints_set (ints_set hI3.out (by show w1.heap.size < w2.heap.size; have := HS2.out; omega) 0 _) (by show w1.heap.size < w2.heap.size; have := HS2.out; omega) 1 _).more (by show w.heap.size ≤ w2.heap.size; have := HS1.out; have := HS2.out; omega) (by simp [World.setCell]))
  · have HV := Lib.hid hv
    have HR := Lib.hid hr
    clear hp hv hr
    go_enter Tryd.func68, Tryd.ntmps68
    go_wp2_with fail
    refine (Order_any _ 0 w.heap.size 0 w.heap.size A1 n1 c1 _ I1a A2 n2 c2 _ I2a dig2 dig2 (by omega) (by omega) (1) (by rw [num2, num2]; exact HR.out)).mono ?_
    rintro e wq ⟨rfl, rfl⟩
    clear HR
    go_wp2_with fail
    generalize hw2 : w1.alloc (.cells #[.bool false, .slice none 0 0] 87) = w2 at *
    clear hw2 y0 y1 y2 y3 z0 z1 z2 z3
    try clear hw
    have kD : Keeps w2 w2.drew := fun _ _ => rfl
    have d2 : Below w2.heap.size w2 w2.drew := (Below.refl _ _).drew
    refine region_E (Keeps w2) [8] (m := 9) (L := #[false, false, false, false, false, false, false, false, false]) (by kernel_rfl) (by rfl) (by rfl) ?_
    refine pureE (i := 0) (L := #[true, false, false, false, false, false, false, false, false]) (v := ?_) rfl (by rfl) (by kernel_rfl) (by kernel_rfl) (by kernel_rfl) (fun _ _ _ h => h) (by rfl) ?hy19 ?rest19
    case hy19 => intro w; go_simp; (try with_reducible rfl)
    try simp only [Act.put, List.setIfInBounds_toArray, List.set_cons_zero, List.set_cons_succ]
    refine readE (i := 1) (L := #[true, true, false, false, false, false, false, false, false]) (v := .bool s) rfl (by rfl) (by kernel_rfl) (by kernel_rfl) (by kernel_rfl) (fun _ _ _ h => h) (by assumption) (by rfl) ?hyA3 ?restA3
    case hyA3 =>
      intro w' h
      obtain ⟨⟨k1, k2⟩, _⟩ := boxS ((h _ (by have := HS1.out; have := HS2.out; omega)).trans X1)
      go_simp
    try simp only [Act.put, List.setIfInBounds_toArray, List.set_cons_zero, List.set_cons_succ]
    refine pureE (i := 2) (L := #[true, true, true, false, false, false, false, false, false]) (v := ?_) rfl (by rfl) (by kernel_rfl) (by kernel_rfl) (by kernel_rfl) (fun _ _ _ h => h) (by rfl) ?hy21 ?rest21
    case hy21 => intro w; go_simp; (try with_reducible rfl)
    try simp only [Act.put, List.setIfInBounds_toArray, List.set_cons_zero, List.set_cons_succ]
    refine readE (i := 3) (L := #[true, true, true, true, false, false, false, false, false]) (v := .slice A1 n1 c1) rfl (by rfl) (by kernel_rfl) (by kernel_rfl) (by kernel_rfl) (fun _ _ _ h => h) (by assumption) (by rfl) ?hyB3 ?restB3
    case hyB3 =>
      intro w' h
      obtain ⟨⟨k1, k2⟩, _⟩ := boxS ((h _ (by have := HS1.out; have := HS2.out; omega)).trans X1)
      go_simp
    try simp only [Act.put, List.setIfInBounds_toArray, List.set_cons_zero, List.set_cons_succ]
    refine pureE (i := 4) (L := #[true, true, true, true, true, false, false, false, false]) (v := ?_) rfl (by rfl) (by kernel_rfl) (by kernel_rfl) (by kernel_rfl) (fun _ _ _ h => h) (by rfl) ?hy23 ?rest23
    case hy23 => intro w; go_simp; (try with_reducible rfl)
    try simp only [Act.put, List.setIfInBounds_toArray, List.set_cons_zero, List.set_cons_succ]
    refine readE (i := 5) (L := #[true, true, true, true, true, true, false, false, false]) (v := .slice A2 n2 c2) rfl (by rfl) (by kernel_rfl) (by kernel_rfl) (by kernel_rfl) (fun _ _ _ h => h) (by assumption) (by rfl) ?hyC3 ?restC3
    case hyC3 =>
      intro w' h
      obtain ⟨⟨k1, k2⟩, _⟩ := boxS ((h _ (by have := HS1.out; have := HS2.out; omega)).trans X2)
      go_simp
    try simp only [Act.put, List.setIfInBounds_toArray, List.set_cons_zero, List.set_cons_succ]
    refine stepK (i := 6) (L := #[true, true, true, true, true, true, true, false, false]) rfl (by rfl) (by kernel_rfl) (by rfl) (fun K hK => ?_)
    go_simp
    go_at_call 100
    refine (Minus_any w2.drew 0 w.heap.size 0 w.heap.size A1 n1 c1 _ (I1a.drewN 1) A2 n2 c2 _ (I2a.drewN 1) dig2 dig2 (by show w.heap.size ≤ w2.heap.size; have := HS1.out; have := HS2.out; omega) (by show w.heap.size ≤ w2.heap.size; have := HS1.out; have := HS2.out; omega) (by omega) (by have := canon2_len hle; have := l1.out; have := l2.out; omega) (by rw [num2, num2]; exact hle) v (by rw [num2, num2]; exact HV.out)).mono ?_
    rintro e w3 ⟨A3, n3, c3, rfl, hc3, hB, hI⟩
    have d3 := d2.trans hB
    have hI3 := Lib.hid hI
    have hs3 := hB.size
    clear hB hI
    refine hK _ _ ⟨fun _ _ p hp => d3.block p hp, ?_⟩
    clear hK K
    try simp only [Act.put, List.setIfInBounds_toArray, List.set_cons_zero, List.set_cons_succ]
    refine pureE (i := 7) (L := #[true, true, true, true, true, true, true, true, false]) (v := ?_) rfl (by rfl) (by kernel_rfl) (by kernel_rfl) (by kernel_rfl) (fun _ _ _ h => h) (by rfl) ?hy26 ?rest26
    case hy26 => intro w; go_simp; (try with_reducible rfl)
    try simp only [Act.put, List.setIfInBounds_toArray, List.set_cons_zero, List.set_cons_succ]
    obtain ⟨⟨p1, p2⟩, p3, p4⟩ := boxS ((d3.block w1.heap.size (by have := HS2.out; omega)).trans X3)
    refine stepK (i := 8) (L := #[true, true, true, true, true, true, true, true, true]) rfl (by rfl) (by kernel_rfl) (by rfl) (fun K hK => ?_)
    go_simp
    refine hK _ _ ⟨fun h => absurd h (by decide), ?_⟩
    clear hK K
    try simp only [Act.put, List.setIfInBounds_toArray, List.set_cons_zero, List.set_cons_succ]
    refine doneE (by kernel_rfl) ?_ _
    go_wp2
    refine bodyPost_ret (v := .agg #[.bool s, .slice A3 n3 c3]) (by simp [results, Tryd.results68, go_sem, p1, p2]) rfl ⟨A3, n3, c3, rfl, hc3, ?_, ?_⟩
    · exact ((b2.trans (d3.mono (by have := HS1.out; have := HS2.out; omega))).setCell (by have := HS1.out; simp; omega) _).setCell (by have := HS1.out; simp; omega) _
    · exact ((ints_set (ints_set hI3.out (by show w1.heap.size < w2.heap.size; have := HS2.out; omega) 0 _) (by show w1.heap.size < w2.heap.size; have := HS2.out; omega) 1 _).more (by show w.heap.size ≤ w2.heap.size; have := HS1.out; have := HS2.out; omega) (by simp [World.setCell]))
  · have HV := Lib.hid hv
    have HR := Lib.hid hr
    clear hp hv hr
    go_enter Tryd.func68, Tryd.ntmps68
    go_wp2_with fail
    refine (Order_any _ 0 w.heap.size 0 w.heap.size A1 n1 c1 _ I1a A2 n2 c2 _ I2a dig2 dig2 (by omega) (by omega) (-1) (by rw [num2, num2]; exact HR.out)).mono ?_
    rintro e wq ⟨rfl, rfl⟩
    clear HR
    go_wp2_with fail
    generalize hw2 : w1.alloc (.cells #[.bool false, .slice none 0 0] 87) = w2 at *
    clear hw2 y0 y1 y2 y3 z0 z1 z2 z3
    try clear hw
    have kD : Keeps w2 w2.drew := fun _ _ => rfl
    have d2 : Below w2.heap.size w2 w2.drew := (Below.refl _ _).drew
    refine region_E (Keeps w2) [8] (m := 9) (L := #[false, false, false, false, false, false, false, false, false]) (by kernel_rfl) (by rfl) (by rfl) ?_
    refine pureE (i := 0) (L := #[true, false, false, false, false, false, false, false, false]) (v := ?_) rfl (by rfl) (by kernel_rfl) (by kernel_rfl) (by kernel_rfl) (fun _ _ _ h => h) (by rfl) ?hy28 ?rest28
    case hy28 => intro w; go_simp; (try with_reducible rfl)
    try simp only [Act.put, List.setIfInBounds_toArray, List.set_cons_zero, List.set_cons_succ]
    refine readE (i := 1) (L := #[true, true, false, false, false, false, false, false, false]) (v := .bool s) rfl (by rfl) (by kernel_rfl) (by kernel_rfl) (by kernel_rfl) (fun _ _ _ h => h) (by assumption) (by rfl) ?hyA4 ?restA4
    case hyA4 =>
      intro w' h
      obtain ⟨⟨k1, k2⟩, _⟩ := boxS ((h _ (by have := HS1.out; have := HS2.out; omega)).trans X2)
      go_simp
    try simp only [Act.put, List.setIfInBounds_toArray, List.set_cons_zero, List.set_cons_succ]
    refine pureE (i := 2) (L := #[true, true, true, false, false, false, false, false, false]) (v := ?_) rfl (by rfl) (by kernel_rfl) (by kernel_rfl) (by kernel_rfl) (fun _ _ _ h => h) (by rfl) ?hy30 ?rest30
    case hy30 => intro w; go_simp; (try with_reducible rfl)
    try simp only [Act.put, List.setIfInBounds_toArray, List.set_cons_zero, List.set_cons_succ]
    refine readE (i := 3) (L := #[true, true, true, true, false, false, false, false, false]) (v := .slice A2 n2 c2) rfl (by rfl) (by kernel_rfl) (by kernel_rfl) (by kernel_rfl) (fun _ _ _ h => h) (by assumption) (by rfl) ?hyB4 ?restB4
    case hyB4 =>
      intro w' h
      obtain ⟨⟨k1, k2⟩, _⟩ := boxS ((h _ (by have := HS1.out; have := HS2.out; omega)).trans X2)
      go_simp
    try simp only [Act.put, List.setIfInBounds_toArray, List.set_cons_zero, List.set_cons_succ]
    refine pureE (i := 4) (L := #[true, true, true, true, true, false, false, false, false]) (v := ?_) rfl (by rfl) (by kernel_rfl) (by kernel_rfl) (by kernel_rfl) (fun _ _ _ h => h) (by rfl) ?hy32 ?rest32
    case hy32 => intro w; go_simp; (try with_reducible rfl)
    try simp only [Act.put, List.setIfInBounds_toArray, List.set_cons_zero, List.set_cons_succ]
    refine readE (i := 5) (L := #[true, true, true, true, true, true, false, false, false]) (v := .slice A1 n1 c1) rfl (by rfl) (by kernel_rfl) (by kernel_rfl) (by kernel_rfl) (fun _ _ _ h => h) (by assumption) (by rfl) ?hyC4 ?restC4
    case hyC4 =>
      intro w' h
      obtain ⟨⟨k1, k2⟩, _⟩ := boxS ((h _ (by have := HS1.out; have := HS2.out; omega)).trans X1)
      go_simp
    try simp only [Act.put, List.setIfInBounds_toArray, List.set_cons_zero, List.set_cons_succ]
    refine stepK (i := 6) (L := #[true, true, true, true, true, true, true, false, false]) rfl (by rfl) (by kernel_rfl) (by rfl) (fun K hK => ?_)
    go_simp
    go_at_call 100
    refine (Minus_any w2.drew 0 w.heap.size 0 w.heap.size A2 n2 c2 _ (I2a.drewN 1) A1 n1 c1 _ (I1a.drewN 1) dig2 dig2 (by show w.heap.size ≤ w2.heap.size; have := HS1.out; have := HS2.out; omega) (by show w.heap.size ≤ w2.heap.size; have := HS1.out; have := HS2.out; omega) (by omega) (by have := canon2_len hle; have := l1.out; have := l2.out; omega) (by rw [num2, num2]; exact hle) v (by rw [num2, num2]; exact HV.out)).mono ?_
    rintro e w3 ⟨A3, n3, c3, rfl, hc3, hB, hI⟩
    have d3 := d2.trans hB
    have hI3 := Lib.hid hI
    have hs3 := hB.size
    clear hB hI
    refine hK _ _ ⟨fun _ _ p hp => d3.block p hp, ?_⟩
    clear hK K
    try simp only [Act.put, List.setIfInBounds_toArray, List.set_cons_zero, List.set_cons_succ]
    refine pureE (i := 7) (L := #[true, true, true, true, true, true, true, true, false]) (v := ?_) rfl (by rfl) (by kernel_rfl) (by kernel_rfl) (by kernel_rfl) (fun _ _ _ h => h) (by rfl) ?hy35 ?rest35
    case hy35 => intro w; go_simp; (try with_reducible rfl)
    try simp only [Act.put, List.setIfInBounds_toArray, List.set_cons_zero, List.set_cons_succ]
    obtain ⟨⟨p1, p2⟩, p3, p4⟩ := boxS ((d3.block w1.heap.size (by have := HS2.out; omega)).trans X3)
    refine stepK (i := 8) (L := #[true, true, true, true, true, true, true, true, true]) rfl (by rfl) (by kernel_rfl) (by rfl) (fun K hK => ?_)
    go_simp
    refine hK _ _ ⟨fun h => absurd h (by decide), ?_⟩
    clear hK K
    try simp only [Act.put, List.setIfInBounds_toArray, List.set_cons_zero, List.set_cons_succ]
    refine doneE (by kernel_rfl) ?_ _
    go_wp2
    refine bodyPost_ret (v := .agg #[.bool s, .slice A3 n3 c3]) (by simp [results, Tryd.results68, go_sem, p1, p2]) rfl ⟨A3, n3, c3, rfl, hc3, ?_, ?_⟩
    · exact ((b2.trans (d3.mono (by have := HS1.out; have := HS2.out; omega))).setCell (by have := HS1.out; simp; omega) _).setCell (by have := HS1.out; simp; omega) _
    · exact ((ints_set (ints_set hI3.out (by show w1.heap.size < w2.heap.size; have := HS2.out; omega) 0 _) (by show w1.heap.size < w2.heap.size; have := HS2.out; omega) 1 _).more (by show w.heap.size ≤ w2.heap.size; have := HS1.out; have := HS2.out; omega) (by simp [World.setCell]))
end Dy
end Go.Proofs.YtlbkepiflhchdaaDoor
