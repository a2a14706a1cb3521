/- push.both: a walk. -/
/- push.both$1: a walk. -/
/- push.both$1, an error: walks. -/
/- push.both$1: whatever comes of the two calls; small laws for push.Take. -/
/- RegionE: ways that meet: what stands where they meet is said once, and walked once. No program in sight. -/
import Derived.Test.YtbbnbgllgomolaaDoorBh15
import Derived.Test.YtbbnbgllgomolaaDoorBh03
namespace Go.Proofs.YtbbnbgllgomolaaDoor
open Go.RowKit
namespace Dy
open Dp
set_option maxHeartbeats 3200000 in
/-- push.both: what it captures. -/
theorem both_any (w : World) (s : Bool) (A : Option Addr) (n c : Nat) (e q : Int) :
    Calls Tryd.prog 41 #[.agg #[.bool s, .slice A n c, .int .i64 e], .int .i64 q] w fun ev w' => ev = .returned (.func (.func 63) #[] #[.pointer (some ⟨w.heap.size + 1, 0, none⟩), .pointer (some ⟨w.heap.size, 0, none⟩)]) ∧ Below w.heap.size w w' ∧ w'.heap[w.heap.size]? = some (.cells #[.bool s, .slice A n c, .int .i64 e] 24 (0, 0)) ∧ w'.heap[w.heap.size + 1]? = some (.cells #[.int .i64 q] 29 (0, 0)) ∧ w.heap.size + 2 ≤ w'.heap.size := by
  generalize hw : (w.alloc (.cells #[.bool s, .slice A n c, .int .i64 e] 24)).alloc (.cells #[.int .i64 q] 29) = w1
  obtain ⟨M1, M2, b1, l1, l2⟩ := boxes2 w _ _ hw
  go_enter Tryd.func41, Tryd.ntmps41
  go_wp2
  go_ret
  exact ⟨rfl, b1, M1, M2, l1⟩
end Dy
end Go.Proofs.YtbbnbgllgomolaaDoor
namespace Go.Proofs.YtbbnbgllgomolaaDoor
open Go.RowKit
namespace Dy
open Dp
def Held2 (a b : Nat) (x y : Obj) (v : World) : Prop := v.heap[a]? = some x ∧ v.heap[b]? = some y
set_option maxHeartbeats 6400000 in
set_option maxRecDepth 100000 in
/-- push.both: what comes of two calls, where both are well. -/
theorem both1_ok (w : World) (s1 s2 : Bool) (A1 A2 : Option Addr) (n1 c1 n2 c2 : Nat) (e1 e2 : Int) (ge gd : Nat) (he : ge < w.heap.size) (hd : gd < w.heap.size)
    (E : w.heap[ge]? = some (.cells #[.int .i64 0] 29 (0, 0))) (D : w.heap[gd]? = some (.cells #[.bool s1, .slice A1 n1 c1, .int .i64 e1] 24 (0, 0))) :
    Calls Tryd.prog 63 #[.agg #[.bool s2, .slice A2 n2 c2, .int .i64 e2], .int .i64 0, .pointer (some ⟨ge, 0, none⟩), .pointer (some ⟨gd, 0, none⟩)] w fun ev w' => ev = .returned (.tuple #[.agg #[.bool s1, .slice A1 n1 c1, .int .i64 e1], .agg #[.bool s2, .slice A2 n2 c2, .int .i64 e2], .int .i64 0]) ∧ Below w.heap.size w w' := by
  generalize hw : ((w.alloc (.cells #[.bool s2, .slice A2 n2 c2, .int .i64 e2] 24)).alloc (.cells #[.bool false, .slice none 0 0, .int .i64 0] 24)).alloc (.cells #[.bool false, .slice none 0 0, .int .i64 0] 24) = w1
  obtain ⟨B4, B6, B7, b1, l1, l2⟩ := boxes3R w _ _ _ hw
  have E1 := (b1.block ge he).trans E
  have D1 := (b1.block gd hd).trans D
  obtain ⟨k1, k2⟩ := Ma.cells1 E1
  go_enter Tryd.func63, Tryd.ntmps63
  go_wp2_with fail
  try clear hw
  refine region_E (Held2 gd w.heap.size (.cells #[.bool s1, .slice A1 n1 c1, .int .i64 e1] 24 (0, 0)) (.cells #[.bool s2, .slice A2 n2 c2, .int .i64 e2] 24 (0, 0))) [] (m := 5) (L := #[false, false, false, false, false]) (by kernel_rfl) (by rfl) (by rfl) ?_
  have b2 : Below w.heap.size w w1.drew := b1.drew
  have hS0 : Held2 gd w.heap.size (.cells #[.bool s1, .slice A1 n1 c1, .int .i64 e1] 24 (0, 0)) (.cells #[.bool s2, .slice A2 n2 c2, .int .i64 e2] 24 (0, 0)) w1.drew := ⟨D1, B4⟩
  replace B6 : w1.drew.heap[w.heap.size + 1]? = some (.cells #[.bool false, .slice none 0 0, .int .i64 0] 24 (0, 0)) := B6
  replace B7 : w1.drew.heap[w.heap.size + 1 + 1]? = some (.cells #[.bool false, .slice none 0 0, .int .i64 0] 24 (0, 0)) := B7
  generalize w1.drew = v1 at *
  refine readE (i := 0) (L := #[true, false, false, false, false]) (v := .agg #[.bool s1, .slice A1 n1 c1, .int .i64 e1]) rfl (by rfl) (by kernel_rfl) (by kernel_rfl) (by kernel_rfl) (fun _ _ _ h => h) (by assumption) (by rfl) ?ry_1 ?rr_1
  case ry_1 =>
    intro w' h1
    obtain ⟨⟨p0, p1, p2⟩, _⟩ := boxD h1.1
    go_simp
  try simp only [Act.put, List.setIfInBounds_toArray, List.set_cons_zero, List.set_cons_succ]
  refine readE (i := 1) (L := #[true, true, false, false, false]) (v := .agg #[.bool s2, .slice A2 n2 c2, .int .i64 e2]) rfl (by rfl) (by kernel_rfl) (by kernel_rfl) (by kernel_rfl) (fun _ _ _ h => h) (by assumption) (by rfl) ?ry_2 ?rr_2
  case ry_2 =>
    intro w' h1
    obtain ⟨⟨p0, p1, p2⟩, _⟩ := boxD h1.2
    go_simp
  try simp only [Act.put, List.setIfInBounds_toArray, List.set_cons_zero, List.set_cons_succ]
  refine stepK (i := 2) (L := #[true, true, true, false, false]) rfl (by rfl) (by kernel_rfl) (by rfl) (fun K hK => ?_)
  obtain ⟨⟨z0, z1, z2⟩, z3, z4, z5⟩ := boxD B6
  obtain ⟨U, hU, hX, hbU, hfU, y1, y2⟩ := zputR B6 (.bool s1) (.slice A1 n1 c1) (.int .i64 e1)
  go_simp
  try rw [hU]
  clear z0 z1 z2 z3 z4 z5 hU
  have hS1 : Held2 gd w.heap.size (.cells #[.bool s1, .slice A1 n1 c1, .int .i64 e1] 24 (0, 0)) (.cells #[.bool s2, .slice A2 n2 c2, .int .i64 e2] 24 (0, 0)) U := ⟨(hfU _ (by omega)).trans hS0.1, (hfU _ (by omega)).trans hS0.2⟩
  have b3 := hbU _ _ b2 (show w.heap.size ≤ w.heap.size + 1 by omega)
  replace B7 := (hfU (w.heap.size + 1 + 1) (by omega)).trans B7
  refine hK _ _ ⟨fun _ _ => hS1, ?_⟩
  clear hK K hfU hbU B6 b2 hS0
  try simp only [Act.put, List.setIfInBounds_toArray, List.set_cons_zero, List.set_cons_succ]
  refine stepK (i := 3) (L := #[true, true, true, true, false]) rfl (by rfl) (by kernel_rfl) (by rfl) (fun K hK => ?_)
  obtain ⟨⟨z0, z1, z2⟩, z3, z4, z5⟩ := boxD B7
  obtain ⟨U2, hU, hX2, hbU, hfU, y3, y4⟩ := zputR B7 (.bool s2) (.slice A2 n2 c2) (.int .i64 e2)
  go_simp
  try rw [hU]
  clear z0 z1 z2 z3 z4 z5 hU
  have hS2 : Held2 gd w.heap.size (.cells #[.bool s1, .slice A1 n1 c1, .int .i64 e1] 24 (0, 0)) (.cells #[.bool s2, .slice A2 n2 c2, .int .i64 e2] 24 (0, 0)) U2 := ⟨(hfU _ (by omega)).trans hS1.1, (hfU _ (by omega)).trans hS1.2⟩
  have b4 := hbU _ _ b3 (show w.heap.size ≤ w.heap.size + 1 + 1 by omega)
  replace hX := (hfU (w.heap.size + 1) (by omega)).trans hX
  refine hK _ _ ⟨fun _ _ => hS2, ?_⟩
  clear hK K hfU hbU B7 b3 hS1
  try simp only [Act.put, List.setIfInBounds_toArray, List.set_cons_zero, List.set_cons_succ]
  refine pureE (i := 4) (L := #[true, true, true, true, true]) (v := ?_) rfl (by rfl) (by kernel_rfl) (by kernel_rfl) (by kernel_rfl) (fun _ _ _ h => h) (by rfl) ?hy5 ?rest5
  case hy5 => intro w; go_simp; (try with_reducible rfl)
  try simp only [Act.put, List.setIfInBounds_toArray, List.set_cons_zero, List.set_cons_succ]
  refine doneE (by kernel_rfl) ?_ _
  obtain ⟨⟨p0, p1, p2⟩, p3, p4, p5⟩ := boxD hX
  obtain ⟨⟨q0, q1, q2⟩, q3, q4, q5⟩ := boxD hX2
  go_wp2
  exact bodyPost_ret (v := .tuple #[.agg #[.bool s1, .slice A1 n1 c1, .int .i64 e1], .agg #[.bool s2, .slice A2 n2 c2, .int .i64 e2], .int .i64 0]) (by simp [results, Tryd.results63, go_sem, p0, p1, p2, q0, q1, q2]) rfl ⟨rfl, b4⟩
end Dy
end Go.Proofs.YtbbnbgllgomolaaDoor
namespace Go.Proofs.YtbbnbgllgomolaaDoor
open Go.RowKit
namespace Dy
open Dp
def Held3 (a b c : Nat) (x y z : Obj) (v : World) : Prop := v.heap[a]? = some x ∧ v.heap[b]? = some y ∧ v.heap[c]? = some z
set_option maxHeartbeats 6400000 in
set_option maxRecDepth 100000 in
/-- push.both: the first one erred. -/
theorem both1_bad1 (w : World) (s1 s2 : Bool) (A1 A2 : Option Addr) (n1 c1 n2 c2 : Nat) (e1 e2 q f : Int) (hq : q ≠ 0) (ge gd : Nat) (he : ge < w.heap.size) (hd : gd < w.heap.size)
    (E : w.heap[ge]? = some (.cells #[.int .i64 q] 29 (0, 0))) (D : w.heap[gd]? = some (.cells #[.bool s1, .slice A1 n1 c1, .int .i64 e1] 24 (0, 0))) :
    Calls Tryd.prog 63 #[.agg #[.bool s2, .slice A2 n2 c2, .int .i64 e2], .int .i64 f, .pointer (some ⟨ge, 0, none⟩), .pointer (some ⟨gd, 0, none⟩)] w fun ev w' => ev = .returned (.tuple #[.agg #[.bool false, .slice none 0 0, .int .i64 0], .agg #[.bool false, .slice none 0 0, .int .i64 0], .int .i64 q]) ∧ Below w.heap.size w w' := by
  have hqb : (q == 0) = false := by simpa using hq
  have hqb2 : (q != 0) = true := by simpa using hq
  clear hq
  generalize hw : ((w.alloc (.cells #[.bool s2, .slice A2 n2 c2, .int .i64 e2] 24)).alloc (.cells #[.bool false, .slice none 0 0, .int .i64 0] 24)).alloc (.cells #[.bool false, .slice none 0 0, .int .i64 0] 24) = w1
  obtain ⟨B4, B6, B7, b1, l1, l2⟩ := boxes3R w _ _ _ hw
  have E1 := (b1.block ge he).trans E
  obtain ⟨k1, k2⟩ := Ma.cells1 E1
  go_enter Tryd.func63, Tryd.ntmps63
  go_wp2_with fail
  try clear hw
  clear k1 k2
  refine region_E (Held3 (w.heap.size + 1) (w.heap.size + 1 + 1) ge (.cells #[.bool false, .slice none 0 0, .int .i64 0] 24 (0, 0)) (.cells #[.bool false, .slice none 0 0, .int .i64 0] 24 (0, 0)) (.cells #[.int .i64 q] 29 (0, 0))) [] (m := 6) (L := #[false, false, false, false, false, false]) (by kernel_rfl) (by rfl) (by rfl) ?_
  have b2 : Below w.heap.size w w1.drew := b1.drew
  have hS0 : Held3 (w.heap.size + 1) (w.heap.size + 1 + 1) ge (.cells #[.bool false, .slice none 0 0, .int .i64 0] 24 (0, 0)) (.cells #[.bool false, .slice none 0 0, .int .i64 0] 24 (0, 0)) (.cells #[.int .i64 q] 29 (0, 0)) w1.drew := ⟨B6, B7, E1⟩
  generalize w1.drew = v1 at *
  refine readE (i := 0) (L := #[true, false, false, false, false, false]) (v := .agg #[.bool false, .slice none 0 0, .int .i64 0]) rfl (by rfl) (by kernel_rfl) (by kernel_rfl) (by kernel_rfl) (fun _ _ _ h => h) (by assumption) (by rfl) ?ry_1 ?rr_1
  case ry_1 =>
    intro w' h1
    obtain ⟨⟨p0, p1, p2⟩, _⟩ := boxD h1.1
    go_simp
  try simp only [Act.put, List.setIfInBounds_toArray, List.set_cons_zero, List.set_cons_succ]
  refine readE (i := 1) (L := #[true, true, false, false, false, false]) (v := .agg #[.bool false, .slice none 0 0, .int .i64 0]) rfl (by rfl) (by kernel_rfl) (by kernel_rfl) (by kernel_rfl) (fun _ _ _ h => h) (by assumption) (by rfl) ?ry_2 ?rr_2
  case ry_2 =>
    intro w' h1
    obtain ⟨⟨p0, p1, p2⟩, _⟩ := boxD h1.2.1
    go_simp
  try simp only [Act.put, List.setIfInBounds_toArray, List.set_cons_zero, List.set_cons_succ]
  refine readE (i := 2) (L := #[true, true, true, false, false, false]) (v := .int .i64 q) rfl (by rfl) (by kernel_rfl) (by kernel_rfl) (by kernel_rfl) (fun _ _ _ h => h) (by assumption) (by rfl) ?ry_3 ?rr_3
  case ry_3 =>
    intro w' h1
    obtain ⟨k1, k2⟩ := Ma.cells1 h1.2.2
    go_simp
  try simp only [Act.put, List.setIfInBounds_toArray, List.set_cons_zero, List.set_cons_succ]
  refine stepK (i := 3) (L := #[true, true, true, true, false, false]) rfl (by rfl) (by kernel_rfl) (by rfl) (fun K hK => ?_)
  obtain ⟨⟨z0, z1, z2⟩, z3, z4, z5⟩ := boxD hS0.1
  obtain ⟨U, hU, hX, hbU, hfU, y1, y2⟩ := zputR hS0.1 (.bool false) (.slice none 0 0) (.int .i64 0)
  go_simp
  try rw [hU]
  clear z0 z1 z2 z3 z4 z5 hU
  have b3 := hbU _ _ b2 (show w.heap.size ≤ w.heap.size + 1 by omega)
  have hS1 : Held3 (w.heap.size + 1) (w.heap.size + 1 + 1) ge (.cells #[.bool false, .slice none 0 0, .int .i64 0] 24 (0, 0)) (.cells #[.bool false, .slice none 0 0, .int .i64 0] 24 (0, 0)) (.cells #[.int .i64 q] 29 (0, 0)) U := ⟨hX, (hfU _ (by omega)).trans hS0.2.1, (hfU _ (by omega)).trans hS0.2.2⟩
  refine hK _ _ ⟨fun _ _ => hS1, ?_⟩
  clear hK K hfU hbU b2 hS0 hX
  try simp only [Act.put, List.setIfInBounds_toArray, List.set_cons_zero, List.set_cons_succ]
  refine stepK (i := 4) (L := #[true, true, true, true, true, false]) rfl (by rfl) (by kernel_rfl) (by rfl) (fun K hK => ?_)
  obtain ⟨⟨z0, z1, z2⟩, z3, z4, z5⟩ := boxD hS1.2.1
  obtain ⟨U2, hU, hX, hbU, hfU, y3, y4⟩ := zputR hS1.2.1 (.bool false) (.slice none 0 0) (.int .i64 0)
  go_simp
  try rw [hU]
  clear z0 z1 z2 z3 z4 z5 hU
  have b4 := hbU _ _ b3 (show w.heap.size ≤ w.heap.size + 1 + 1 by omega)
  have hS2 : Held3 (w.heap.size + 1) (w.heap.size + 1 + 1) ge (.cells #[.bool false, .slice none 0 0, .int .i64 0] 24 (0, 0)) (.cells #[.bool false, .slice none 0 0, .int .i64 0] 24 (0, 0)) (.cells #[.int .i64 q] 29 (0, 0)) U2 := ⟨(hfU _ (by omega)).trans hS1.1, hX, (hfU _ (by omega)).trans hS1.2.2⟩
  refine hK _ _ ⟨fun _ _ => hS2, ?_⟩
  clear hK K hfU hbU b3 hS1 hX
  try simp only [Act.put, List.setIfInBounds_toArray, List.set_cons_zero, List.set_cons_succ]
  refine pureE (i := 5) (L := #[true, true, true, true, true, true]) (v := ?_) rfl (by rfl) (by kernel_rfl) (by kernel_rfl) (by kernel_rfl) (fun _ _ _ h => h) (by rfl) ?hy11 ?rest11
  case hy11 => intro w; go_simp; (try with_reducible rfl)
  try simp only [Act.put, List.setIfInBounds_toArray, List.set_cons_zero, List.set_cons_succ]
  refine doneE (by kernel_rfl) ?_ _
  obtain ⟨⟨p0, p1, p2⟩, p3, p4, p5⟩ := boxD hS2.1
  obtain ⟨⟨q0, q1, q2⟩, q3, q4, q5⟩ := boxD hS2.2.1
  go_wp2
  exact bodyPost_ret (v := .tuple #[.agg #[.bool false, .slice none 0 0, .int .i64 0], .agg #[.bool false, .slice none 0 0, .int .i64 0], .int .i64 q]) (by simp [results, Tryd.results63, go_sem, p0, p1, p2, q0, q1, q2]) rfl ⟨rfl, b4⟩
set_option maxHeartbeats 6400000 in
set_option maxRecDepth 100000 in
/-- push.both: the second one erred. -/
theorem both1_bad2 (w : World) (s1 s2 : Bool) (A1 A2 : Option Addr) (n1 c1 n2 c2 : Nat) (e1 e2 q f : Int) (hq : q ≠ 0) (ge gd : Nat) (he : ge < w.heap.size) (hd : gd < w.heap.size)
    (E : w.heap[ge]? = some (.cells #[.int .i64 0] 29 (0, 0))) (D : w.heap[gd]? = some (.cells #[.bool s1, .slice A1 n1 c1, .int .i64 e1] 24 (0, 0))) :
    Calls Tryd.prog 63 #[.agg #[.bool s2, .slice A2 n2 c2, .int .i64 e2], .int .i64 q, .pointer (some ⟨ge, 0, none⟩), .pointer (some ⟨gd, 0, none⟩)] w fun ev w' => ev = .returned (.tuple #[.agg #[.bool false, .slice none 0 0, .int .i64 0], .agg #[.bool false, .slice none 0 0, .int .i64 0], .int .i64 q]) ∧ Below w.heap.size w w' := by
  have hqb : (q == 0) = false := by simpa using hq
  have hqb2 : (q != 0) = true := by simpa using hq
  clear hq
  generalize hw : ((w.alloc (.cells #[.bool s2, .slice A2 n2 c2, .int .i64 e2] 24)).alloc (.cells #[.bool false, .slice none 0 0, .int .i64 0] 24)).alloc (.cells #[.bool false, .slice none 0 0, .int .i64 0] 24) = w1
  obtain ⟨B4, B6, B7, b1, l1, l2⟩ := boxes3R w _ _ _ hw
  have E1 := (b1.block ge he).trans E
  obtain ⟨k1, k2⟩ := Ma.cells1 E1
  go_enter Tryd.func63, Tryd.ntmps63
  go_wp2_with fail
  try clear hw
  clear k1 k2
  refine region_E (Held3 (w.heap.size + 1) (w.heap.size + 1 + 1) ge (.cells #[.bool false, .slice none 0 0, .int .i64 0] 24 (0, 0)) (.cells #[.bool false, .slice none 0 0, .int .i64 0] 24 (0, 0)) (.cells #[.int .i64 0] 29 (0, 0))) [] (m := 6) (L := #[false, false, false, false, false, false]) (by kernel_rfl) (by rfl) (by rfl) ?_
  have b2 : Below w.heap.size w w1.drew := b1.drew
  have hS0 : Held3 (w.heap.size + 1) (w.heap.size + 1 + 1) ge (.cells #[.bool false, .slice none 0 0, .int .i64 0] 24 (0, 0)) (.cells #[.bool false, .slice none 0 0, .int .i64 0] 24 (0, 0)) (.cells #[.int .i64 0] 29 (0, 0)) w1.drew := ⟨B6, B7, E1⟩
  generalize w1.drew = v1 at *
  refine readE (i := 0) (L := #[true, false, false, false, false, false]) (v := .agg #[.bool false, .slice none 0 0, .int .i64 0]) rfl (by rfl) (by kernel_rfl) (by kernel_rfl) (by kernel_rfl) (fun _ _ _ h => h) (by assumption) (by rfl) ?ry_1 ?rr_1
  case ry_1 =>
    intro w' h1
    obtain ⟨⟨p0, p1, p2⟩, _⟩ := boxD h1.1
    go_simp
  try simp only [Act.put, List.setIfInBounds_toArray, List.set_cons_zero, List.set_cons_succ]
  refine readE (i := 1) (L := #[true, true, false, false, false, false]) (v := .agg #[.bool false, .slice none 0 0, .int .i64 0]) rfl (by rfl) (by kernel_rfl) (by kernel_rfl) (by kernel_rfl) (fun _ _ _ h => h) (by assumption) (by rfl) ?ry_2 ?rr_2
  case ry_2 =>
    intro w' h1
    obtain ⟨⟨p0, p1, p2⟩, _⟩ := boxD h1.2.1
    go_simp
  try simp only [Act.put, List.setIfInBounds_toArray, List.set_cons_zero, List.set_cons_succ]
  refine pureE (i := 2) (L := #[true, true, true, false, false, false]) (v := ?_) rfl (by rfl) (by kernel_rfl) (by kernel_rfl) (by kernel_rfl) (fun _ _ _ h => h) (by rfl) ?hy14 ?rest14
  case hy14 => intro w; go_simp; (try with_reducible rfl)
  try simp only [Act.put, List.setIfInBounds_toArray, List.set_cons_zero, List.set_cons_succ]
  refine stepK (i := 3) (L := #[true, true, true, true, false, false]) rfl (by rfl) (by kernel_rfl) (by rfl) (fun K hK => ?_)
  obtain ⟨⟨z0, z1, z2⟩, z3, z4, z5⟩ := boxD hS0.1
  obtain ⟨U, hU, hX, hbU, hfU, y1, y2⟩ := zputR hS0.1 (.bool false) (.slice none 0 0) (.int .i64 0)
  go_simp
  try rw [hU]
  clear z0 z1 z2 z3 z4 z5 hU
  have b3 := hbU _ _ b2 (show w.heap.size ≤ w.heap.size + 1 by omega)
  have hS1 : Held3 (w.heap.size + 1) (w.heap.size + 1 + 1) ge (.cells #[.bool false, .slice none 0 0, .int .i64 0] 24 (0, 0)) (.cells #[.bool false, .slice none 0 0, .int .i64 0] 24 (0, 0)) (.cells #[.int .i64 0] 29 (0, 0)) U := ⟨hX, (hfU _ (by omega)).trans hS0.2.1, (hfU _ (by omega)).trans hS0.2.2⟩
  refine hK _ _ ⟨fun _ _ => hS1, ?_⟩
  clear hK K hfU hbU b2 hS0 hX
  try simp only [Act.put, List.setIfInBounds_toArray, List.set_cons_zero, List.set_cons_succ]
  refine stepK (i := 4) (L := #[true, true, true, true, true, false]) rfl (by rfl) (by kernel_rfl) (by rfl) (fun K hK => ?_)
  obtain ⟨⟨z0, z1, z2⟩, z3, z4, z5⟩ := boxD hS1.2.1
  obtain ⟨U2, hU, hX, hbU, hfU, y3, y4⟩ := zputR hS1.2.1 (.bool false) (.slice none 0 0) (.int .i64 0)
  go_simp
  try rw [hU]
  clear z0 z1 z2 z3 z4 z5 hU
  have b4 := hbU _ _ b3 (show w.heap.size ≤ w.heap.size + 1 + 1 by omega)
  have hS2 : Held3 (w.heap.size + 1) (w.heap.size + 1 + 1) ge (.cells #[.bool false, .slice none 0 0, .int .i64 0] 24 (0, 0)) (.cells #[.bool false, .slice none 0 0, .int .i64 0] 24 (0, 0)) (.cells #[.int .i64 0] 29 (0, 0)) U2 := ⟨(hfU _ (by omega)).trans hS1.1, hX, (hfU _ (by omega)).trans hS1.2.2⟩
  refine hK _ _ ⟨fun _ _ => hS2, ?_⟩
  clear hK K hfU hbU b3 hS1 hX
  try simp only [Act.put, List.setIfInBounds_toArray, List.set_cons_zero, List.set_cons_succ]
  refine pureE (i := 5) (L := #[true, true, true, true, true, true]) (v := ?_) rfl (by rfl) (by kernel_rfl) (by kernel_rfl) (by kernel_rfl) (fun _ _ _ h => h) (by rfl) ?hy17 ?rest17
  case hy17 => intro w; go_simp; (try with_reducible rfl)
  try simp only [Act.put, List.setIfInBounds_toArray, List.set_cons_zero, List.set_cons_succ]
  refine doneE (by kernel_rfl) ?_ _
  obtain ⟨⟨p0, p1, p2⟩, p3, p4, p5⟩ := boxD hS2.1
  obtain ⟨⟨q0, q1, q2⟩, q3, q4, q5⟩ := boxD hS2.2.1
  go_wp2
  exact bodyPost_ret (v := .tuple #[.agg #[.bool false, .slice none 0 0, .int .i64 0], .agg #[.bool false, .slice none 0 0, .int .i64 0], .int .i64 q]) (by simp [results, Tryd.results63, go_sem, p0, p1, p2, q0, q1, q2]) rfl ⟨rfl, b4⟩
end Dy
end Go.Proofs.YtbbnbgllgomolaaDoor
namespace Go.Proofs.YtbbnbgllgomolaaDoor
open Go.RowKit
namespace Ma
open Dp Dy
/-- What both tells. -/
def BothR (a b : Dv) (q f : Int) (X Y : Dv) (c : Int) : Prop :=
  (q = 0 ∧ f = 0 ∧ X = a ∧ Y = b ∧ c = 0) ∨ (q ≠ 0 ∧ X = ZM.C ∧ Y = ZM.C ∧ c = q) ∨ (q = 0 ∧ f ≠ 0 ∧ X = ZM.C ∧ Y = ZM.C ∧ c = f)
theorem bothR (a b : Dv) (q f : Int) : ∃ X Y c, BothR a b q f X Y c := by
  by_cases hq : q = 0
  · by_cases hf : f = 0
    · exact ⟨a, b, 0, .inl ⟨hq, hf, rfl, rfl, rfl⟩⟩
    · exact ⟨_, _, f, .inr (.inr ⟨hq, hf, rfl, rfl, rfl⟩)⟩
  · exact ⟨_, _, q, .inr (.inl ⟨hq, rfl, rfl, rfl⟩)⟩
theorem BothR.all {a b : Dv} {q f : Int} {X Y : Dv} {c : Int} (h : BothR a b q f X Y c) {P : Dv → Prop} (ha : P a) (hb : P b) (hz : P ZM.C) : P X ∧ P Y := by
  rcases h with ⟨_, _, rfl, rfl, _⟩ | ⟨_, rfl, rfl, _⟩ | ⟨_, _, rfl, rfl, _⟩
  · exact ⟨ha, hb⟩
  · exact ⟨hz, hz⟩
  · exact ⟨hz, hz⟩
set_option maxHeartbeats 6400000 in
/-- push.both: what comes of two calls. -/
theorem both1_any (w : World) (a b : Dv) (q f : Int) (ge gd : Nat) (he : ge < w.heap.size) (hd : gd < w.heap.size)
    (E : w.heap[ge]? = some (.cells #[.int .i64 q] 29 (0, 0))) (D : w.heap[gd]? = some (.cells #[.bool a.s, .slice a.A a.n a.c, .int .i64 a.e] 24 (0, 0))) (X Y : Dv) (c : Int) (h : BothR a b q f X Y c) :
    Calls Tryd.prog 63 #[.agg #[.bool b.s, .slice b.A b.n b.c, .int .i64 b.e], .int .i64 f, .pointer (some ⟨ge, 0, none⟩), .pointer (some ⟨gd, 0, none⟩)] w fun ev w' => ev = .returned (.tuple #[.agg #[.bool X.s, .slice X.A X.n X.c, .int .i64 X.e], .agg #[.bool Y.s, .slice Y.A Y.n Y.c, .int .i64 Y.e], .int .i64 c]) ∧ Below w.heap.size w w' := by
  rcases h with ⟨rfl, rfl, rfl, rfl, rfl⟩ | ⟨hq, rfl, rfl, rfl⟩ | ⟨rfl, hf, rfl, rfl, rfl⟩
  · exact both1_ok w X.s Y.s X.A Y.A X.n X.c Y.n Y.c X.e Y.e ge gd he hd E D
  · exact both1_bad1 w a.s b.s a.A b.A a.n a.c b.n b.c a.e b.e c f hq ge gd he hd E D
  · exact both1_bad2 w a.s b.s a.A b.A a.n a.c b.n b.c a.e b.e c 0 hf ge gd he hd E D
theorem alloc_d (w : World) : ∃ U, w.alloc (.cells #[.bool false, .slice none 0 0, .int .i64 0] 24) = U ∧ U.heap[w.heap.size]? = some (.cells #[.bool false, .slice none 0 0, .int .i64 0] 24 (0, 0)) ∧ Below w.heap.size w U ∧ w.heap.size < U.heap.size :=
  ⟨_, rfl, heap_alloc_last _ _, (Below.refl _ w).alloc (Nat.le_refl _) _, by simp⟩
theorem far3k {w : World} {g g' o1 o2 o3 : Nat} (h : g' ≠ g) (x y z : Value) : (((w.setCell ⟨g, o1, none⟩ x).setCell ⟨g, o2, none⟩ y).setCell ⟨g, o3, none⟩ z).heap[g']? = w.heap[g']? :=
  (Below.heap_setCell _ _ _ _ h).trans ((Below.heap_setCell _ _ _ _ h).trans (Below.heap_setCell _ _ _ _ h))
/-- A row, in neither of two blocks. -/
def OffD (w : World) (lo g g' : Nat) (d : Dv) : Prop := Ints w lo w.heap.size .u32 d.A d.n d.xs ∧ (0 < d.n → ∀ b off, d.A = some ⟨b, off, none⟩ → b ≠ g ∧ b ≠ g')
theorem OffD.zero (w : World) (lo g g' : Nat) : OffD w lo g g' ZM.C := ⟨Ints.nil_ .., fun h => absurd h (Nat.lt_irrefl 0)⟩
theorem OffD.of {w : World} {lo l h g g' : Nat} {d : Dv} (hI : Ints w l h .u32 d.A d.n d.xs) (hl : lo ≤ l) (hh : h ≤ w.heap.size) (h1 : g < l ∨ h ≤ g) (h2 : g' < l ∨ h ≤ g') : OffD w lo g g' d :=
  ⟨hI.more hl hh, fun h0 b off e => by
    obtain ⟨b', off', e', k1, k2, _⟩ := hI.row h0
    rw [e] at e'
    injection e' with e'
    injection e' with e1 _ _
    subst e1
    exact ⟨by omega, by omega⟩⟩
theorem OffD.far {w w' : World} {lo g g' j : Nat} {d : Dv} (h : OffD w lo g g' d) (hf : ∀ k, k ≠ j → w'.heap[k]? = w.heap[k]?) (hs : w'.heap.size = w.heap.size) (hj : j = g ∨ j = g') : OffD w' lo g g' d :=
  ⟨by rw [hs]; exact ints_off h.1 h.2 hf hj, h.2⟩
end Ma
end Go.Proofs.YtbbnbgllgomolaaDoor
namespace Go.Proofs.YtbbnbgllgomolaaDoor
open Go.RowKit
section
variable {P : Program} {os : List Oper} {Q : Exit → Act → World → Prop} {md : Region.Mode} {S : World → Prop} {E : List Nat} {B : Act → World → Prop} {Lf : Array Bool} {m : Nat}
/-- A way that may end where B stands and Lf is listed. -/
def wpAnyC (B : Act → World → Prop) (Lf : Array Bool) (m : Nat) (P : Program) (md : Region.Mode) (ops : Array Oper) (Q : Exit → Act → World → Prop) (S : World → Prop) (E : List Nat) (n : Nat) (L : Array Bool) (a : Act) (w : World) : Prop :=
  (∀ a' w', B a' w' → wpAnyE P md ops Q S E m Lf a' w') → wpAnyE P md ops Q S E n L a w
theorem E_of_C {ops : Array Oper} (B : Act → Act → World → Prop) (Lf : Array Bool) (m : Nat) {k : Nat} {L : Array Bool} {a : Act} {w : World} (h : ∀ a' w', B a a' w' → wpAnyE P md ops Q S E m Lf a' w')
    (hg : wpAnyC (B a) Lf m P md ops Q S E k L a w) : wpAnyE P md ops Q S E k L a w := hg h
theorem leafC {ops : Array Oper} {a : Act} {w : World} (h : B a w) : wpAnyC B Lf m P md ops Q S E m Lf a w := fun hl => hl a w h
theorem pureC {i n : Nat} {oi : Oper} {v : Value} {listed L : Array Bool} {a : Act} {w : World} (hi : os[i]? = some oi) (hL : listed.setIfInBounds i true = L)
    (hs : Region.noSelect os.toArray = true) (hf : Region.free md os.toArray listed i = true) (hr : (Region.ready md os.toArray listed).contains i = true)
    (hQ : ∀ c a w, Q (.panic c) (a.put oi.dst v) w → Q (.panic c) a w) (hw : Region.wanted oi (yielded os.toArray a.tmps) = true) (hy : ∀ w, (execOp a.eval oi).run P w = .ok (.value v) w)
    (h : wpAnyC B Lf m P md os.toArray Q S E n L (a.put oi.dst v) w) : wpAnyC B Lf m P md os.toArray Q S E (n + 1) listed a w := fun hl => pureE hi hL hs hf hr hQ hw hy (h hl)
theorem stepC {i n : Nat} {oi : Oper} {listed L : Array Bool} {a : Act} {w : World} (hi : os[i]? = some oi) (hL : listed.setIfInBounds i true = L)
    (hr : Region.ready md os.toArray listed = [i]) (hw : Region.wanted oi (yielded os.toArray a.tmps) = true)
    (h : ∀ K' : Act → World → Prop, Shut (∀ a w', ((E.contains i = false → S w → S w') ∧ wpAnyC B Lf m P md os.toArray Q S E n L a w') → K' a w') → Oper.wp P oi a w K' Q) :
    wpAnyC B Lf m P md os.toArray Q S E (n + 1) listed a w := fun hl => stepK hi hL hr hw fun K' hK => h K' fun a w' hh => hK a w' ⟨hh.1, hh.2 hl⟩
theorem stepC2 {i j n : Nat} {oi oj : Oper} {listed Li Lj : Array Bool} {a : Act} {w : World} (hi : os[i]? = some oi) (hj : os[j]? = some oj) (hLi : listed.setIfInBounds i true = Li) (hLj : listed.setIfInBounds j true = Lj)
    (hr : Region.ready md os.toArray listed = [i, j]) (hwi : Region.wanted oi (yielded os.toArray a.tmps) = true) (hwj : Region.wanted oj (yielded os.toArray a.tmps) = true)
    (h : ∀ K' : Act → World → Prop, Shut (∀ a w', ((E.contains i = false → S w → S w') ∧ wpAnyC B Lf m P md os.toArray Q S E n Li a w') → K' a w') → Oper.wp P oi a w K' Q)
    (h' : ∀ K' : Act → World → Prop, Shut (∀ a w', ((E.contains j = false → S w → S w') ∧ wpAnyC B Lf m P md os.toArray Q S E n Lj a w') → K' a w') → Oper.wp P oj a w K' Q) :
    wpAnyC B Lf m P md os.toArray Q S E (n + 1) listed a w := fun hl => stepK2 hi hj hLi hLj hr hwi hwj (fun K' hK => h K' fun a w' hh => hK a w' ⟨hh.1, hh.2 hl⟩) (fun K' hK => h' K' fun a w' hh => hK a w' ⟨hh.1, hh.2 hl⟩)
theorem stepC3 {i j k n : Nat} {oi oj ok : Oper} {listed Li Lj Lk : Array Bool} {a : Act} {w : World} (hi : os[i]? = some oi) (hj : os[j]? = some oj) (hk : os[k]? = some ok) (hLi : listed.setIfInBounds i true = Li) (hLj : listed.setIfInBounds j true = Lj) (hLk : listed.setIfInBounds k true = Lk)
    (hr : Region.ready md os.toArray listed = [i, j, k]) (hwi : Region.wanted oi (yielded os.toArray a.tmps) = true) (hwj : Region.wanted oj (yielded os.toArray a.tmps) = true) (hwk : Region.wanted ok (yielded os.toArray a.tmps) = true)
    (h : ∀ K' : Act → World → Prop, Shut (∀ a w', ((E.contains i = false → S w → S w') ∧ wpAnyC B Lf m P md os.toArray Q S E n Li a w') → K' a w') → Oper.wp P oi a w K' Q)
    (h' : ∀ K' : Act → World → Prop, Shut (∀ a w', ((E.contains j = false → S w → S w') ∧ wpAnyC B Lf m P md os.toArray Q S E n Lj a w') → K' a w') → Oper.wp P oj a w K' Q)
    (h'' : ∀ K' : Act → World → Prop, Shut (∀ a w', ((E.contains k = false → S w → S w') ∧ wpAnyC B Lf m P md os.toArray Q S E n Lk a w') → K' a w') → Oper.wp P ok a w K' Q) :
    wpAnyC B Lf m P md os.toArray Q S E (n + 1) listed a w := fun hl => stepK3 hi hj hk hLi hLj hLk hr hwi hwj hwk (fun K' hK => h K' fun a w' hh => hK a w' ⟨hh.1, hh.2 hl⟩) (fun K' hK => h' K' fun a w' hh => hK a w' ⟨hh.1, hh.2 hl⟩) (fun K' hK => h'' K' fun a w' hh => hK a w' ⟨hh.1, hh.2 hl⟩)
end
end Go.Proofs.YtbbnbgllgomolaaDoor
