/- push.both$1: a walk. -/
/- push.both$1, an error: walks. -/
/- push.both$1: whatever comes of the two calls; small laws for push.Take. -/
/- Shares' means, and what they lie between, in numbers. No program in sight. -/
/- The laws of shares: what lies between two values. No program in sight. -/
/- The laws of shares: what push.Between tells. No program in sight. -/
/- Shares with known numbers: what is kept, sent, taken, told. No program in sight. -/
/- push.Give: walks (printed by a program of mine). -/
import Derived.Test.YtbbnbgllgomolaaDoorBs15
namespace Go.Proofs.YtbbnbgllgomolaaDoor
open Go.RowKit
namespace Dy
open Dp
def Held2 (a b : Nat) (x y : Obj) (v : World) : Prop := v.heap[a]? = some x ∧ v.heap[b]? = some y
set_option maxHeartbeats 6400000 in
set_option maxRecDepth 100000 in
/-- push.both: what comes of two calls, where both are well. -/
theorem both1_ok (w : World) (s1 s2 : Bool) (A1 A2 : Option Addr) (n1 c1 n2 c2 : Nat) (e1 e2 : Int) (ge gd : Nat) (he : ge < w.heap.size) (hd : gd < w.heap.size)
  (E : w.heap[ge]? = some (.cells #[.int .i64 0] 29 (0, 0))) (D : w.heap[gd]? = some (.cells #[.bool s1, .slice A1 n1 c1, .int .i64 e1] 24 (0, 0))) :
  Calls Tryd.prog 63 #[.agg #[.bool s2, .slice A2 n2 c2, .int .i64 e2], .int .i64 0, .pointer (some ⟨ge, 0, none⟩), .pointer (some ⟨gd, 0, none⟩)] w fun ev w' => ev = .returned (.tuple #[.agg #[.bool s1, .slice A1 n1 c1, .int .i64 e1], .agg #[.bool s2, .slice A2 n2 c2, .int .i64 e2], .int .i64 0]) ∧ Below w.heap.size w w' := by
 generalize hw : ((w.alloc (.cells #[.bool s2, .slice A2 n2 c2, .int .i64 e2] 24)).alloc (.cells #[.bool false, .slice none 0 0, .int .i64 0] 24)).alloc (.cells #[.bool false, .slice none 0 0, .int .i64 0] 24) = w1
 obtain ⟨B4, B6, B7, b1, l1, l2⟩ := boxes3R w _ _ _ hw
 have E1 := (b1.block ge he).trans E
 have D1 := (b1.block gd hd).trans D
 obtain ⟨k1, k2⟩ := Ma.cells1 E1
 go_enter Tryd.func63, Tryd.ntmps63
 go_wp2_with fail
 try clear hw
 refine region_E (Held2 gd w.heap.size (.cells #[.bool s1, .slice A1 n1 c1, .int .i64 e1] 24 (0, 0)) (.cells #[.bool s2, .slice A2 n2 c2, .int .i64 e2] 24 (0, 0))) [] (m := 5) (L := #[zF,zF,zF,zF,zF]) (by kernel_rfl) (by rfl) (by rfl) ?_
 have b2 : Below w.heap.size w w1.drew := b1.drew
 have hS0 : Held2 gd w.heap.size (.cells #[.bool s1, .slice A1 n1 c1, .int .i64 e1] 24 (0, 0)) (.cells #[.bool s2, .slice A2 n2 c2, .int .i64 e2] 24 (0, 0)) w1.drew := ⟨D1, B4⟩
 replace B6 : w1.drew.heap[w.heap.size + 1]? = some (.cells #[.bool false, .slice none 0 0, .int .i64 0] 24 (0, 0)) := B6
 replace B7 : w1.drew.heap[w.heap.size + 1 + 1]? = some (.cells #[.bool false, .slice none 0 0, .int .i64 0] 24 (0, 0)) := B7
 generalize w1.drew = v1 at *
 refine readE (i := 0) (L := #[zT,zF,zF,zF,zF]) (v := .agg #[.bool s1, .slice A1 n1 c1, .int .i64 e1]) rfl (by rfl) (by kernel_rfl) (by kernel_rfl) (by kernel_rfl) (fun _ _ _ h => h) (by assumption) (by rfl) ?ry_1 ?rr_1
 case ry_1 =>
  intro w' h1
  obtain ⟨⟨p0, p1, p2⟩, _⟩ := boxD h1.1
  go_simp
 try simp only [Act.put, zp]
 refine readE (i := 1) (L := #[zT,zT,zF,zF,zF]) (v := .agg #[.bool s2, .slice A2 n2 c2, .int .i64 e2]) rfl (by rfl) (by kernel_rfl) (by kernel_rfl) (by kernel_rfl) (fun _ _ _ h => h) (by assumption) (by rfl) ?ry_2 ?rr_2
 case ry_2 =>
  intro w' h1
  obtain ⟨⟨p0, p1, p2⟩, _⟩ := boxD h1.2
  go_simp
 try simp only [Act.put, zp]
 refine stepK (i := 2) (L := #[zT,zT,zT,zF,zF]) rfl (by rfl) (by kernel_rfl) (by rfl) (fun K hK => ?_)
 obtain ⟨⟨z0, z1, z2⟩, z3, z4, z5⟩ := boxD B6
 obtain ⟨U, hU, hX, hbU, hfU, y1, y2⟩ := zputR B6 (.bool s1) (.slice A1 n1 c1) (.int .i64 e1)
 go_simp
 try rw [hU]
 clear z0 z1 z2 z3 z4 z5 hU
 have hS1 : Held2 gd w.heap.size (.cells #[.bool s1, .slice A1 n1 c1, .int .i64 e1] 24 (0, 0)) (.cells #[.bool s2, .slice A2 n2 c2, .int .i64 e2] 24 (0, 0)) U := ⟨(hfU _ (by omega)).trans hS0.1, (hfU _ (by omega)).trans hS0.2⟩
 have b3 := hbU _ _ b2 (show w.heap.size ≤ w.heap.size + 1 by omega)
 replace B7 := (hfU (w.heap.size + 1 + 1) (by omega)).trans B7
 refine hK _ _ ⟨fun _ _ => hS1, ?_⟩
 clear hK K hfU hbU B6 b2 hS0
 try simp only [Act.put, zp]
 refine stepK (i := 3) (L := #[zT,zT,zT,zT,zF]) rfl (by rfl) (by kernel_rfl) (by rfl) (fun K hK => ?_)
 obtain ⟨⟨z0, z1, z2⟩, z3, z4, z5⟩ := boxD B7
 obtain ⟨U2, hU, hX2, hbU, hfU, y3, y4⟩ := zputR B7 (.bool s2) (.slice A2 n2 c2) (.int .i64 e2)
 go_simp
 try rw [hU]
 clear z0 z1 z2 z3 z4 z5 hU
 have hS2 : Held2 gd w.heap.size (.cells #[.bool s1, .slice A1 n1 c1, .int .i64 e1] 24 (0, 0)) (.cells #[.bool s2, .slice A2 n2 c2, .int .i64 e2] 24 (0, 0)) U2 := ⟨(hfU _ (by omega)).trans hS1.1, (hfU _ (by omega)).trans hS1.2⟩
 have b4 := hbU _ _ b3 (show w.heap.size ≤ w.heap.size + 1 + 1 by omega)
 replace hX := (hfU (w.heap.size + 1) (by omega)).trans hX
 refine hK _ _ ⟨fun _ _ => hS2, ?_⟩
 clear hK K hfU hbU B7 b3 hS1
 try simp only [Act.put, zp]
 refine zE 4 #[zT,zT,zT,zT,zT] ?_ rfl ?hy5 ?rest5
 case hy5 => intro w; go_simp; (try with_reducible rfl)
 try simp only [Act.put, zp]
 refine doneE (by kernel_rfl) ?_ _
 obtain ⟨⟨p0, p1, p2⟩, p3, p4, p5⟩ := boxD hX
 obtain ⟨⟨q0, q1, q2⟩, q3, q4, q5⟩ := boxD hX2
 go_wp2
 exact bodyPost_ret (v := .tuple #[.agg #[.bool s1, .slice A1 n1 c1, .int .i64 e1], .agg #[.bool s2, .slice A2 n2 c2, .int .i64 e2], .int .i64 0]) (by simp [results, Tryd.results63, go_sem, p0, p1, p2, q0, q1, q2]) rfl ⟨rfl, b4⟩
end Dy
end Go.Proofs.YtbbnbgllgomolaaDoor
namespace Go.Proofs.YtbbnbgllgomolaaDoor
open Go.RowKit
namespace Dy
open Dp
def Held3 (a b c : Nat) (x y z : Obj) (v : World) : Prop := v.heap[a]? = some x ∧ v.heap[b]? = some y ∧ v.heap[c]? = some z
set_option maxHeartbeats 6400000 in
set_option maxRecDepth 100000 in
/-- push.both: the first one erred. -/
theorem both1_bad1 (w : World) (s1 s2 : Bool) (A1 A2 : Option Addr) (n1 c1 n2 c2 : Nat) (e1 e2 q f : Int) (hq : q ≠ 0) (ge gd : Nat) (he : ge < w.heap.size) (_hd : gd < w.heap.size)
  (E : w.heap[ge]? = some (.cells #[.int .i64 q] 29 (0, 0))) (_D : w.heap[gd]? = some (.cells #[.bool s1, .slice A1 n1 c1, .int .i64 e1] 24 (0, 0))) :
  Calls Tryd.prog 63 #[.agg #[.bool s2, .slice A2 n2 c2, .int .i64 e2], .int .i64 f, .pointer (some ⟨ge, 0, none⟩), .pointer (some ⟨gd, 0, none⟩)] w fun ev w' => ev = .returned (.tuple #[.agg #[.bool false, .slice none 0 0, .int .i64 0], .agg #[.bool false, .slice none 0 0, .int .i64 0], .int .i64 q]) ∧ Below w.heap.size w w' := by
 have hqb : (q == 0) = false := by simpa using hq
 have hqb2 : (q != 0) = true := by simpa using hq
 clear hq
 generalize hw : ((w.alloc (.cells #[.bool s2, .slice A2 n2 c2, .int .i64 e2] 24)).alloc (.cells #[.bool false, .slice none 0 0, .int .i64 0] 24)).alloc (.cells #[.bool false, .slice none 0 0, .int .i64 0] 24) = w1
 obtain ⟨B4, B6, B7, b1, l1, l2⟩ := boxes3R w _ _ _ hw
 have E1 := (b1.block ge he).trans E
 obtain ⟨k1, k2⟩ := Ma.cells1 E1
 go_enter Tryd.func63, Tryd.ntmps63
 go_wp2_with fail
 try clear hw
 clear k1 k2
 refine region_E (Held3 (w.heap.size + 1) (w.heap.size + 1 + 1) ge (.cells #[.bool false, .slice none 0 0, .int .i64 0] 24 (0, 0)) (.cells #[.bool false, .slice none 0 0, .int .i64 0] 24 (0, 0)) (.cells #[.int .i64 q] 29 (0, 0))) [] (m := 6) (L := #[zF,zF,zF,zF,zF,zF]) (by kernel_rfl) (by rfl) (by rfl) ?_
 have b2 : Below w.heap.size w w1.drew := b1.drew
 have hS0 : Held3 (w.heap.size + 1) (w.heap.size + 1 + 1) ge (.cells #[.bool false, .slice none 0 0, .int .i64 0] 24 (0, 0)) (.cells #[.bool false, .slice none 0 0, .int .i64 0] 24 (0, 0)) (.cells #[.int .i64 q] 29 (0, 0)) w1.drew := ⟨B6, B7, E1⟩
 generalize w1.drew = v1 at *
 refine readE (i := 0) (L := #[zT,zF,zF,zF,zF,zF]) (v := .agg #[.bool false, .slice none 0 0, .int .i64 0]) rfl (by rfl) (by kernel_rfl) (by kernel_rfl) (by kernel_rfl) (fun _ _ _ h => h) (by assumption) (by rfl) ?ry_1 ?rr_1
 case ry_1 =>
  intro w' h1
  obtain ⟨⟨p0, p1, p2⟩, _⟩ := boxD h1.1
  go_simp
 try simp only [Act.put, zp]
 refine readE (i := 1) (L := #[zT,zT,zF,zF,zF,zF]) (v := .agg #[.bool false, .slice none 0 0, .int .i64 0]) rfl (by rfl) (by kernel_rfl) (by kernel_rfl) (by kernel_rfl) (fun _ _ _ h => h) (by assumption) (by rfl) ?ry_2 ?rr_2
 case ry_2 =>
  intro w' h1
  obtain ⟨⟨p0, p1, p2⟩, _⟩ := boxD h1.2.1
  go_simp
 try simp only [Act.put, zp]
 refine readE (i := 2) (L := #[zT,zT,zT,zF,zF,zF]) (v := .int .i64 q) rfl (by rfl) (by kernel_rfl) (by kernel_rfl) (by kernel_rfl) (fun _ _ _ h => h) (by assumption) (by rfl) ?ry_3 ?rr_3
 case ry_3 =>
  intro w' h1
  obtain ⟨k1, k2⟩ := Ma.cells1 h1.2.2
  go_simp
 try simp only [Act.put, zp]
 refine stepK (i := 3) (L := #[zT,zT,zT,zT,zF,zF]) rfl (by rfl) (by kernel_rfl) (by rfl) (fun K hK => ?_)
 obtain ⟨⟨z0, z1, z2⟩, z3, z4, z5⟩ := boxD hS0.1
 obtain ⟨U, hU, hX, hbU, hfU, y1, y2⟩ := zputR hS0.1 (.bool false) (.slice none 0 0) (.int .i64 0)
 go_simp
 try rw [hU]
 clear z0 z1 z2 z3 z4 z5 hU
 have b3 := hbU _ _ b2 (show w.heap.size ≤ w.heap.size + 1 by omega)
 have hS1 : Held3 (w.heap.size + 1) (w.heap.size + 1 + 1) ge (.cells #[.bool false, .slice none 0 0, .int .i64 0] 24 (0, 0)) (.cells #[.bool false, .slice none 0 0, .int .i64 0] 24 (0, 0)) (.cells #[.int .i64 q] 29 (0, 0)) U := ⟨hX, (hfU _ (by omega)).trans hS0.2.1, (hfU _ (by omega)).trans hS0.2.2⟩
 refine hK _ _ ⟨fun _ _ => hS1, ?_⟩
 clear hK K hfU hbU b2 hS0 hX
 try simp only [Act.put, zp]
 refine stepK (i := 4) (L := #[zT,zT,zT,zT,zT,zF]) rfl (by rfl) (by kernel_rfl) (by rfl) (fun K hK => ?_)
 obtain ⟨⟨z0, z1, z2⟩, z3, z4, z5⟩ := boxD hS1.2.1
 obtain ⟨U2, hU, hX, hbU, hfU, y3, y4⟩ := zputR hS1.2.1 (.bool false) (.slice none 0 0) (.int .i64 0)
 go_simp
 try rw [hU]
 clear z0 z1 z2 z3 z4 z5 hU
 have b4 := hbU _ _ b3 (show w.heap.size ≤ w.heap.size + 1 + 1 by omega)
 have hS2 : Held3 (w.heap.size + 1) (w.heap.size + 1 + 1) ge (.cells #[.bool false, .slice none 0 0, .int .i64 0] 24 (0, 0)) (.cells #[.bool false, .slice none 0 0, .int .i64 0] 24 (0, 0)) (.cells #[.int .i64 q] 29 (0, 0)) U2 := ⟨(hfU _ (by omega)).trans hS1.1, hX, (hfU _ (by omega)).trans hS1.2.2⟩
 refine hK _ _ ⟨fun _ _ => hS2, ?_⟩
 clear hK K hfU hbU b3 hS1 hX
 try simp only [Act.put, zp]
 refine zE 5 #[zT,zT,zT,zT,zT,zT] ?_ rfl ?hy11 ?rest11
 case hy11 => intro w; go_simp; (try with_reducible rfl)
 try simp only [Act.put, zp]
 refine doneE (by kernel_rfl) ?_ _
 obtain ⟨⟨p0, p1, p2⟩, p3, p4, p5⟩ := boxD hS2.1
 obtain ⟨⟨q0, q1, q2⟩, q3, q4, q5⟩ := boxD hS2.2.1
 go_wp2
 exact bodyPost_ret (v := .tuple #[.agg #[.bool false, .slice none 0 0, .int .i64 0], .agg #[.bool false, .slice none 0 0, .int .i64 0], .int .i64 q]) (by simp [results, Tryd.results63, go_sem, p0, p1, p2, q0, q1, q2]) rfl ⟨rfl, b4⟩
set_option maxHeartbeats 6400000 in
set_option maxRecDepth 100000 in
/-- push.both: the second one erred. -/
theorem both1_bad2 (w : World) (s1 s2 : Bool) (A1 A2 : Option Addr) (n1 c1 n2 c2 : Nat) (e1 e2 q _f : Int) (hq : q ≠ 0) (ge gd : Nat) (he : ge < w.heap.size) (_hd : gd < w.heap.size)
  (E : w.heap[ge]? = some (.cells #[.int .i64 0] 29 (0, 0))) (_D : w.heap[gd]? = some (.cells #[.bool s1, .slice A1 n1 c1, .int .i64 e1] 24 (0, 0))) :
  Calls Tryd.prog 63 #[.agg #[.bool s2, .slice A2 n2 c2, .int .i64 e2], .int .i64 q, .pointer (some ⟨ge, 0, none⟩), .pointer (some ⟨gd, 0, none⟩)] w fun ev w' => ev = .returned (.tuple #[.agg #[.bool false, .slice none 0 0, .int .i64 0], .agg #[.bool false, .slice none 0 0, .int .i64 0], .int .i64 q]) ∧ Below w.heap.size w w' := by
 have hqb : (q == 0) = false := by simpa using hq
 have hqb2 : (q != 0) = true := by simpa using hq
 clear hq
 generalize hw : ((w.alloc (.cells #[.bool s2, .slice A2 n2 c2, .int .i64 e2] 24)).alloc (.cells #[.bool false, .slice none 0 0, .int .i64 0] 24)).alloc (.cells #[.bool false, .slice none 0 0, .int .i64 0] 24) = w1
 obtain ⟨B4, B6, B7, b1, l1, l2⟩ := boxes3R w _ _ _ hw
 have E1 := (b1.block ge he).trans E
 obtain ⟨k1, k2⟩ := Ma.cells1 E1
 go_enter Tryd.func63, Tryd.ntmps63
 go_wp2_with fail
 try clear hw
 clear k1 k2
 refine region_E (Held3 (w.heap.size + 1) (w.heap.size + 1 + 1) ge (.cells #[.bool false, .slice none 0 0, .int .i64 0] 24 (0, 0)) (.cells #[.bool false, .slice none 0 0, .int .i64 0] 24 (0, 0)) (.cells #[.int .i64 0] 29 (0, 0))) [] (m := 6) (L := #[zF,zF,zF,zF,zF,zF]) (by kernel_rfl) (by rfl) (by rfl) ?_
 have b2 : Below w.heap.size w w1.drew := b1.drew
 have hS0 : Held3 (w.heap.size + 1) (w.heap.size + 1 + 1) ge (.cells #[.bool false, .slice none 0 0, .int .i64 0] 24 (0, 0)) (.cells #[.bool false, .slice none 0 0, .int .i64 0] 24 (0, 0)) (.cells #[.int .i64 0] 29 (0, 0)) w1.drew := ⟨B6, B7, E1⟩
 generalize w1.drew = v1 at *
 refine readE (i := 0) (L := #[zT,zF,zF,zF,zF,zF]) (v := .agg #[.bool false, .slice none 0 0, .int .i64 0]) rfl (by rfl) (by kernel_rfl) (by kernel_rfl) (by kernel_rfl) (fun _ _ _ h => h) (by assumption) (by rfl) ?ry_1 ?rr_1
 case ry_1 =>
  intro w' h1
  obtain ⟨⟨p0, p1, p2⟩, _⟩ := boxD h1.1
  go_simp
 try simp only [Act.put, zp]
 refine readE (i := 1) (L := #[zT,zT,zF,zF,zF,zF]) (v := .agg #[.bool false, .slice none 0 0, .int .i64 0]) rfl (by rfl) (by kernel_rfl) (by kernel_rfl) (by kernel_rfl) (fun _ _ _ h => h) (by assumption) (by rfl) ?ry_2 ?rr_2
 case ry_2 =>
  intro w' h1
  obtain ⟨⟨p0, p1, p2⟩, _⟩ := boxD h1.2.1
  go_simp
 try simp only [Act.put, zp]
 refine zE 2 #[zT,zT,zT,zF,zF,zF] ?_ rfl ?hy14 ?rest14
 case hy14 => intro w; go_simp; (try with_reducible rfl)
 try simp only [Act.put, zp]
 refine stepK (i := 3) (L := #[zT,zT,zT,zT,zF,zF]) rfl (by rfl) (by kernel_rfl) (by rfl) (fun K hK => ?_)
 obtain ⟨⟨z0, z1, z2⟩, z3, z4, z5⟩ := boxD hS0.1
 obtain ⟨U, hU, hX, hbU, hfU, y1, y2⟩ := zputR hS0.1 (.bool false) (.slice none 0 0) (.int .i64 0)
 go_simp
 try rw [hU]
 clear z0 z1 z2 z3 z4 z5 hU
 have b3 := hbU _ _ b2 (show w.heap.size ≤ w.heap.size + 1 by omega)
 have hS1 : Held3 (w.heap.size + 1) (w.heap.size + 1 + 1) ge (.cells #[.bool false, .slice none 0 0, .int .i64 0] 24 (0, 0)) (.cells #[.bool false, .slice none 0 0, .int .i64 0] 24 (0, 0)) (.cells #[.int .i64 0] 29 (0, 0)) U := ⟨hX, (hfU _ (by omega)).trans hS0.2.1, (hfU _ (by omega)).trans hS0.2.2⟩
 refine hK _ _ ⟨fun _ _ => hS1, ?_⟩
 clear hK K hfU hbU b2 hS0 hX
 try simp only [Act.put, zp]
 refine stepK (i := 4) (L := #[zT,zT,zT,zT,zT,zF]) rfl (by rfl) (by kernel_rfl) (by rfl) (fun K hK => ?_)
 obtain ⟨⟨z0, z1, z2⟩, z3, z4, z5⟩ := boxD hS1.2.1
 obtain ⟨U2, hU, hX, hbU, hfU, y3, y4⟩ := zputR hS1.2.1 (.bool false) (.slice none 0 0) (.int .i64 0)
 go_simp
 try rw [hU]
 clear z0 z1 z2 z3 z4 z5 hU
 have b4 := hbU _ _ b3 (show w.heap.size ≤ w.heap.size + 1 + 1 by omega)
 have hS2 : Held3 (w.heap.size + 1) (w.heap.size + 1 + 1) ge (.cells #[.bool false, .slice none 0 0, .int .i64 0] 24 (0, 0)) (.cells #[.bool false, .slice none 0 0, .int .i64 0] 24 (0, 0)) (.cells #[.int .i64 0] 29 (0, 0)) U2 := ⟨(hfU _ (by omega)).trans hS1.1, hX, (hfU _ (by omega)).trans hS1.2.2⟩
 refine hK _ _ ⟨fun _ _ => hS2, ?_⟩
 clear hK K hfU hbU b3 hS1 hX
 try simp only [Act.put, zp]
 refine zE 5 #[zT,zT,zT,zT,zT,zT] ?_ rfl ?hy17 ?rest17
 case hy17 => intro w; go_simp; (try with_reducible rfl)
 try simp only [Act.put, zp]
 refine doneE (by kernel_rfl) ?_ _
 obtain ⟨⟨p0, p1, p2⟩, p3, p4, p5⟩ := boxD hS2.1
 obtain ⟨⟨q0, q1, q2⟩, q3, q4, q5⟩ := boxD hS2.2.1
 go_wp2
 exact bodyPost_ret (v := .tuple #[.agg #[.bool false, .slice none 0 0, .int .i64 0], .agg #[.bool false, .slice none 0 0, .int .i64 0], .int .i64 q]) (by simp [results, Tryd.results63, go_sem, p0, p1, p2, q0, q1, q2]) rfl ⟨rfl, b4⟩
end Dy
end Go.Proofs.YtbbnbgllgomolaaDoor
namespace Go.Proofs.YtbbnbgllgomolaaDoor
open Go.RowKit
namespace Ma
open Dp Dy
/-- What both tells. -/
def BothR (a b : Dv) (q f : Int) (X Y : Dv) (c : Int) : Prop :=
 (q = 0 ∧ f = 0 ∧ X = a ∧ Y = b ∧ c = 0) ∨ (q ≠ 0 ∧ X = ZM.C ∧ Y = ZM.C ∧ c = q) ∨ (q = 0 ∧ f ≠ 0 ∧ X = ZM.C ∧ Y = ZM.C ∧ c = f)
theorem bothR (a b : Dv) (q f : Int) : ∃ X Y c, BothR a b q f X Y c := by
 by_cases hq : q = 0
 · by_cases hf : f = 0
   · exact ⟨a, b, 0, .inl ⟨hq, hf, rfl, rfl, rfl⟩⟩
   · exact ⟨_, _, f, .inr (.inr ⟨hq, hf, rfl, rfl, rfl⟩)⟩
 · exact ⟨_, _, q, .inr (.inl ⟨hq, rfl, rfl, rfl⟩)⟩
theorem BothR.all {a b : Dv} {q f : Int} {X Y : Dv} {c : Int} (h : BothR a b q f X Y c) {P : Dv → Prop} (ha : P a) (hb : P b) (hz : P ZM.C) : P X ∧ P Y := by
 rcases h with ⟨_, _, rfl, rfl, _⟩ | ⟨_, rfl, rfl, _⟩ | ⟨_, _, rfl, rfl, _⟩
 · exact ⟨ha, hb⟩
 · exact ⟨hz, hz⟩
 · exact ⟨hz, hz⟩
set_option maxHeartbeats 6400000 in
/-- push.both: what comes of two calls. -/
theorem both1_any (w : World) (a b : Dv) (q f : Int) (ge gd : Nat) (he : ge < w.heap.size) (hd : gd < w.heap.size)
  (E : w.heap[ge]? = some (.cells #[.int .i64 q] 29 (0, 0))) (D : w.heap[gd]? = some (.cells #[.bool a.s, .slice a.A a.n a.c, .int .i64 a.e] 24 (0, 0))) (X Y : Dv) (c : Int) (h : BothR a b q f X Y c) :
  Calls Tryd.prog 63 #[.agg #[.bool b.s, .slice b.A b.n b.c, .int .i64 b.e], .int .i64 f, .pointer (some ⟨ge, 0, none⟩), .pointer (some ⟨gd, 0, none⟩)] w fun ev w' => ev = .returned (.tuple #[.agg #[.bool X.s, .slice X.A X.n X.c, .int .i64 X.e], .agg #[.bool Y.s, .slice Y.A Y.n Y.c, .int .i64 Y.e], .int .i64 c]) ∧ Below w.heap.size w w' := by
 rcases h with ⟨rfl, rfl, rfl, rfl, rfl⟩ | ⟨hq, rfl, rfl, rfl⟩ | ⟨rfl, hf, rfl, rfl, rfl⟩
 · exact both1_ok w X.s Y.s X.A Y.A X.n X.c Y.n Y.c X.e Y.e ge gd he hd E D
 · exact both1_bad1 w a.s b.s a.A b.A a.n a.c b.n b.c a.e b.e c f hq ge gd he hd E D
 · exact both1_bad2 w a.s b.s a.A b.A a.n a.c b.n b.c a.e b.e c 0 hf ge gd he hd E D
theorem alloc_d (w : World) : ∃ U, w.alloc (.cells #[.bool false, .slice none 0 0, .int .i64 0] 24) = U ∧ U.heap[w.heap.size]? = some (.cells #[.bool false, .slice none 0 0, .int .i64 0] 24 (0, 0)) ∧ Below w.heap.size w U ∧ w.heap.size < U.heap.size :=
 ⟨_, rfl, heap_alloc_last _ _, (Below.refl _ w).alloc (Nat.le_refl _) _, by simp⟩
theorem far3k {w : World} {g g' o1 o2 o3 : Nat} (h : g' ≠ g) (x y z : Value) : (((w.setCell ⟨g, o1, none⟩ x).setCell ⟨g, o2, none⟩ y).setCell ⟨g, o3, none⟩ z).heap[g']? = w.heap[g']? :=
 (Below.heap_setCell _ _ _ _ h).trans ((Below.heap_setCell _ _ _ _ h).trans (Below.heap_setCell _ _ _ _ h))
/-- A row, in neither of two blocks. -/
def OffD (w : World) (lo g g' : Nat) (d : Dv) : Prop := Ints w lo w.heap.size .u32 d.A d.n d.xs ∧ (0 < d.n → ∀ b off, d.A = some ⟨b, off, none⟩ → b ≠ g ∧ b ≠ g')
theorem OffD.zero (w : World) (lo g g' : Nat) : OffD w lo g g' ZM.C := ⟨Ints.nil_ .., fun h => absurd h (Nat.lt_irrefl 0)⟩
theorem OffD.of {w : World} {lo l h g g' : Nat} {d : Dv} (hI : Ints w l h .u32 d.A d.n d.xs) (hl : lo ≤ l) (hh : h ≤ w.heap.size) (h1 : g < l ∨ h ≤ g) (h2 : g' < l ∨ h ≤ g') : OffD w lo g g' d :=
 ⟨hI.more hl hh, fun h0 b off e => by
  obtain ⟨b', off', e', k1, k2, _⟩ := hI.row h0
  rw [e] at e'
  injection e' with e'
  injection e' with e1 _ _
  subst e1
  exact ⟨by omega, by omega⟩⟩
theorem OffD.far {w w' : World} {lo g g' j : Nat} {d : Dv} (h : OffD w lo g g' d) (hf : ∀ k, k ≠ j → w'.heap[k]? = w.heap[k]?) (hs : w'.heap.size = w.heap.size) (hj : j = g ∨ j = g') : OffD w' lo g g' d :=
 ⟨by rw [hs]; exact ints_off h.1 h.2 hf hj, h.2⟩
end Ma
end Go.Proofs.YtbbnbgllgomolaaDoor
namespace Go.Proofs.YtbbnbgllgomolaaDoor
open Go.RowKit
namespace Ma
open Dp Dy
open Classical in
/-- What comes of two numbers; the first error, if there is one. -/
noncomputable def bothD (p q : Dn × Int) : (Dn × Dn) × Int := if p.2 = 0 then (if q.2 = 0 then ((p.1, q.1), 0) else ((Dn.zero, Dn.zero), q.2)) else ((Dn.zero, Dn.zero), p.2)
theorem bothD_is {a b X Y : Dv} {q f c : Int} {r1 r2 x y : Dn} {code : Int} (h : BothR a b q f X Y c) (ha : Is r1 a) (hb : Is r2 b) (hd : bothD (r1, q) (r2, f) = ((x, y), code)) : Is x X ∧ Is y Y ∧ c = code := by
 unfold bothD at hd
 rcases h with ⟨rfl, rfl, rfl, rfl, rfl⟩ | ⟨hq, rfl, rfl, rfl⟩ | ⟨rfl, hf, rfl, rfl, rfl⟩
 · rw [if_pos rfl, if_pos rfl] at hd
   injection hd with h1 h2
   injection h1 with h3 h4
   subst h3 h4
   exact ⟨ha, hb, h2⟩
 · rw [if_neg hq] at hd
   injection hd with h1 h2
   injection h1 with h3 h4
   subst h3 h4
   exact ⟨Is.zero, Is.zero, h2⟩
 · rw [if_pos rfl, if_neg hf] at hd
   injection hd with h1 h2
   injection h1 with h3 h4
   subst h3 h4
   exact ⟨Is.zero, Is.zero, h2⟩
/-- Down and up. -/
noncomputable def downM (m : Mv) (k : Int) : Dn × Int := toX m.S.s m.S.xs m.S.e m.W.s m.W.xs m.W.e k m.S.s
noncomputable def upM (m : Mv) (k : Int) : Dn × Int := toX m.S.s m.S.xs m.S.e m.W.s m.W.xs m.W.e k (!m.S.s)
open Classical in
/-- A share's mean. -/
noncomputable def meanM (m : Mv) (k : Int) : (Dn × Dn) × Int :=
 if badS [m] = true then ((Dn.zero, Dn.zero), 8) else if k < 0 ∨ 64 < k then ((Dn.zero, Dn.zero), 2) else if m.W.n = 0 then ((Dn.zero, Dn.zero), 6) else bothD (downM m k) (upM m k)
open Classical in
/-- Does a share lie between two values? -/
noncomputable def betweenM (m : Mv) (low high : Int) : Bool × Int :=
 if badS [m] = true then (false, 8) else if low < -2147483647 ∨ 2147483647 < high ∨ high < low then (false, 2) else if m.W.n = 0 then (true, 0) else
  if (bothD (downM m 0) (upM m 0)).2 = 0 then (decide (cmpD (whole low) (bothD (downM m 0) (upM m 0)).1.1 ≤ 0) && decide (cmpD (bothD (downM m 0) (upM m 0)).1.2 (whole high) ≤ 0), 0) else (false, 0)
theorem BothR.two {a b : Dv} {q f : Int} {X Y : Dv} {c : Int} (h : BothR a b q f X Y c) {P Q : Dv → Prop} (ha : P a) (hb : Q b) (hz : P ZM.C) (hz' : Q ZM.C) : P X ∧ Q Y := by
 rcases h with ⟨_, _, rfl, rfl, _⟩ | ⟨_, rfl, rfl, _⟩ | ⟨_, _, rfl, rfl, _⟩
 · exact ⟨ha, hb⟩
 · exact ⟨hz, hz'⟩
 · exact ⟨hz, hz'⟩
end Ma
end Go.Proofs.YtbbnbgllgomolaaDoor
namespace Go.Proofs.YtbbnbgllgomolaaDoor
open Go.RowKit
namespace Ma
open Dp Dy
/-- A number's parts lie between so many times another one's. -/
def liesD (a b : Dn) (low high : Int) : Prop := ∃ K, a.e ≤ K ∧ b.e ≤ K ∧ low * vl b K ≤ vl a K ∧ vl a K ≤ high * vl b K
theorem lies_at {a b : Dn} {low high : Int} (h : liesD a b low high) {K : Nat} (h1 : a.e ≤ K) (h2 : b.e ≤ K) : low * vl b K ≤ vl a K ∧ vl a K ≤ high * vl b K := by
 obtain ⟨L, l1, l2, k1, k2⟩ := h
 have hp : ∀ n : Nat, (0 : Int) < 2 ^ n := fun n => Int.pow_pos (by omega)
 -- both at the greater one
 have a1 := vl_more a (k := K) (l := max K L) h1 (by omega)
 have a2 := vl_more a (k := L) (l := max K L) l1 (by omega)
 have b1 := vl_more b (k := K) (l := max K L) h2 (by omega)
 have b2 := vl_more b (k := L) (l := max K L) l2 (by omega)
 have q1 : low * vl b (max K L) ≤ vl a (max K L) := by
  rw [a2, b2, ← Int.mul_assoc]
  exact Int.mul_le_mul_of_nonneg_right k1 (Int.le_of_lt (hp _))
 have q2 : vl a (max K L) ≤ high * vl b (max K L) := by
  rw [a2, b2, ← Int.mul_assoc]
  exact Int.mul_le_mul_of_nonneg_right k2 (Int.le_of_lt (hp _))
 rw [a1, b1, ← Int.mul_assoc] at q1 q2
 exact ⟨Int.le_of_mul_le_mul_right q1 (hp _), Int.le_of_mul_le_mul_right q2 (hp _)⟩
theorem lies_zero {a b : Dn} (ha : a.m = 0) (hb : b.m = 0) (low high : Int) : liesD a b low high := by
 refine ⟨max a.e b.e, by omega, by omega, ?_, ?_⟩ <;> simp [vl, sg, ha, hb]
/-- Halves lie as the whole. -/
theorem lies_half {a b : Dn} {low high : Int} (h1 : (halfD a).2 = 0) (h2 : (halfD b).2 = 0) : liesD (halfD a).1 (halfD b).1 low high ↔ liesD a b low high := by
 obtain ⟨a1, a2⟩ := half_vl h1
 obtain ⟨b1, b2⟩ := half_vl h2
 have a3 := a2 (max a.e b.e + 1) (by omega)
 have b3 := b2 (max a.e b.e + 1) (by omega)
 constructor
 · intro h
   obtain ⟨k1, k2⟩ := lies_at h (K := max a.e b.e + 1) (by omega) (by omega)
   refine ⟨max a.e b.e + 1, by omega, by omega, ?_, ?_⟩
   · rw [← a3, ← b3, Int.mul_left_comm]
     omega
   · rw [← a3, ← b3, Int.mul_left_comm]
     omega
 · intro h
   obtain ⟨k1, k2⟩ := lies_at h (K := max a.e b.e + 1) (by omega) (by omega)
   rw [← a3, ← b3, Int.mul_left_comm] at k1 k2
   exact ⟨max a.e b.e + 1, by omega, by omega, by omega, by omega⟩
/-- Sums lie as both. -/
theorem lies_add {a b c d : Dn} {low high : Int} (h1 : (addD a c).2 = 0) (h2 : (addD b d).2 = 0) (ha : liesD a b low high) (hc : liesD c d low high) : liesD (addD a c).1 (addD b d).1 low high := by
 obtain ⟨a1, a2⟩ := add_vl h1
 obtain ⟨b1, b2⟩ := add_vl h2
 obtain ⟨K, hK⟩ : ∃ K, a.e + b.e + c.e + d.e ≤ K := ⟨_, Nat.le_refl _⟩
 obtain ⟨k1, k2⟩ := lies_at ha (K := K) (by omega) (by omega)
 obtain ⟨k3, k4⟩ := lies_at hc (K := K) (by omega) (by omega)
 refine ⟨K, by omega, by omega, ?_, ?_⟩
 · rw [a2 K (by omega) (by omega), b2 K (by omega) (by omega), Int.mul_add]
   omega
 · rw [a2 K (by omega) (by omega), b2 K (by omega) (by omega), Int.mul_add]
   omega
/-- Quotients, down and up, tell what lies between. -/
theorem between_law {a b : Dn} (hn : b.neg = false) (h0 : b.m ≠ 0) {low high : Int} (hl : -2147483647 ≤ low) (hh : high ≤ 2147483647) (hlh : low ≤ high) :
  ((bothD (toD a b 0 a.neg) (toD a b 0 (!a.neg))).2 = 0 ∧ cmpD (whole low) (bothD (toD a b 0 a.neg) (toD a b 0 (!a.neg))).1.1 ≤ 0 ∧ cmpD (bothD (toD a b 0 a.neg) (toD a b 0 (!a.neg))).1.2 (whole high) ≤ 0) ↔ liesD a b low high := by
 obtain ⟨K, hK⟩ : ∃ K, a.e + b.e ≤ K := ⟨_, Nat.le_refl _⟩
 obtain ⟨N, hN, sN⟩ := toD_floor hn h0 0 hK (a := a)
 obtain ⟨M, hM, sM⟩ := toD_ceil hn h0 0 hK (a := a)
 obtain ⟨bp, bq⟩ := vl_pos hn h0 K
 have hB : 0 < vl b K := by rw [bp]; exact_mod_cast bq
 rw [Int.pow_zero, Int.mul_one] at sN sM
 have f1 := Int.mul_ediv_add_emod (vl a K) (vl b K)
 have f2 := Int.emod_nonneg (vl a K) (show vl b K ≠ 0 by omega)
 have f3 := Int.emod_lt_of_pos (vl a K) hB
 have g1 := Int.mul_ediv_add_emod (-vl a K) (vl b K)
 have g2 := Int.emod_nonneg (-vl a K) (show vl b K ≠ 0 by omega)
 have g3 := Int.emod_lt_of_pos (-vl a K) hB
 generalize vl a K / vl b K = q at *
 generalize -vl a K / vl b K = p at *
 generalize vl a K % vl b K = r at *
 generalize -vl a K % vl b K = r2 at *
 rw [hN, hM]
 have le_iff : ∀ x y : Int, x * vl b K < y * vl b K + vl b K ↔ x ≤ y := fun x y => by
  constructor
  · intro h
    have : x * vl b K < (y + 1) * vl b K := by rw [Int.add_mul, Int.one_mul]; exact h
    have := Int.lt_of_mul_lt_mul_right this (Int.le_of_lt hB)
    omega
  · intro h
    have := Int.mul_le_mul_of_nonneg_right h (Int.le_of_lt hB)
    omega
 have e1 : vl b K * q = q * vl b K := Int.mul_comm ..
 have e2 : vl b K * p = p * vl b K := Int.mul_comm ..
 have up : ∀ x y : Int, x ≤ y → x * vl b K ≤ y * vl b K := fun x y h => Int.mul_le_mul_of_nonneg_right h (Int.le_of_lt hB)
 have c1 : low * vl b K ≤ vl a K ↔ low ≤ q := ⟨fun h => (le_iff low q).1 (by omega), fun h => by have := up low q h; omega⟩
 have e3 : -high * vl b K = -(high * vl b K) := Int.neg_mul ..
 have c2 : vl a K ≤ high * vl b K ↔ -high ≤ p := ⟨fun h => (le_iff (-high) p).1 (by omega), fun h => by have := up (-high) p h; omega⟩
 have hlies : liesD a b low high ↔ low ≤ q ∧ -p ≤ high := by
  constructor
  · intro h
    obtain ⟨k1, k2⟩ := lies_at h (K := K) (by omega) (by omega)
    exact ⟨c1.1 k1, by have := c2.1 k2; omega⟩
  · rintro ⟨k1, k2⟩
    exact ⟨K, by omega, by omega, c1.2 k1, c2.2 (by omega)⟩
 rw [hlies]
 have qp : q ≤ -p := (le_iff _ _).1 (by rw [Int.neg_mul]; omega)
 have wv : ∀ z : Int, -9223372036854775808 ≤ z → z ≤ 9223372036854775807 → ∀ x : Dn, x.e ≤ 0 → ((cmpD (whole z) x ≤ 0 ↔ z ≤ vl x 0) ∧ (cmpD x (whole z) ≤ 0 ↔ vl x 0 ≤ z)) := fun z z0 z1 x hx => by
  have := vl_whole z
  have hw : (whole z).e ≤ 0 := Nat.le_refl _
  rcases cmp_spec (whole z) x hw hx with ⟨k1, k2⟩ | ⟨k1, k2⟩ | ⟨k1, k2⟩ <;> rcases cmp_spec x (whole z) hx hw with ⟨k3, k4⟩ | ⟨k3, k4⟩ | ⟨k3, k4⟩ <;> rw [k1, k3] <;> omega
 constructor
 · rintro ⟨h1, h2, h3⟩
   unfold bothD at h1 h2 h3
   by_cases k1 : (formed a.neg N 0).2 = 0
   · by_cases k2 : (formed a.neg M 0).2 = 0
     · rw [if_pos k1, if_pos k2] at h2 h3
       obtain ⟨x1, x2⟩ := formed_vl k1
       obtain ⟨y1, y2⟩ := formed_vl k2
       have x3 := x2 0 (Nat.le_refl _)
       have y3 := y2 0 (Nat.le_refl _)
       simp only [Nat.sub_self, Nat.pow_zero, Nat.mul_one] at x3 y3
       have u1 := (wv low (by omega) (by omega) _ x1).1.1 h2
       have u2 := (wv high (by omega) (by omega) _ y1).2.1 h3
       omega
     · rw [if_pos k1, if_neg k2] at h1
       exact absurd h1 k2
   · rw [if_neg k1] at h1
     exact absurd h1 k1
 · rintro ⟨h1, h2⟩
   have F1 : formed a.neg N 0 = (whole q, 0) := whole_of (by omega) (by omega) sN
   have F2 : formed a.neg M 0 = (whole (-p), 0) := whole_of (by omega) (by omega) sM
   rw [F1, F2]
   unfold bothD
   rw [if_pos rfl, if_pos rfl]
   refine ⟨rfl, (wv low (by omega) (by omega) _ (Nat.le_refl _)).1.2 (by rw [vl_whole]; exact h1), (wv high (by omega) (by omega) _ (Nat.le_refl _)).2.2 (by rw [vl_whole]; omega)⟩
end Ma
end Go.Proofs.YtbbnbgllgomolaaDoor
namespace Go.Proofs.YtbbnbgllgomolaaDoor
open Go.RowKit
namespace Ma
open Dp Dy
def liesM (m : Mv) (low high : Int) : Prop := liesD (dnM m 0) (dnM m 1) low high
theorem xs_nil {w : World} {lo hi : Nat} {A : Option Addr} {n : Nat} {xs : List Int} (h : Ints w lo hi .u32 A n xs) : n = 0 ↔ xs = [] := by
 have := h.len
 constructor
 · intro h0
   exact List.length_eq_zero_iff.1 (by omega)
 · intro h0
   rw [h0] at this
   exact this.symm
theorem num_nil0 {s : Bool} {e : Int} : (dn s [] e).m = 0 := rfl
/-- A share whose weight is not 0. -/
theorem share_down {w : World} {lo hi : Nat} {m : Mv} (hR : MRows w lo hi m) (hs : m.share) (hn : m.W.n ≠ 0) (k : Int) (k0 : 0 ≤ k) (k1 : k ≤ 64) :
  downM m k = toD (dnM m 0) (dnM m 1) k.toNat (dnM m 0).neg ∧ upM m k = toD (dnM m 0) (dnM m 1) k.toNat (!(dnM m 0).neg) ∧ (dnM m 1).neg = false ∧ (dnM m 1).m ≠ 0 := by
 have hx : m.W.xs ≠ [] := fun h => hn ((xs_nil hR.W).2 h)
 have m0 : MayD m.S.s m.S.xs m.S.e := hs.1 0 (by decide)
 have m1 : MayD m.W.s m.W.xs m.W.e := hs.1 1 (by decide)
 have ha : askX m.S.s m.S.xs m.S.e m.W.s m.W.xs m.W.e k = 0 := by
  unfold askX
  rw [if_pos ⟨m0, m1⟩, if_neg]
  rintro (h | h | h | h)
  · rw [hs.2.1] at h
    cases h
  · exact hx h
  · omega
  · omega
 refine ⟨?_, ?_, ?_, dn_ne (dig_ints hR.W) m1 hx⟩
 · unfold downM toX
   rw [if_pos ha]
   rfl
 · unfold upM toX
   rw [if_pos ha]
   rfl
 · show (dn m.W.s m.W.xs m.W.e).neg = false
   exact hs.2.1
theorem between_share {w : World} {lo hi : Nat} {m : Mv} (hR : MRows w lo hi m) (hs : m.share) {low high : Int} (hl : -2147483647 ≤ low) (hh : high ≤ 2147483647) (hlh : low ≤ high) :
  ∃ r, betweenM m low high = (r, 0) ∧ (r = true ↔ liesM m low high) := by
 unfold betweenM
 rw [if_neg (by rw [badS_one.2 hs]; simp), if_neg (by omega)]
 by_cases hn : m.W.n = 0
 · rw [if_pos hn]
   refine ⟨true, rfl, fun _ => ?_, fun _ => rfl⟩
   have h1 : m.W.xs = [] := (xs_nil hR.W).1 hn
   have h2 : m.S.xs = [] := (xs_nil hR.S).1 (hs.2.2 hn)
   refine lies_zero ?_ ?_ _ _
   · show (dn m.S.s m.S.xs m.S.e).m = 0
     rw [h2]
     exact num_nil0
   · show (dn m.W.s m.W.xs m.W.e).m = 0
     rw [h1]
     exact num_nil0
 · rw [if_neg hn]
   obtain ⟨d1, d2, d3, d4⟩ := share_down hR hs hn 0 (by decide) (by decide)
   rw [d1, d2]
   have hlaw := between_law d3 d4 hl hh hlh (a := dnM m 0)
   have e0 : (0 : Int).toNat = 0 := rfl
   rw [e0]
   unfold liesM
   rw [← hlaw]
   generalize bothD (toD (dnM m 0) (dnM m 1) 0 (dnM m 0).neg) (toD (dnM m 0) (dnM m 1) 0 (!(dnM m 0).neg)) = X
   by_cases hc : X.2 = 0
   · rw [if_pos hc]
     refine ⟨_, rfl, ?_⟩
     rw [Bool.and_eq_true, decide_eq_true_eq, decide_eq_true_eq]
     exact ⟨fun h => ⟨hc, h⟩, fun h => h.2⟩
   · rw [if_neg hc]
     exact ⟨false, rfl, ⟨fun h => absurd h (by decide), fun h => absurd h.1 hc⟩⟩
end Ma
end Go.Proofs.YtbbnbgllgomolaaDoor
namespace Go.Proofs.YtbbnbgllgomolaaDoor
open Go.RowKit
namespace Ma
open Dp Dy
theorem IsM.dn {R : Nat → Dn} {m : Mv} (h : IsM R m) {x : Nat} (hx : x < 4) : dnM m x = R x := by
 obtain ⟨h1, h2, h3⟩ := h x hx
 unfold dnM
 rw [h1, h2, h3]
 exact dn_of
theorem can_nil {r : Dn} (h : canon 4294967296 r.m = []) : r.m = 0 := by
 have e : (Dy.dn r.neg (canon 4294967296 r.m) r.e).m = r.m := by rw [dn_of]
 rw [h] at e
 exact e.symm
theorem Is.len {w : World} {lo hi : Nat} {r : Dn} {d : Dv} (h : Is r d) (hI : Ints w lo hi .u32 d.A d.n d.xs) : d.n = 0 ↔ r.m = 0 := by
 rw [xs_nil hI, h.2.2]
 exact ⟨can_nil, fun h0 => by rw [h0]; rfl⟩
theorem share_is {w : World} {lo hi : Nat} {m : Mv} {R : Nat → Dn} (hR : MRows w lo hi m) (h : IsM R m) (hr : MayR R) : m.share ↔ ((R 1).neg = false ∧ ((R 1).m = 0 → (R 0).m = 0)) := by
 have l1 : m.W.n = 0 ↔ (R 1).m = 0 := Is.len (h 1 (by decide)) hR.W
 have l0 : m.S.n = 0 ↔ (R 0).m = 0 := Is.len (h 0 (by decide)) hR.S
 have s1 : m.W.s = (R 1).neg := (h 1 (by decide)).1
 unfold Mv.share
 rw [l1, l0, s1]
 exact ⟨fun k => k.2, fun k => ⟨h.may hr, k⟩⟩
theorem give_of {w : World} {lo hi : Nat} {m : Mv} {R : Nat → Dn} {a b : Dn} (hR : MRows w lo hi m) (h : IsM R m) (hr : MayR R) (hn : (R 1).neg = false) (h0 : (R 1).m ≠ 0) (ha : halfD (R 0) = (a, 0)) (hb : halfD (R 1) = (b, 0)) :
  ∃ kR sR, giveM m = ((kR, sR), 0) ∧ (∀ x, x < 4 → kR x = if x = 0 then a else if x = 1 then b else R x) ∧ (∀ x, x < 4 → sR x = if x = 0 then a else if x = 1 then b else Dn.zero) := by
 have hs : m.share := (share_is hR h hr).2 ⟨hn, fun k => absurd k h0⟩
 have l1 : m.W.n ≠ 0 := fun k => h0 ((Is.len (h 1 (by decide)) hR.W).1 k)
 have e0 : halfX m.S.s m.S.xs m.S.e = (a, 0) := ((h 0 (by decide)).half (hr 0 (by decide))).trans ha
 have e1 : halfX m.W.s m.W.xs m.W.e = (b, 0) := ((h 1 (by decide)).half (hr 1 (by decide))).trans hb
 unfold giveM
 rw [if_neg (by rw [badS_one.2 hs]; simp), if_neg l1]
 unfold splitM
 rw [if_pos hs.1, e0, e1, if_pos ⟨rfl, rfl⟩]
 refine ⟨_, _, rfl, fun x hx => ?_, fun x hx => ?_⟩
 · show (if x = 0 then a else if x = 1 then b else dnM m x) = _
   rw [h.dn hx]
 · rfl
theorem take_of {m s : Mv} {R S : Nat → Dn} {a b : Dn} (h : IsM R m) (k : IsM S s) (hr : MayR R) (hs : MayR S) (h1 : m.share) (h2 : s.share) (ha : addD (R 0) (S 0) = (a, 0)) (hb : addD (R 1) (S 1) = (b, 0)) :
  ∃ T, takeM m s = (T, 0) ∧ ∀ x, x < 4 → T x = if x = 0 then a else if x = 1 then b else R x := by
 have e0 : xAdd m s 0 = (a, 0) := (h.add k hr hs (by decide)).trans ha
 have e1 : xAdd m s 1 = (b, 0) := (h.add k hr hs (by decide)).trans hb
 unfold takeM
 rw [if_neg (by rw [badS_two.2 ⟨h1, h2⟩]; simp), e0, e1, if_pos ⟨rfl, rfl⟩]
 refine ⟨_, rfl, fun x hx => ?_⟩
 show (if x = 0 then a else if x = 1 then b else dnM m x) = _
 rw [h.dn hx]
theorem mean_of {w : World} {lo hi : Nat} {m : Mv} {R : Nat → Dn} {x y : Dn} {k : Int} (hR : MRows w lo hi m) (h : IsM R m) (hr : MayR R) (hn : (R 1).neg = false) (h0 : (R 1).m ≠ 0) (k0 : 0 ≤ k) (k1 : k ≤ 64)
  (hx : toD (R 0) (R 1) k.toNat (R 0).neg = (x, 0)) (hy : toD (R 0) (R 1) k.toNat (!(R 0).neg) = (y, 0)) : meanM m k = ((x, y), 0) := by
 have hs : m.share := (share_is hR h hr).2 ⟨hn, fun k => absurd k h0⟩
 have l1 : m.W.n ≠ 0 := fun k => h0 ((Is.len (h 1 (by decide)) hR.W).1 k)
 obtain ⟨d1, d2, _, _⟩ := share_down hR hs l1 k k0 k1
 unfold meanM
 rw [if_neg (by rw [badS_one.2 hs]; simp), if_neg (by omega), if_neg l1, d1, d2, h.dn (by decide), h.dn (by decide), hx, hy]
 unfold bothD
 rw [if_pos rfl, if_pos rfl]
theorem between_of {w : World} {lo hi : Nat} {m : Mv} {R : Nat → Dn} {low high : Int} (hR : MRows w lo hi m) (h : IsM R m) (hs : m.share) (hl : -2147483647 ≤ low) (hh : high ≤ 2147483647) (hlh : low ≤ high) {b : Bool} (hb : b = true ↔ liesD (R 0) (R 1) low high) : betweenM m low high = (b, 0) := by
 obtain ⟨r, h1, h2⟩ := between_share hR hs hl hh hlh
 rw [h1]
 unfold liesM at h2
 rw [h.dn (by decide), h.dn (by decide), ← hb] at h2
 cases r <;> cases b <;> simp_all
/-- A share of S and W alone. -/
def twoR (a b : Dn) (x : Nat) : Dn := if x = 0 then a else if x = 1 then b else Dn.zero
theorem twoR_may {a b : Dn} (ha : a.May) (hb : b.May) : MayR (twoR a b) := four ha hb zero_may zero_may
theorem twoR_is {a b : Dn} {d e : Dv} (hd : Is a d) (he : Is b e) : IsM (twoR a b) ⟨d, e, ZM.C, ZM.A⟩ := four hd he Is.zero Is.zero
theorem sm (m e : Nat) (h0 : m ≠ 0) (h1 : m < 16) (h2 : e ≤ 1024) (h3 : 0 < e → m % 2 = 1) : Dn.May ⟨false, m, e⟩ := may_small _ _ _ h0 h1 h2 h3
theorem pal1 : halfD ⟨false, 6, 0⟩ = (⟨false, 3, 0⟩, 0) := formed_of (K := 1) (sm _ _ (by decide) (by decide) (by decide) (by decide)) (by decide) (by decide) (by decide)
theorem pal2 : halfD ⟨false, 1, 0⟩ = (⟨false, 1, 1⟩, 0) := formed_of (K := 1) (sm _ _ (by decide) (by decide) (by decide) (by decide)) (by decide) (by decide) (by decide)
theorem pal3 : addD ⟨false, 1, 0⟩ ⟨false, 3, 0⟩ = (⟨false, 4, 0⟩, 0) := add_of (K := 1) (sm _ _ (by decide) (by decide) (by decide) (by decide)) (by decide) (by decide) (by decide) (by decide)
theorem pal4 : addD ⟨false, 1, 1⟩ ⟨false, 1, 1⟩ = (⟨false, 1, 0⟩, 0) := add_of (K := 1) (sm _ _ (by decide) (by decide) (by decide) (by decide)) (by decide) (by decide) (by decide) (by decide)
theorem pal5 (b : Bool) : toD ⟨false, 4, 0⟩ ⟨false, 1, 0⟩ 3 b = (⟨false, 4, 0⟩, 0) := by
 cases b <;> exact formed_of (K := 3) (sm _ _ (by decide) (by decide) (by decide) (by decide)) (by decide) (by decide) (by decide)
theorem pal6 : toD ⟨false, 1, 0⟩ ⟨false, 3, 0⟩ 2 false = (⟨false, 1, 2⟩, 0) := formed_of (K := 2) (sm _ _ (by decide) (by decide) (by decide) (by decide)) (by decide) (by decide) (by decide)
theorem pal7 : toD ⟨false, 1, 0⟩ ⟨false, 3, 0⟩ 2 true = (⟨false, 1, 1⟩, 0) := formed_of (K := 2) (sm _ _ (by decide) (by decide) (by decide) (by decide)) (by decide) (by decide) (by decide)
theorem pal8 : liesD ⟨false, 4, 0⟩ ⟨false, 1, 0⟩ 2 6 := ⟨0, by decide, by decide, by decide, by decide⟩
end Ma
end Go.Proofs.YtbbnbgllgomolaaDoor
namespace Go.Proofs.YtbbnbgllgomolaaDoor
open Go.RowKit
namespace Ma
open Dp Dy
set_option maxHeartbeats 51200000 in
set_option maxRecDepth 100000 in
theorem Give_num (w : World) (m : Mv) (hR : MRows w 0 w.heap.size m) (hT : Tab w) (kR sR : Nat → Dn) (code : Int) (hg : giveM m = ((kR, sR), code)) :
  Calls Tryd.prog 11 #[.agg #[.bool m.S.s, .slice m.S.A m.S.n m.S.c, .int .i64 m.S.e, .bool m.W.s, .slice m.W.A m.W.n m.W.c, .int .i64 m.W.e, .bool m.C.s, .slice m.C.A m.C.n m.C.c, .int .i64 m.C.e, .bool m.A.s, .slice m.A.A m.A.n m.A.c, .int .i64 m.A.e]] w fun e w' => ∃ k s : Mv, e = .returned (.tuple #[.agg #[.bool k.S.s, .slice k.S.A k.S.n k.S.c, .int .i64 k.S.e, .bool k.W.s, .slice k.W.A k.W.n k.W.c, .int .i64 k.W.e, .bool k.C.s, .slice k.C.A k.C.n k.C.c, .int .i64 k.C.e, .bool k.A.s, .slice k.A.A k.A.n k.A.c, .int .i64 k.A.e], .agg #[.bool s.S.s, .slice s.S.A s.S.n s.S.c, .int .i64 s.S.e, .bool s.W.s, .slice s.W.A s.W.n s.W.c, .int .i64 s.W.e, .bool s.C.s, .slice s.C.A s.C.n s.C.c, .int .i64 s.C.e, .bool s.A.s, .slice s.A.A s.A.n s.A.c, .int .i64 s.A.e], .int .i64 code]) ∧ Below w.heap.size w w' ∧ IsM kR k ∧ IsM sR s ∧ ∃ B, w.heap.size ≤ B ∧ B ≤ w'.heap.size ∧ MRows w' w.heap.size B k ∧ MRows w' B w'.heap.size s := by
 generalize hw1 : (((w.alloc (.cells #[.bool m.S.s, .slice m.S.A m.S.n m.S.c, .int .i64 m.S.e, .bool m.W.s, .slice m.W.A m.W.n m.W.c, .int .i64 m.W.e, .bool m.C.s, .slice m.C.A m.C.n m.C.c, .int .i64 m.C.e, .bool m.A.s, .slice m.A.A m.A.n m.A.c, .int .i64 m.A.e] 26)).alloc (.cells #[.bool false, .slice none 0 0, .int .i64 0, .bool false, .slice none 0 0, .int .i64 0, .bool false, .slice none 0 0, .int .i64 0, .bool false, .slice none 0 0, .int .i64 0] 26)).alloc (.cells #[.bool false, .slice none 0 0, .int .i64 0, .bool false, .slice none 0 0, .int .i64 0, .bool false, .slice none 0 0, .int .i64 0, .bool false, .slice none 0 0, .int .i64 0] 26)).alloc (.cells #[.bool m.S.s, .slice m.S.A m.S.n m.S.c, .int .i64 m.S.e, .bool m.W.s, .slice m.W.A m.W.n m.W.c, .int .i64 m.W.e, .bool m.C.s, .slice m.C.A m.C.n m.C.c, .int .i64 m.C.e, .bool m.A.s, .slice m.A.A m.A.n m.A.c, .int .i64 m.A.e] 26) = w1
 obtain ⟨⟨hM, hZ, hY, hA⟩, hBL, lo1, hi1⟩ := boxes4 w _ _ _ _ hw1
 replace hM : MBox w1 w.heap.size m := hM
 replace hZ : MBox w1 (w.heap.size + 1) ZM := hZ
 replace hY : MBox w1 (w.heap.size + 1 + 1) ZM := hY
 replace hA : MBox w1 (w.heap.size + 1 + 1 + 1) m := hA
 replace hBL : Below w.heap.size w w1 := hBL
 have Ra : MRows w1 0 w1.heap.size m := hR.on hBL
 have tT := hT.below hBL hT.lt
 have g0 := hT.lt
 have HR := Lib.hid hg
 have mK := Lib.hid (give_may hR hg)
 clear hg
 obtain ⟨b, hb⟩ : ∃ b, badS [m] = b := ⟨_, rfl⟩
 have HB := Lib.hid hb
 clear hb
 have M0 : MBox (w.alloc (.cells #[.bool m.S.s, .slice m.S.A m.S.n m.S.c, .int .i64 m.S.e, .bool m.W.s, .slice m.W.A m.W.n m.W.c, .int .i64 m.W.e, .bool m.C.s, .slice m.C.A m.C.n m.C.c, .int .i64 m.C.e, .bool m.A.s, .slice m.A.A m.A.n m.A.c, .int .i64 m.A.e] 26)) w.heap.size m := heap_alloc_last _ _
 obtain ⟨⟨y0, y1, y2, y3, y4, y5, y6, y7, y8, y9, y10, y11⟩, yf⟩ := MBox.cells M0
 have M0' : MBox (((w.alloc (.cells #[.bool m.S.s, .slice m.S.A m.S.n m.S.c, .int .i64 m.S.e, .bool m.W.s, .slice m.W.A m.W.n m.W.c, .int .i64 m.W.e, .bool m.C.s, .slice m.C.A m.C.n m.C.c, .int .i64 m.C.e, .bool m.A.s, .slice m.A.A m.A.n m.A.c, .int .i64 m.A.e] 26)).alloc (.cells #[.bool false, .slice none 0 0, .int .i64 0, .bool false, .slice none 0 0, .int .i64 0, .bool false, .slice none 0 0, .int .i64 0, .bool false, .slice none 0 0, .int .i64 0] 26)).alloc (.cells #[.bool false, .slice none 0 0, .int .i64 0, .bool false, .slice none 0 0, .int .i64 0, .bool false, .slice none 0 0, .int .i64 0, .bool false, .slice none 0 0, .int .i64 0] 26)) w.heap.size m := (Below.heap_alloc _ _ _ (by simp <;> omega)).trans ((Below.heap_alloc _ _ _ (by simp)).trans M0)
 clear y0 y1 y2 y3 y4 y5 y6 y7 y8 y9 y10 y11 yf M0
 obtain ⟨⟨y0, y1, y2, y3, y4, y5, y6, y7, y8, y9, y10, y11⟩, yf⟩ := MBox.cells M0'
 go_enter Tryd.func11, Tryd.ntmps11
 go_wp2_with fail
 clear y0 y1 y2 y3 y4 y5 y6 y7 y8 y9 y10 y11 yf M0'
 try clear hw1
 refine (faulty_any w1 (some ⟨w.heap.size + 1 + 1 + 1, 0, none⟩) 1 1 [m] (lm_one hA Ra) (by decide) b HB.out).mono ?_
 rintro e' w_1 ⟨rfl, hB⟩
 have lw_1 : w1.heap.size ≤ w_1.heap.size := hB.size
 replace hM := box_on hM hB (by omega)
 replace hZ := box_on hZ hB (by omega)
 replace hY := box_on hY hB (by omega)
 replace Ra := MRows.on Ra hB
 replace hBL := hBL.trans (hB.mono (by omega))
 replace tT := tT.below hB tT.lt
 clear hB
 clear hA
 cases b
 rotate_left
 · skip
   have hcode : ((zR, zR), (8 : Int)) = ((kR, sR), code) := by
    rw [← HR.out]
    unfold giveM
    rw [if_pos HB.out]
   injection hcode with h1 h2
   injection h1 with h1 h3
   subst h1 h2 h3
   obtain ⟨⟨q_2_0, q_2_1, q_2_2, q_2_3, q_2_4, q_2_5, q_2_6, q_2_7, q_2_8, q_2_9, q_2_10, q_2_11⟩, q_2f⟩ := MBox.cells hZ
   obtain ⟨⟨q_3_0, q_3_1, q_3_2, q_3_3, q_3_4, q_3_5, q_3_6, q_3_7, q_3_8, q_3_9, q_3_10, q_3_11⟩, q_3f⟩ := MBox.cells hY
   go_wp2
   obtain ⟨U1, M1, hc1, hM1, hX1, hb1, hf1, _, _⟩ := zero_to hZ
   rw [hc1]
   obtain ⟨U, M, hc2, hMe, hX2, hb2, hf2, _, _⟩ := zero_to (show MBox U1 (w.heap.size + 1 + 1) _ from (hf1 _ (by omega)).trans hY)
   rw [hc2]
   replace hX1 : MBox U (w.heap.size + 1) M := by rw [hMe, ← hM1]; exact (hf2 _ (by omega)).trans hX1
   have hQ := hb2 _ _ (hb1 _ _ hBL (by omega)) (by omega)
   clear q_2_0 q_2_1 q_2_2 q_2_3 q_2_4 q_2_5 q_2_6 q_2_7 q_2_8 q_2_9 q_2_10 q_2_11 q_2f q_3_0 q_3_1 q_3_2 q_3_3 q_3_4 q_3_5 q_3_6 q_3_7 q_3_8 q_3_9 q_3_10 q_3_11 q_3f
   clear hc1 hc2
   obtain ⟨⟨k0, k1, k2, k3, k4, k5, k6, k7, k8, k9, k10, k11⟩, kf⟩ := MBox.cells hX1
   obtain ⟨⟨y0, y1, y2, y3, y4, y5, y6, y7, y8, y9, y10, y11⟩, yf⟩ := MBox.cells hX2
   refine bodyPost_ret (v := .tuple #[.agg #[.bool M.S.s, .slice M.S.A M.S.n M.S.c, .int .i64 M.S.e, .bool M.W.s, .slice M.W.A M.W.n M.W.c, .int .i64 M.W.e, .bool M.C.s, .slice M.C.A M.C.n M.C.c, .int .i64 M.C.e, .bool M.A.s, .slice M.A.A M.A.n M.A.c, .int .i64 M.A.e], .agg #[.bool M.S.s, .slice M.S.A M.S.n M.S.c, .int .i64 M.S.e, .bool M.W.s, .slice M.W.A M.W.n M.W.c, .int .i64 M.W.e, .bool M.C.s, .slice M.C.A M.C.n M.C.c, .int .i64 M.C.e, .bool M.A.s, .slice M.A.A M.A.n M.A.c, .int .i64 M.A.e], .int .i64 8]) (by simp [results, Tryd.results11, go_sem, k0, k1, k2, k3, k4, k5, k6, k7, k8, k9, k10, k11, y0, y1, y2, y3, y4, y5, y6, y7, y8, y9, y10, y11]) rfl ⟨M, M, rfl, hQ, ?_⟩
   rw [hMe]
   exact ⟨IsM.zero, IsM.zero, w.heap.size, Nat.le_refl _, hQ.size, ZM_rows .., ZM_rows ..⟩
 · skip
   have hSH := badS_one.1 HB.out
   by_cases hn : m.W.n = 0
   · skip
     have hcode : ((zR, zR), (6 : Int)) = ((kR, sR), code) := by
      rw [← HR.out]
      unfold giveM
      rw [if_neg (by rw [HB.out]; simp), if_pos hn]
     injection hcode with h1 h2
     injection h1 with h1 h3
     subst h1 h2 h3
     have HN := Lib.hid hn
     clear hn hSH HR
     obtain ⟨⟨q_4_0, q_4_1, q_4_2, q_4_3, q_4_4, q_4_5, q_4_6, q_4_7, q_4_8, q_4_9, q_4_10, q_4_11⟩, q_4f⟩ := MBox.cells hM
     go_wp2_with fail
     refine (none_any w_1 m.W.s m.W.A m.W.n m.W.c m.W.e true (decide_eq_true HN.out)).mono ?_
     rintro e' w_5 ⟨rfl, hB⟩
     clear q_4_0 q_4_1 q_4_2 q_4_3 q_4_4 q_4_5 q_4_6 q_4_7 q_4_8 q_4_9 q_4_10 q_4_11 q_4f
     have lw_5 : w_1.heap.size ≤ w_5.heap.size := hB.size
     replace hM := box_on hM hB (by omega)
     replace hZ := box_on hZ hB (by omega)
     replace hY := box_on hY hB (by omega)
     replace Ra := MRows.on Ra hB
     replace hBL := hBL.trans (hB.mono (by omega))
     replace tT := tT.below hB tT.lt
     clear hB
     obtain ⟨⟨q_6_0, q_6_1, q_6_2, q_6_3, q_6_4, q_6_5, q_6_6, q_6_7, q_6_8, q_6_9, q_6_10, q_6_11⟩, q_6f⟩ := MBox.cells hZ
     obtain ⟨⟨q_7_0, q_7_1, q_7_2, q_7_3, q_7_4, q_7_5, q_7_6, q_7_7, q_7_8, q_7_9, q_7_10, q_7_11⟩, q_7f⟩ := MBox.cells hY
     go_wp2
     obtain ⟨U1, M1, hc1, hM1, hX1, hb1, hf1, _, _⟩ := zero_to hZ
     rw [hc1]
     obtain ⟨U, M, hc2, hMe, hX2, hb2, hf2, _, _⟩ := zero_to (show MBox U1 (w.heap.size + 1 + 1) _ from (hf1 _ (by omega)).trans hY)
     rw [hc2]
     replace hX1 : MBox U (w.heap.size + 1) M := by rw [hMe, ← hM1]; exact (hf2 _ (by omega)).trans hX1
     have hQ := hb2 _ _ (hb1 _ _ hBL (by omega)) (by omega)
     clear q_6_0 q_6_1 q_6_2 q_6_3 q_6_4 q_6_5 q_6_6 q_6_7 q_6_8 q_6_9 q_6_10 q_6_11 q_6f q_7_0 q_7_1 q_7_2 q_7_3 q_7_4 q_7_5 q_7_6 q_7_7 q_7_8 q_7_9 q_7_10 q_7_11 q_7f
     clear hc1 hc2
     obtain ⟨⟨k0, k1, k2, k3, k4, k5, k6, k7, k8, k9, k10, k11⟩, kf⟩ := MBox.cells hX1
     obtain ⟨⟨y0, y1, y2, y3, y4, y5, y6, y7, y8, y9, y10, y11⟩, yf⟩ := MBox.cells hX2
     refine bodyPost_ret (v := .tuple #[.agg #[.bool M.S.s, .slice M.S.A M.S.n M.S.c, .int .i64 M.S.e, .bool M.W.s, .slice M.W.A M.W.n M.W.c, .int .i64 M.W.e, .bool M.C.s, .slice M.C.A M.C.n M.C.c, .int .i64 M.C.e, .bool M.A.s, .slice M.A.A M.A.n M.A.c, .int .i64 M.A.e], .agg #[.bool M.S.s, .slice M.S.A M.S.n M.S.c, .int .i64 M.S.e, .bool M.W.s, .slice M.W.A M.W.n M.W.c, .int .i64 M.W.e, .bool M.C.s, .slice M.C.A M.C.n M.C.c, .int .i64 M.C.e, .bool M.A.s, .slice M.A.A M.A.n M.A.c, .int .i64 M.A.e], .int .i64 6]) (by simp [results, Tryd.results11, go_sem, k0, k1, k2, k3, k4, k5, k6, k7, k8, k9, k10, k11, y0, y1, y2, y3, y4, y5, y6, y7, y8, y9, y10, y11]) rfl ⟨M, M, rfl, hQ, ?_⟩
     rw [hMe]
     exact ⟨IsM.zero, IsM.zero, w.heap.size, Nat.le_refl _, hQ.size, ZM_rows .., ZM_rows ..⟩
   · skip
     have hS : splitM m = ((kR, sR), code) := by
      rw [← HR.out]
      unfold giveM
      rw [if_neg (by rw [HB.out]; simp), if_neg hn]
     have HN := Lib.hid hn
     have HS := Lib.hid hS
     clear hn hSH hS HR
     obtain ⟨⟨q_8_0, q_8_1, q_8_2, q_8_3, q_8_4, q_8_5, q_8_6, q_8_7, q_8_8, q_8_9, q_8_10, q_8_11⟩, q_8f⟩ := MBox.cells hM
     go_wp2_with fail
     refine (none_any w_1 m.W.s m.W.A m.W.n m.W.c m.W.e false (decide_eq_false HN.out)).mono ?_
     rintro e' w_9 ⟨rfl, hB⟩
     clear q_8_0 q_8_1 q_8_2 q_8_3 q_8_4 q_8_5 q_8_6 q_8_7 q_8_8 q_8_9 q_8_10 q_8_11 q_8f
     have lw_9 : w_1.heap.size ≤ w_9.heap.size := hB.size
     replace hM := box_on hM hB (by omega)
     replace hZ := box_on hZ hB (by omega)
     replace hY := box_on hY hB (by omega)
     replace Ra := MRows.on Ra hB
     replace hBL := hBL.trans (hB.mono (by omega))
     replace tT := tT.below hB tT.lt
     clear hB
     obtain ⟨⟨q_10_0, q_10_1, q_10_2, q_10_3, q_10_4, q_10_5, q_10_6, q_10_7, q_10_8, q_10_9, q_10_10, q_10_11⟩, q_10f⟩ := MBox.cells hM
     go_wp2_with fail
     refine (MSplit_num w_9 m Ra tT kR sR code HS.out).mono ?_
     rintro e' w_11 ⟨k0, s0, rfl, hB, hsC, is, ik, B, lb1, lb2, Rs, Rk⟩
     clear q_10_0 q_10_1 q_10_2 q_10_3 q_10_4 q_10_5 q_10_6 q_10_7 q_10_8 q_10_9 q_10_10 q_10_11 q_10f
     have lw_11 : w_9.heap.size ≤ w_11.heap.size := hB.size
     replace hM := box_on hM hB (by omega)
     replace hZ := box_on hZ hB (by omega)
     replace hY := box_on hY hB (by omega)
     replace Ra := MRows.on Ra hB
     replace hBL := hBL.trans (hB.mono (by omega))
     replace tT := tT.below hB tT.lt
     clear hsC
     have nk := isM_n Rk ik mK.out.1
     have ns := isM_n Rs is mK.out.2
     replace is := Lib.hid is
     replace ik := Lib.hid ik
     clear hB
     obtain ⟨⟨q_12_0, q_12_1, q_12_2, q_12_3, q_12_4, q_12_5, q_12_6, q_12_7, q_12_8, q_12_9, q_12_10, q_12_11⟩, q_12f⟩ := MBox.cells hZ
     obtain ⟨⟨q_13_0, q_13_1, q_13_2, q_13_3, q_13_4, q_13_5, q_13_6, q_13_7, q_13_8, q_13_9, q_13_10, q_13_11⟩, q_13f⟩ := MBox.cells hY
     go_wp2_with fail
     obtain ⟨U1, hc1, hX1, hb1, hf1, l1_, l1'⟩ := all_to hZ k0
     rw [hc1]
     obtain ⟨U2, hc2, hX2, hb2, hf2, l2_, l2'⟩ := all_to (show MBox U1 (w.heap.size + 1 + 1) ZM from (hf1 _ (by omega)).trans hY) s0
     rw [hc2]
     clear q_12_0 q_12_1 q_12_2 q_12_3 q_12_4 q_12_5 q_12_6 q_12_7 q_12_8 q_12_9 q_12_10 q_12_11 q_12f q_13_0 q_13_1 q_13_2 q_13_3 q_13_4 q_13_5 q_13_6 q_13_7 q_13_8 q_13_9 q_13_10 q_13_11 q_13f
     replace hX1 : MBox U2 (w.heap.size + 1) k0 := (hf2 _ (by omega)).trans hX1
     have hbL := hb2 _ _ (hb1 _ _ hBL (by omega)) (by omega)
     have RO : MRows U2 0 U2.heap.size k0 := (rows_rng Rk (w' := U2) (fun b h1 h2 => (hf2 b (by omega)).trans (hf1 b (by omega)))).more (Nat.zero_le _) (by omega)
     have RK : MRows U2 0 U2.heap.size s0 := (rows_rng Rs (w' := U2) (fun b h1 h2 => (hf2 b (by omega)).trans (hf1 b (by omega)))).more (Nat.zero_le _) (by omega)
     clear hc1 hc2 hb1 hb2 hf1 hf2 hZ hY hM Ra tT Rk Rs hBL
     refine region_E (fun v => MBox v (w.heap.size + 1 + 1) s0) [6] (m := 8) (L := #[zF,zF,zF,zF,zF,zF,zF,zF]) (by kernel_rfl) (by rfl) (by rfl) ?_
     have hB : Below U2.heap.size U2 U2.drew := (Below.refl _ _).drew
     replace RO : MRows U2.drew 0 U2.drew.heap.size k0 := RO.on hB
     replace RK : MRows U2.drew 0 U2.drew.heap.size s0 := RK.on hB
     have b_ := hbL.trans (hB.mono hbL.size)
     have lw0 : w.heap.size ≤ U2.heap.size := hbL.size
     have l2 : U2.heap.size ≤ U2.drew.heap.size := hB.size
     replace hX1 : MBox U2.drew (w.heap.size + 1) k0 := hX1
     replace hX2 : MBox U2.drew (w.heap.size + 1 + 1) s0 := hX2
     clear hB
     refine readE (i := 2) (L := #[zF,zF,zT,zF,zF,zF,zF,zF]) (v := .agg #[.bool s0.S.s, .slice s0.S.A s0.S.n s0.S.c, .int .i64 s0.S.e, .bool s0.W.s, .slice s0.W.A s0.W.n s0.W.c, .int .i64 s0.W.e, .bool s0.C.s, .slice s0.C.A s0.C.n s0.C.c, .int .i64 s0.C.e, .bool s0.A.s, .slice s0.A.A s0.A.n s0.A.c, .int .i64 s0.A.e]) rfl (by rfl) (by kernel_rfl) (by kernel_rfl) (by kernel_rfl) (fun _ _ _ h => h) (by assumption) (by rfl) ?yx2_ ?zx2_
     case yx2_ =>
      intro w' h1
      obtain ⟨⟨k0, k1, k2, k3, k4, k5, k6, k7, k8, k9, k10, k11⟩, kf⟩ := MBox.cells h1
      go_simp
     try simp only [Act.put, zp]
     refine zE 4 #[zF,zF,zT,zF,zT,zF,zF,zF] ?_ rfl ?hy19 ?rest19
     case hy19 => intro w; go_simp; (try with_reducible rfl)
     try simp only [Act.put, zp]
     generalize U2.drew = w2 at *
     obtain ⟨⟨k0, k1, k2, k3, k4, k5, k6, k7, k8, k9, k10, k11⟩, kf⟩ := MBox.cells hX1
     refine stepK (i := 0) (L := #[zT,zF,zT,zF,zT,zF,zF,zF]) rfl (by rfl) (by kernel_rfl) (by rfl) (fun K hK => ?_)
     go_simp
     refine hK _ _ ⟨fun _ h => h, ?_⟩
     clear hK K k0 k1 k2 k3 k4 k5 k6 k7 k8 k9 k10 k11 kf
     try simp only [Act.put, zp]
     refine stepK (i := 1) (L := #[zT,zT,zT,zF,zT,zF,zF,zF]) rfl (by rfl) (by kernel_rfl) (by rfl) (fun K hK => ?_)
     go_simp
     go_at_call 37
     refine (MTwin_any w2 k0 RO nk).mono ?_
     rintro e' w3 ⟨o, rfl, hto, hB, Ro⟩
     replace hto := Lib.hid hto
     have l3 := hB.size
     have lx := lt_of_heap hX2
     replace hX1 := box_on hX1 hB (by omega)
     replace hX2 := box_on hX2 hB lx
     replace RK := RK.on hB
     replace b_ := b_.trans (hB.mono (by omega))
     clear hB RO nk
     refine hK _ _ ⟨fun _ _ => hX2, ?_⟩
     clear hK K
     try simp only [Act.put, zp]
     refine stepK (i := 3) (L := #[zT,zT,zT,zT,zT,zF,zF,zF]) rfl (by rfl) (by kernel_rfl) (by rfl) (fun K hK => ?_)
     go_simp
     go_at_call 37
     refine (MTwin_any w3 s0 RK ns).mono ?_
     rintro e' w4 ⟨k, rfl, htk, hB, Rk⟩
     replace htk := Lib.hid htk
     have l4 := hB.size
     have hO3 : MBox w4 (w.heap.size + 1) k0 := box_on hX1 hB (by omega)
     have hY3 : MBox w4 (w.heap.size + 1 + 1) s0 := box_on hX2 hB (by omega)
     replace Ro := Ro.below hB (Nat.le_refl _)
     replace b_ := b_.trans (hB.mono (by omega))
     clear hB RK ns hX1 hX2
     refine hK _ _ ⟨fun _ _ => hY3, ?_⟩
     clear hK K
     try simp only [Act.put, zp]
     obtain ⟨⟨k0, k1, k2, k3, k4, k5, k6, k7, k8, k9, k10, k11⟩, kf⟩ := MBox.cells hO3
     refine stepK (i := 5) (L := #[zT,zT,zT,zT,zT,zT,zF,zF]) rfl (by rfl) (by kernel_rfl) (by rfl) (fun K hK => ?_)
     go_simp
     obtain ⟨w5, hc_, hX, hb_, hf_, l5, l5'⟩ := all_to hO3 o
     rw [hc_]
     clear hc_ k0 k1 k2 k3 k4 k5 k6 k7 k8 k9 k10 k11 kf
     replace hY3 : MBox w5 (w.heap.size + 1 + 1) s0 := (hf_ _ (by omega)).trans hY3
     refine hK _ _ ⟨fun _ _ => hY3, ?_⟩
     clear hK K
     try simp only [Act.put, zp]
     replace b_ := hb_ _ _ b_ (by omega)
     replace Ro := rows_rng Ro (w' := w5) (fun b h1 h2 => hf_ b (by omega))
     replace Rk := rows_rng Rk (w' := w5) (fun b h1 h2 => hf_ b (by omega))
     clear hb_ hf_ hO3
     obtain ⟨⟨k0, k1, k2, k3, k4, k5, k6, k7, k8, k9, k10, k11⟩, kf⟩ := MBox.cells hY3
     refine stepK (i := 6) (L := #[zT,zT,zT,zT,zT,zT,zT,zF]) rfl (by rfl) (by kernel_rfl) (by rfl) (fun K hK => ?_)
     go_simp
     obtain ⟨w6, hc_, hX2, hb_, hf_, l6, l6'⟩ := all_to hY3 k
     rw [hc_]
     clear hc_ k0 k1 k2 k3 k4 k5 k6 k7 k8 k9 k10 k11 kf
     refine hK _ _ ⟨fun h => absurd h (by decide), ?_⟩
     clear hK K
     try simp only [Act.put, zp]
     replace b_ := hb_ _ _ b_ (by omega)
     replace hX : MBox w6 (w.heap.size + 1) o := (hf_ _ (by omega)).trans hX
     replace Ro := rows_rng Ro (w' := w6) (fun b h1 h2 => hf_ b (by omega))
     replace Rk := rows_rng Rk (w' := w6) (fun b h1 h2 => hf_ b (by omega))
     clear hb_ hf_ hY3
     refine zE 7 #[zT,zT,zT,zT,zT,zT,zT,zT] ?_ rfl ?hy25 ?rest25
     case hy25 => intro w; go_simp; (try with_reducible rfl)
     try simp only [Act.put, zp]
     refine doneE (by kernel_rfl) ?_ _
     go_wp2
     obtain ⟨⟨k0, k1, k2, k3, k4, k5, k6, k7, k8, k9, k10, k11⟩, kf⟩ := MBox.cells hX
     obtain ⟨⟨y0, y1, y2, y3, y4, y5, y6, y7, y8, y9, y10, y11⟩, yf⟩ := MBox.cells hX2
     exact bodyPost_ret (v := .tuple #[.agg #[.bool o.S.s, .slice o.S.A o.S.n o.S.c, .int .i64 o.S.e, .bool o.W.s, .slice o.W.A o.W.n o.W.c, .int .i64 o.W.e, .bool o.C.s, .slice o.C.A o.C.n o.C.c, .int .i64 o.C.e, .bool o.A.s, .slice o.A.A o.A.n o.A.c, .int .i64 o.A.e], .agg #[.bool k.S.s, .slice k.S.A k.S.n k.S.c, .int .i64 k.S.e, .bool k.W.s, .slice k.W.A k.W.n k.W.c, .int .i64 k.W.e, .bool k.C.s, .slice k.C.A k.C.n k.C.c, .int .i64 k.C.e, .bool k.A.s, .slice k.A.A k.A.n k.A.c, .int .i64 k.A.e], .int .i64 code]) (by simp [results, Tryd.results11, go_sem, k0, k1, k2, k3, k4, k5, k6, k7, k8, k9, k10, k11, y0, y1, y2, y3, y4, y5, y6, y7, y8, y9, y10, y11]) rfl ⟨o, k, rfl, b_, ik.out.twin hto.out, is.out.twin htk.out, w3.heap.size, by omega, by omega, Ro.more (by omega) (Nat.le_refl _), Rk.more (Nat.le_refl _) (by omega)⟩
end Ma
end Go.Proofs.YtbbnbgllgomolaaDoor