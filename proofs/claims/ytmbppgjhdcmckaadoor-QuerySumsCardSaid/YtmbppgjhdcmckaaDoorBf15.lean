/- push.both$1: a walk. -/
/- push.both$1, an error: walks. -/
/- push.both$1: whatever comes of the two calls; small laws for push.Take. -/
/- Shares' means, and what they lie between, in numbers. No program in sight. -/
/- RegionE: ways that meet: what stands where they meet is said once, and walked once. No program in sight. -/
/- How two dyads stand, in a program without the table (printed by a program of mine). -/
import Derived.Test.YtmbppgjhdcmckaaDoorBf14
import Derived.Test.YtmbppgjhdcmckaaDoorBf03
import Derived.Test.YtmbppgjhdcmckaaDoorBf10
import Derived.Test.YtmbppgjhdcmckaaDoorBf09
import Derived.Test.YtmbppgjhdcmckaaDoorBf08
namespace Go.Proofs.YtmbppgjhdcmckaaDoor
open Go.RowKit
namespace Dy
open Dp
def Held2 (a b : Nat) (x y : Obj) (v : World) : Prop := v.heap[a]? = some x ∧ v.heap[b]? = some y
set_option maxHeartbeats 6400000 in
set_option maxRecDepth 100000 in
/-- push.both: what comes of two calls, where both are well. -/
theorem both1_ok (w : World) (s1 s2 : Bool) (A1 A2 : Option Addr) (n1 c1 n2 c2 : Nat) (e1 e2 : Int) (ge gd : Nat) (he : ge < w.heap.size) (hd : gd < w.heap.size)
  (E : w.heap[ge]? = some (.cells #[.int .i64 0] 33 (0, 0))) (D : w.heap[gd]? = some (.cells #[.bool s1, .slice A1 n1 c1, .int .i64 e1] 24 (0, 0))) :
  Calls Tryd.prog 60 #[.agg #[.bool s2, .slice A2 n2 c2, .int .i64 e2], .int .i64 0, .pointer (some ⟨ge, 0, none⟩), .pointer (some ⟨gd, 0, none⟩)] w fun ev w' => ev = .returned (.tuple #[.agg #[.bool s1, .slice A1 n1 c1, .int .i64 e1], .agg #[.bool s2, .slice A2 n2 c2, .int .i64 e2], .int .i64 0]) ∧ Below w.heap.size w w' := by
 generalize hw : ((w.alloc (.cells #[.bool s2, .slice A2 n2 c2, .int .i64 e2] 24)).alloc (.cells #[.bool false, .slice none 0 0, .int .i64 0] 24)).alloc (.cells #[.bool false, .slice none 0 0, .int .i64 0] 24) = w1
 obtain ⟨B4, B6, B7, b1, l1, l2⟩ := boxes3R w _ _ _ hw
 have E1 := (b1.block ge he).trans E
 have D1 := (b1.block gd hd).trans D
 obtain ⟨k1, k2⟩ := Ma.cells1 E1
 go_enter Tryd.func60, Tryd.ntmps60
 go_wp2_with fail
 try clear hw
 refine region_E (Held2 gd w.heap.size (.cells #[.bool s1, .slice A1 n1 c1, .int .i64 e1] 24 (0, 0)) (.cells #[.bool s2, .slice A2 n2 c2, .int .i64 e2] 24 (0, 0))) [] (m := 5) (L := #[zF,zF,zF,zF,zF]) (by kernel_rfl) (by rfl) (by rfl) ?_
 have b2 : Below w.heap.size w w1.drew := b1.drew
 have hS0 : Held2 gd w.heap.size (.cells #[.bool s1, .slice A1 n1 c1, .int .i64 e1] 24 (0, 0)) (.cells #[.bool s2, .slice A2 n2 c2, .int .i64 e2] 24 (0, 0)) w1.drew := ⟨D1, B4⟩
 replace B6 : w1.drew.heap[w.heap.size + 1]? = some (.cells #[.bool false, .slice none 0 0, .int .i64 0] 24 (0, 0)) := B6
 replace B7 : w1.drew.heap[w.heap.size + 1 + 1]? = some (.cells #[.bool false, .slice none 0 0, .int .i64 0] 24 (0, 0)) := B7
 generalize w1.drew = v1 at *
 refine readE (i := 0) (L := #[zT,zF,zF,zF,zF]) (v := .agg #[.bool s1, .slice A1 n1 c1, .int .i64 e1]) rfl (by rfl) (by kernel_rfl) (by kernel_rfl) (by kernel_rfl) (fun _ _ _ h => h) (by assumption) (by rfl) ?ry_1 ?rr_1
 case ry_1 =>
  intro w' h1
  obtain ⟨⟨p0, p1, p2⟩, _⟩ := boxD h1.1
  go_simp
 try simp only [Act.put, zp]
 refine readE (i := 1) (L := #[zT,zT,zF,zF,zF]) (v := .agg #[.bool s2, .slice A2 n2 c2, .int .i64 e2]) rfl (by rfl) (by kernel_rfl) (by kernel_rfl) (by kernel_rfl) (fun _ _ _ h => h) (by assumption) (by rfl) ?ry_2 ?rr_2
 case ry_2 =>
  intro w' h1
  obtain ⟨⟨p0, p1, p2⟩, _⟩ := boxD h1.2
  go_simp
 try simp only [Act.put, zp]
 refine stepK (i := 2) (L := #[zT,zT,zT,zF,zF]) rfl (by rfl) (by kernel_rfl) (by rfl) (fun K hK => ?_)
 obtain ⟨⟨z0, z1, z2⟩, z3, z4, z5⟩ := boxD B6
 obtain ⟨U, hU, hX, hbU, hfU, y1, y2⟩ := zputR B6 (.bool s1) (.slice A1 n1 c1) (.int .i64 e1)
 go_simp
 try rw [hU]
 clear z0 z1 z2 z3 z4 z5 hU
 have hS1 : Held2 gd w.heap.size (.cells #[.bool s1, .slice A1 n1 c1, .int .i64 e1] 24 (0, 0)) (.cells #[.bool s2, .slice A2 n2 c2, .int .i64 e2] 24 (0, 0)) U := ⟨(hfU _ (by omega)).trans hS0.1, (hfU _ (by omega)).trans hS0.2⟩
 have b3 := hbU _ _ b2 (show w.heap.size ≤ w.heap.size + 1 by omega)
 replace B7 := (hfU (w.heap.size + 1 + 1) (by omega)).trans B7
 refine hK _ _ ⟨fun _ _ => hS1, ?_⟩
 clear hK K hfU hbU B6 b2 hS0
 try simp only [Act.put, zp]
 refine stepK (i := 3) (L := #[zT,zT,zT,zT,zF]) rfl (by rfl) (by kernel_rfl) (by rfl) (fun K hK => ?_)
 obtain ⟨⟨z0, z1, z2⟩, z3, z4, z5⟩ := boxD B7
 obtain ⟨U2, hU, hX2, hbU, hfU, y3, y4⟩ := zputR B7 (.bool s2) (.slice A2 n2 c2) (.int .i64 e2)
 go_simp
 try rw [hU]
 clear z0 z1 z2 z3 z4 z5 hU
 have hS2 : Held2 gd w.heap.size (.cells #[.bool s1, .slice A1 n1 c1, .int .i64 e1] 24 (0, 0)) (.cells #[.bool s2, .slice A2 n2 c2, .int .i64 e2] 24 (0, 0)) U2 := ⟨(hfU _ (by omega)).trans hS1.1, (hfU _ (by omega)).trans hS1.2⟩
 have b4 := hbU _ _ b3 (show w.heap.size ≤ w.heap.size + 1 + 1 by omega)
 replace hX := (hfU (w.heap.size + 1) (by omega)).trans hX
 refine hK _ _ ⟨fun _ _ => hS2, ?_⟩
 clear hK K hfU hbU B7 b3 hS1
 try simp only [Act.put, zp]
 refine zE 4 #[zT,zT,zT,zT,zT] ?_ rfl ?hy5 ?rest5
 case hy5 => intro w; go_simp; (try with_reducible rfl)
 try simp only [Act.put, zp]
 refine doneE (by kernel_rfl) ?_ _
 obtain ⟨⟨p0, p1, p2⟩, p3, p4, p5⟩ := boxD hX
 obtain ⟨⟨q0, q1, q2⟩, q3, q4, q5⟩ := boxD hX2
 go_wp2
 exact bodyPost_ret (v := .tuple #[.agg #[.bool s1, .slice A1 n1 c1, .int .i64 e1], .agg #[.bool s2, .slice A2 n2 c2, .int .i64 e2], .int .i64 0]) (by simp [results, Tryd.results60, go_sem, p0, p1, p2, q0, q1, q2]) rfl ⟨rfl, b4⟩
end Dy
end Go.Proofs.YtmbppgjhdcmckaaDoor
namespace Go.Proofs.YtmbppgjhdcmckaaDoor
open Go.RowKit
namespace Dy
open Dp
def Held3 (a b c : Nat) (x y z : Obj) (v : World) : Prop := v.heap[a]? = some x ∧ v.heap[b]? = some y ∧ v.heap[c]? = some z
set_option maxHeartbeats 6400000 in
set_option maxRecDepth 100000 in
/-- push.both: the first one erred. -/
theorem both1_bad1 (w : World) (s1 s2 : Bool) (A1 A2 : Option Addr) (n1 c1 n2 c2 : Nat) (e1 e2 q f : Int) (hq : q ≠ 0) (ge gd : Nat) (he : ge < w.heap.size) (_hd : gd < w.heap.size)
  (E : w.heap[ge]? = some (.cells #[.int .i64 q] 33 (0, 0))) (_D : w.heap[gd]? = some (.cells #[.bool s1, .slice A1 n1 c1, .int .i64 e1] 24 (0, 0))) :
  Calls Tryd.prog 60 #[.agg #[.bool s2, .slice A2 n2 c2, .int .i64 e2], .int .i64 f, .pointer (some ⟨ge, 0, none⟩), .pointer (some ⟨gd, 0, none⟩)] w fun ev w' => ev = .returned (.tuple #[.agg #[.bool false, .slice none 0 0, .int .i64 0], .agg #[.bool false, .slice none 0 0, .int .i64 0], .int .i64 q]) ∧ Below w.heap.size w w' := by
 have hqb : (q == 0) = false := by simpa using hq
 have hqb2 : (q != 0) = true := by simpa using hq
 clear hq
 generalize hw : ((w.alloc (.cells #[.bool s2, .slice A2 n2 c2, .int .i64 e2] 24)).alloc (.cells #[.bool false, .slice none 0 0, .int .i64 0] 24)).alloc (.cells #[.bool false, .slice none 0 0, .int .i64 0] 24) = w1
 obtain ⟨B4, B6, B7, b1, l1, l2⟩ := boxes3R w _ _ _ hw
 have E1 := (b1.block ge he).trans E
 obtain ⟨k1, k2⟩ := Ma.cells1 E1
 go_enter Tryd.func60, Tryd.ntmps60
 go_wp2_with fail
 try clear hw
 clear k1 k2
 refine region_E (Held3 (w.heap.size + 1) (w.heap.size + 1 + 1) ge (.cells #[.bool false, .slice none 0 0, .int .i64 0] 24 (0, 0)) (.cells #[.bool false, .slice none 0 0, .int .i64 0] 24 (0, 0)) (.cells #[.int .i64 q] 33 (0, 0))) [] (m := 6) (L := #[zF,zF,zF,zF,zF,zF]) (by kernel_rfl) (by rfl) (by rfl) ?_
 have b2 : Below w.heap.size w w1.drew := b1.drew
 have hS0 : Held3 (w.heap.size + 1) (w.heap.size + 1 + 1) ge (.cells #[.bool false, .slice none 0 0, .int .i64 0] 24 (0, 0)) (.cells #[.bool false, .slice none 0 0, .int .i64 0] 24 (0, 0)) (.cells #[.int .i64 q] 33 (0, 0)) w1.drew := ⟨B6, B7, E1⟩
 generalize w1.drew = v1 at *
 refine readE (i := 0) (L := #[zT,zF,zF,zF,zF,zF]) (v := .agg #[.bool false, .slice none 0 0, .int .i64 0]) rfl (by rfl) (by kernel_rfl) (by kernel_rfl) (by kernel_rfl) (fun _ _ _ h => h) (by assumption) (by rfl) ?ry_1 ?rr_1
 case ry_1 =>
  intro w' h1
  obtain ⟨⟨p0, p1, p2⟩, _⟩ := boxD h1.1
  go_simp
 try simp only [Act.put, zp]
 refine readE (i := 1) (L := #[zT,zT,zF,zF,zF,zF]) (v := .agg #[.bool false, .slice none 0 0, .int .i64 0]) rfl (by rfl) (by kernel_rfl) (by kernel_rfl) (by kernel_rfl) (fun _ _ _ h => h) (by assumption) (by rfl) ?ry_2 ?rr_2
 case ry_2 =>
  intro w' h1
  obtain ⟨⟨p0, p1, p2⟩, _⟩ := boxD h1.2.1
  go_simp
 try simp only [Act.put, zp]
 refine readE (i := 2) (L := #[zT,zT,zT,zF,zF,zF]) (v := .int .i64 q) rfl (by rfl) (by kernel_rfl) (by kernel_rfl) (by kernel_rfl) (fun _ _ _ h => h) (by assumption) (by rfl) ?ry_3 ?rr_3
 case ry_3 =>
  intro w' h1
  obtain ⟨k1, k2⟩ := Ma.cells1 h1.2.2
  go_simp
 try simp only [Act.put, zp]
 refine stepK (i := 3) (L := #[zT,zT,zT,zT,zF,zF]) rfl (by rfl) (by kernel_rfl) (by rfl) (fun K hK => ?_)
 obtain ⟨⟨z0, z1, z2⟩, z3, z4, z5⟩ := boxD hS0.1
 obtain ⟨U, hU, hX, hbU, hfU, y1, y2⟩ := zputR hS0.1 (.bool false) (.slice none 0 0) (.int .i64 0)
 go_simp
 try rw [hU]
 clear z0 z1 z2 z3 z4 z5 hU
 have b3 := hbU _ _ b2 (show w.heap.size ≤ w.heap.size + 1 by omega)
 have hS1 : Held3 (w.heap.size + 1) (w.heap.size + 1 + 1) ge (.cells #[.bool false, .slice none 0 0, .int .i64 0] 24 (0, 0)) (.cells #[.bool false, .slice none 0 0, .int .i64 0] 24 (0, 0)) (.cells #[.int .i64 q] 33 (0, 0)) U := ⟨hX, (hfU _ (by omega)).trans hS0.2.1, (hfU _ (by omega)).trans hS0.2.2⟩
 refine hK _ _ ⟨fun _ _ => hS1, ?_⟩
 clear hK K hfU hbU b2 hS0 hX
 try simp only [Act.put, zp]
 refine stepK (i := 4) (L := #[zT,zT,zT,zT,zT,zF]) rfl (by rfl) (by kernel_rfl) (by rfl) (fun K hK => ?_)
 obtain ⟨⟨z0, z1, z2⟩, z3, z4, z5⟩ := boxD hS1.2.1
 obtain ⟨U2, hU, hX, hbU, hfU, y3, y4⟩ := zputR hS1.2.1 (.bool false) (.slice none 0 0) (.int .i64 0)
 go_simp
 try rw [hU]
 clear z0 z1 z2 z3 z4 z5 hU
 have b4 := hbU _ _ b3 (show w.heap.size ≤ w.heap.size + 1 + 1 by omega)
 have hS2 : Held3 (w.heap.size + 1) (w.heap.size + 1 + 1) ge (.cells #[.bool false, .slice none 0 0, .int .i64 0] 24 (0, 0)) (.cells #[.bool false, .slice none 0 0, .int .i64 0] 24 (0, 0)) (.cells #[.int .i64 q] 33 (0, 0)) U2 := ⟨(hfU _ (by omega)).trans hS1.1, hX, (hfU _ (by omega)).trans hS1.2.2⟩
 refine hK _ _ ⟨fun _ _ => hS2, ?_⟩
 clear hK K hfU hbU b3 hS1 hX
 try simp only [Act.put, zp]
 refine zE 5 #[zT,zT,zT,zT,zT,zT] ?_ rfl ?hy11 ?rest11
 case hy11 => intro w; go_simp; (try with_reducible rfl)
 try simp only [Act.put, zp]
 refine doneE (by kernel_rfl) ?_ _
 obtain ⟨⟨p0, p1, p2⟩, p3, p4, p5⟩ := boxD hS2.1
 obtain ⟨⟨q0, q1, q2⟩, q3, q4, q5⟩ := boxD hS2.2.1
 go_wp2
 exact bodyPost_ret (v := .tuple #[.agg #[.bool false, .slice none 0 0, .int .i64 0], .agg #[.bool false, .slice none 0 0, .int .i64 0], .int .i64 q]) (by simp [results, Tryd.results60, go_sem, p0, p1, p2, q0, q1, q2]) rfl ⟨rfl, b4⟩
set_option maxHeartbeats 6400000 in
set_option maxRecDepth 100000 in
/-- push.both: the second one erred. -/
theorem both1_bad2 (w : World) (s1 s2 : Bool) (A1 A2 : Option Addr) (n1 c1 n2 c2 : Nat) (e1 e2 q _f : Int) (hq : q ≠ 0) (ge gd : Nat) (he : ge < w.heap.size) (_hd : gd < w.heap.size)
  (E : w.heap[ge]? = some (.cells #[.int .i64 0] 33 (0, 0))) (_D : w.heap[gd]? = some (.cells #[.bool s1, .slice A1 n1 c1, .int .i64 e1] 24 (0, 0))) :
  Calls Tryd.prog 60 #[.agg #[.bool s2, .slice A2 n2 c2, .int .i64 e2], .int .i64 q, .pointer (some ⟨ge, 0, none⟩), .pointer (some ⟨gd, 0, none⟩)] w fun ev w' => ev = .returned (.tuple #[.agg #[.bool false, .slice none 0 0, .int .i64 0], .agg #[.bool false, .slice none 0 0, .int .i64 0], .int .i64 q]) ∧ Below w.heap.size w w' := by
 have hqb : (q == 0) = false := by simpa using hq
 have hqb2 : (q != 0) = true := by simpa using hq
 clear hq
 generalize hw : ((w.alloc (.cells #[.bool s2, .slice A2 n2 c2, .int .i64 e2] 24)).alloc (.cells #[.bool false, .slice none 0 0, .int .i64 0] 24)).alloc (.cells #[.bool false, .slice none 0 0, .int .i64 0] 24) = w1
 obtain ⟨B4, B6, B7, b1, l1, l2⟩ := boxes3R w _ _ _ hw
 have E1 := (b1.block ge he).trans E
 obtain ⟨k1, k2⟩ := Ma.cells1 E1
 go_enter Tryd.func60, Tryd.ntmps60
 go_wp2_with fail
 try clear hw
 clear k1 k2
 refine region_E (Held3 (w.heap.size + 1) (w.heap.size + 1 + 1) ge (.cells #[.bool false, .slice none 0 0, .int .i64 0] 24 (0, 0)) (.cells #[.bool false, .slice none 0 0, .int .i64 0] 24 (0, 0)) (.cells #[.int .i64 0] 33 (0, 0))) [] (m := 6) (L := #[zF,zF,zF,zF,zF,zF]) (by kernel_rfl) (by rfl) (by rfl) ?_
 have b2 : Below w.heap.size w w1.drew := b1.drew
 have hS0 : Held3 (w.heap.size + 1) (w.heap.size + 1 + 1) ge (.cells #[.bool false, .slice none 0 0, .int .i64 0] 24 (0, 0)) (.cells #[.bool false, .slice none 0 0, .int .i64 0] 24 (0, 0)) (.cells #[.int .i64 0] 33 (0, 0)) w1.drew := ⟨B6, B7, E1⟩
 generalize w1.drew = v1 at *
 refine readE (i := 0) (L := #[zT,zF,zF,zF,zF,zF]) (v := .agg #[.bool false, .slice none 0 0, .int .i64 0]) rfl (by rfl) (by kernel_rfl) (by kernel_rfl) (by kernel_rfl) (fun _ _ _ h => h) (by assumption) (by rfl) ?ry_1 ?rr_1
 case ry_1 =>
  intro w' h1
  obtain ⟨⟨p0, p1, p2⟩, _⟩ := boxD h1.1
  go_simp
 try simp only [Act.put, zp]
 refine readE (i := 1) (L := #[zT,zT,zF,zF,zF,zF]) (v := .agg #[.bool false, .slice none 0 0, .int .i64 0]) rfl (by rfl) (by kernel_rfl) (by kernel_rfl) (by kernel_rfl) (fun _ _ _ h => h) (by assumption) (by rfl) ?ry_2 ?rr_2
 case ry_2 =>
  intro w' h1
  obtain ⟨⟨p0, p1, p2⟩, _⟩ := boxD h1.2.1
  go_simp
 try simp only [Act.put, zp]
 refine zE 2 #[zT,zT,zT,zF,zF,zF] ?_ rfl ?hy14 ?rest14
 case hy14 => intro w; go_simp; (try with_reducible rfl)
 try simp only [Act.put, zp]
 refine stepK (i := 3) (L := #[zT,zT,zT,zT,zF,zF]) rfl (by rfl) (by kernel_rfl) (by rfl) (fun K hK => ?_)
 obtain ⟨⟨z0, z1, z2⟩, z3, z4, z5⟩ := boxD hS0.1
 obtain ⟨U, hU, hX, hbU, hfU, y1, y2⟩ := zputR hS0.1 (.bool false) (.slice none 0 0) (.int .i64 0)
 go_simp
 try rw [hU]
 clear z0 z1 z2 z3 z4 z5 hU
 have b3 := hbU _ _ b2 (show w.heap.size ≤ w.heap.size + 1 by omega)
 have hS1 : Held3 (w.heap.size + 1) (w.heap.size + 1 + 1) ge (.cells #[.bool false, .slice none 0 0, .int .i64 0] 24 (0, 0)) (.cells #[.bool false, .slice none 0 0, .int .i64 0] 24 (0, 0)) (.cells #[.int .i64 0] 33 (0, 0)) U := ⟨hX, (hfU _ (by omega)).trans hS0.2.1, (hfU _ (by omega)).trans hS0.2.2⟩
 refine hK _ _ ⟨fun _ _ => hS1, ?_⟩
 clear hK K hfU hbU b2 hS0 hX
 try simp only [Act.put, zp]
 refine stepK (i := 4) (L := #[zT,zT,zT,zT,zT,zF]) rfl (by rfl) (by kernel_rfl) (by rfl) (fun K hK => ?_)
 obtain ⟨⟨z0, z1, z2⟩, z3, z4, z5⟩ := boxD hS1.2.1
 obtain ⟨U2, hU, hX, hbU, hfU, y3, y4⟩ := zputR hS1.2.1 (.bool false) (.slice none 0 0) (.int .i64 0)
 go_simp
 try rw [hU]
 clear z0 z1 z2 z3 z4 z5 hU
 have b4 := hbU _ _ b3 (show w.heap.size ≤ w.heap.size + 1 + 1 by omega)
 have hS2 : Held3 (w.heap.size + 1) (w.heap.size + 1 + 1) ge (.cells #[.bool false, .slice none 0 0, .int .i64 0] 24 (0, 0)) (.cells #[.bool false, .slice none 0 0, .int .i64 0] 24 (0, 0)) (.cells #[.int .i64 0] 33 (0, 0)) U2 := ⟨(hfU _ (by omega)).trans hS1.1, hX, (hfU _ (by omega)).trans hS1.2.2⟩
 refine hK _ _ ⟨fun _ _ => hS2, ?_⟩
 clear hK K hfU hbU b3 hS1 hX
 try simp only [Act.put, zp]
 refine zE 5 #[zT,zT,zT,zT,zT,zT] ?_ rfl ?hy17 ?rest17
 case hy17 => intro w; go_simp; (try with_reducible rfl)
 try simp only [Act.put, zp]
 refine doneE (by kernel_rfl) ?_ _
 obtain ⟨⟨p0, p1, p2⟩, p3, p4, p5⟩ := boxD hS2.1
 obtain ⟨⟨q0, q1, q2⟩, q3, q4, q5⟩ := boxD hS2.2.1
 go_wp2
 exact bodyPost_ret (v := .tuple #[.agg #[.bool false, .slice none 0 0, .int .i64 0], .agg #[.bool false, .slice none 0 0, .int .i64 0], .int .i64 q]) (by simp [results, Tryd.results60, go_sem, p0, p1, p2, q0, q1, q2]) rfl ⟨rfl, b4⟩
end Dy
end Go.Proofs.YtmbppgjhdcmckaaDoor
namespace Go.Proofs.YtmbppgjhdcmckaaDoor
open Go.RowKit
namespace Ma
open Dp Dy
/-- What both tells. -/
def BothR (a b : Dv) (q f : Int) (X Y : Dv) (c : Int) : Prop :=
 (q = 0 ∧ f = 0 ∧ X = a ∧ Y = b ∧ c = 0) ∨ (q ≠ 0 ∧ X = ZM.C ∧ Y = ZM.C ∧ c = q) ∨ (q = 0 ∧ f ≠ 0 ∧ X = ZM.C ∧ Y = ZM.C ∧ c = f)
theorem bothR (a b : Dv) (q f : Int) : ∃ X Y c, BothR a b q f X Y c := by
 by_cases hq : q = 0
 · by_cases hf : f = 0
   · exact ⟨a, b, 0, .inl ⟨hq, hf, rfl, rfl, rfl⟩⟩
   · exact ⟨_, _, f, .inr (.inr ⟨hq, hf, rfl, rfl, rfl⟩)⟩
 · exact ⟨_, _, q, .inr (.inl ⟨hq, rfl, rfl, rfl⟩)⟩
theorem BothR.all {a b : Dv} {q f : Int} {X Y : Dv} {c : Int} (h : BothR a b q f X Y c) {P : Dv → Prop} (ha : P a) (hb : P b) (hz : P ZM.C) : P X ∧ P Y := by
 rcases h with ⟨_, _, rfl, rfl, _⟩ | ⟨_, rfl, rfl, _⟩ | ⟨_, _, rfl, rfl, _⟩
 · exact ⟨ha, hb⟩
 · exact ⟨hz, hz⟩
 · exact ⟨hz, hz⟩
set_option maxHeartbeats 6400000 in
/-- push.both: what comes of two calls. -/
theorem both1_any (w : World) (a b : Dv) (q f : Int) (ge gd : Nat) (he : ge < w.heap.size) (hd : gd < w.heap.size)
  (E : w.heap[ge]? = some (.cells #[.int .i64 q] 33 (0, 0))) (D : w.heap[gd]? = some (.cells #[.bool a.s, .slice a.A a.n a.c, .int .i64 a.e] 24 (0, 0))) (X Y : Dv) (c : Int) (h : BothR a b q f X Y c) :
  Calls Tryd.prog 60 #[.agg #[.bool b.s, .slice b.A b.n b.c, .int .i64 b.e], .int .i64 f, .pointer (some ⟨ge, 0, none⟩), .pointer (some ⟨gd, 0, none⟩)] w fun ev w' => ev = .returned (.tuple #[.agg #[.bool X.s, .slice X.A X.n X.c, .int .i64 X.e], .agg #[.bool Y.s, .slice Y.A Y.n Y.c, .int .i64 Y.e], .int .i64 c]) ∧ Below w.heap.size w w' := by
 rcases h with ⟨rfl, rfl, rfl, rfl, rfl⟩ | ⟨hq, rfl, rfl, rfl⟩ | ⟨rfl, hf, rfl, rfl, rfl⟩
 · exact both1_ok w X.s Y.s X.A Y.A X.n X.c Y.n Y.c X.e Y.e ge gd he hd E D
 · exact both1_bad1 w a.s b.s a.A b.A a.n a.c b.n b.c a.e b.e c f hq ge gd he hd E D
 · exact both1_bad2 w a.s b.s a.A b.A a.n a.c b.n b.c a.e b.e c 0 hf ge gd he hd E D
theorem alloc_d (w : World) : ∃ U, w.alloc (.cells #[.bool false, .slice none 0 0, .int .i64 0] 24) = U ∧ U.heap[w.heap.size]? = some (.cells #[.bool false, .slice none 0 0, .int .i64 0] 24 (0, 0)) ∧ Below w.heap.size w U ∧ w.heap.size < U.heap.size :=
 ⟨_, rfl, heap_alloc_last _ _, (Below.refl _ w).alloc (Nat.le_refl _) _, by simp⟩
/-- A row, in neither of two blocks. -/
def OffD (w : World) (lo g g' : Nat) (d : Dv) : Prop := Ints w lo w.heap.size .u32 d.A d.n d.xs ∧ (0 < d.n → ∀ b off, d.A = some ⟨b, off, none⟩ → b ≠ g ∧ b ≠ g')
theorem OffD.zero (w : World) (lo g g' : Nat) : OffD w lo g g' ZM.C := ⟨Ints.nil_ .., fun h => absurd h (Nat.lt_irrefl 0)⟩
theorem OffD.of {w : World} {lo l h g g' : Nat} {d : Dv} (hI : Ints w l h .u32 d.A d.n d.xs) (hl : lo ≤ l) (hh : h ≤ w.heap.size) (h1 : g < l ∨ h ≤ g) (h2 : g' < l ∨ h ≤ g') : OffD w lo g g' d :=
 ⟨hI.more hl hh, fun h0 b off e => by
  obtain ⟨b', off', e', k1, k2, _⟩ := hI.row h0
  rw [e] at e'
  injection e' with e'
  injection e' with e1 _ _
  subst e1
  exact ⟨by omega, by omega⟩⟩
theorem OffD.far {w w' : World} {lo g g' j : Nat} {d : Dv} (h : OffD w lo g g' d) (hf : ∀ k, k ≠ j → w'.heap[k]? = w.heap[k]?) (hs : w'.heap.size = w.heap.size) (hj : j = g ∨ j = g') : OffD w' lo g g' d :=
 ⟨by rw [hs]; exact ints_off h.1 h.2 hf hj, h.2⟩
end Ma
end Go.Proofs.YtmbppgjhdcmckaaDoor
namespace Go.Proofs.YtmbppgjhdcmckaaDoor
open Go.RowKit
namespace Ma
open Dp Dy
open Classical in
/-- What comes of two numbers; the first error, if there is one. -/
noncomputable def bothD (p q : Dn × Int) : (Dn × Dn) × Int := if p.2 = 0 then (if q.2 = 0 then ((p.1, q.1), 0) else ((Dn.zero, Dn.zero), q.2)) else ((Dn.zero, Dn.zero), p.2)
/-- Down and up. -/
noncomputable def downM (m : Mv) (k : Int) : Dn × Int := toX m.S.s m.S.xs m.S.e m.W.s m.W.xs m.W.e k m.S.s
noncomputable def upM (m : Mv) (k : Int) : Dn × Int := toX m.S.s m.S.xs m.S.e m.W.s m.W.xs m.W.e k (!m.S.s)
open Classical in
/-- A share's mean. -/
noncomputable def meanM (m : Mv) (k : Int) : (Dn × Dn) × Int :=
 if badS [m] = true then ((Dn.zero, Dn.zero), 8) else if k < 0 ∨ 64 < k then ((Dn.zero, Dn.zero), 2) else if m.W.n = 0 then ((Dn.zero, Dn.zero), 6) else bothD (downM m k) (upM m k)
open Classical in
/-- Does a share lie between two values? -/
noncomputable def betweenM (m : Mv) (low high : Int) : Bool × Int :=
 if badS [m] = true then (false, 8) else if low < -2147483647 ∨ 2147483647 < high ∨ high < low then (false, 2) else if m.W.n = 0 then (true, 0) else
  if (bothD (downM m 0) (upM m 0)).2 = 0 then (decide (cmpD (whole low) (bothD (downM m 0) (upM m 0)).1.1 ≤ 0) && decide (cmpD (bothD (downM m 0) (upM m 0)).1.2 (whole high) ≤ 0), 0) else (false, 0)
theorem BothR.two {a b : Dv} {q f : Int} {X Y : Dv} {c : Int} (h : BothR a b q f X Y c) {P Q : Dv → Prop} (ha : P a) (hb : Q b) (hz : P ZM.C) (hz' : Q ZM.C) : P X ∧ Q Y := by
 rcases h with ⟨_, _, rfl, rfl, _⟩ | ⟨_, rfl, rfl, _⟩ | ⟨_, _, rfl, rfl, _⟩
 · exact ⟨ha, hb⟩
 · exact ⟨hz, hz'⟩
 · exact ⟨hz, hz'⟩
end Ma
end Go.Proofs.YtmbppgjhdcmckaaDoor
namespace Go.Proofs.YtmbppgjhdcmckaaDoor
open Go.RowKit
section
variable {P : Program} {os : List Oper} {Q : Exit → Act → World → Prop} {md : Region.Mode} {S : World → Prop} {E : List Nat} {B : Act → World → Prop} {Lf : Array Bool} {m : Nat}
/-- A way that may end where B stands and Lf is listed. -/
def wpAnyC (B : Act → World → Prop) (Lf : Array Bool) (m : Nat) (P : Program) (md : Region.Mode) (ops : Array Oper) (Q : Exit → Act → World → Prop) (S : World → Prop) (E : List Nat) (n : Nat) (L : Array Bool) (a : Act) (w : World) : Prop :=
 (∀ a' w', B a' w' → wpAnyE P md ops Q S E m Lf a' w') → wpAnyE P md ops Q S E n L a w
theorem E_of_C {ops : Array Oper} (B : Act → Act → World → Prop) (Lf : Array Bool) (m : Nat) {k : Nat} {L : Array Bool} {a : Act} {w : World} (h : ∀ a' w', B a a' w' → wpAnyE P md ops Q S E m Lf a' w')
  (hg : wpAnyC (B a) Lf m P md ops Q S E k L a w) : wpAnyE P md ops Q S E k L a w := hg h
theorem leafC {ops : Array Oper} {a : Act} {w : World} (h : B a w) : wpAnyC B Lf m P md ops Q S E m Lf a w := fun hl => hl a w h
theorem pureC {i n : Nat} {oi : Oper} {v : Value} {listed L : Array Bool} {a : Act} {w : World} (hi : os[i]? = some oi) (hL : listed.setIfInBounds i true = L)
  (hs : Region.noSelect os.toArray = true) (hf : Region.free md os.toArray listed i = true) (hr : (Region.ready md os.toArray listed).contains i = true)
  (hQ : ∀ c a w, Q (.panic c) (a.put oi.dst v) w → Q (.panic c) a w) (hw : Region.wanted oi (yielded os.toArray a.tmps) = true) (hy : ∀ w, (execOp a.eval oi).run P w = .ok (.value v) w)
  (h : wpAnyC B Lf m P md os.toArray Q S E n L (a.put oi.dst v) w) : wpAnyC B Lf m P md os.toArray Q S E (n + 1) listed a w := fun hl => pureE hi hL hs hf hr hQ hw hy (h hl)
theorem zC (i : Nat) (L : Array Bool) (v : Value) {n : Nat} {oi : Oper} {listed : Array Bool} {a : Act} {w : World} (hi : os[i]? = some oi) (hy : ∀ w, (execOp a.eval oi).run P w = .ok (.value v) w)
  (h : wpAnyC B Lf m P md os.toArray Q S E n L (a.put oi.dst v) w) (hL : listed.setIfInBounds i true = L := by rfl)
  (hs : Region.noSelect os.toArray = true := by kernel_rfl) (hf : Region.free md os.toArray listed i = true := by kernel_rfl) (hr : (Region.ready md os.toArray listed).contains i = true := by kernel_rfl)
  (hQ : ∀ c a w, Q (.panic c) (a.put oi.dst v) w → Q (.panic c) a w := by exact fun _ _ _ h => h) (hw : Region.wanted oi (yielded os.toArray a.tmps) = true := by rfl) : wpAnyC B Lf m P md os.toArray Q S E (n + 1) listed a w := pureC hi hL hs hf hr hQ hw hy h
theorem stepC {i n : Nat} {oi : Oper} {listed L : Array Bool} {a : Act} {w : World} (hi : os[i]? = some oi) (hL : listed.setIfInBounds i true = L)
  (hr : Region.ready md os.toArray listed = [i]) (hw : Region.wanted oi (yielded os.toArray a.tmps) = true)
  (h : ∀ K' : Act → World → Prop, Shut (∀ a w', ((E.contains i = false → S w → S w') ∧ wpAnyC B Lf m P md os.toArray Q S E n L a w') → K' a w') → Oper.wp P oi a w K' Q) :
  wpAnyC B Lf m P md os.toArray Q S E (n + 1) listed a w := fun hl => stepK hi hL hr hw fun K' hK => h K' fun a w' hh => hK a w' ⟨hh.1, hh.2 hl⟩
theorem stepC2 {i j n : Nat} {oi oj : Oper} {listed Li Lj : Array Bool} {a : Act} {w : World} (hi : os[i]? = some oi) (hj : os[j]? = some oj) (hLi : listed.setIfInBounds i true = Li) (hLj : listed.setIfInBounds j true = Lj)
  (hr : Region.ready md os.toArray listed = [i, j]) (hwi : Region.wanted oi (yielded os.toArray a.tmps) = true) (hwj : Region.wanted oj (yielded os.toArray a.tmps) = true)
  (h : ∀ K' : Act → World → Prop, Shut (∀ a w', ((E.contains i = false → S w → S w') ∧ wpAnyC B Lf m P md os.toArray Q S E n Li a w') → K' a w') → Oper.wp P oi a w K' Q)
  (h' : ∀ K' : Act → World → Prop, Shut (∀ a w', ((E.contains j = false → S w → S w') ∧ wpAnyC B Lf m P md os.toArray Q S E n Lj a w') → K' a w') → Oper.wp P oj a w K' Q) :
  wpAnyC B Lf m P md os.toArray Q S E (n + 1) listed a w := fun hl => stepK2 hi hj hLi hLj hr hwi hwj (fun K' hK => h K' fun a w' hh => hK a w' ⟨hh.1, hh.2 hl⟩) (fun K' hK => h' K' fun a w' hh => hK a w' ⟨hh.1, hh.2 hl⟩)
theorem stepC3 {i j k n : Nat} {oi oj ok : Oper} {listed Li Lj Lk : Array Bool} {a : Act} {w : World} (hi : os[i]? = some oi) (hj : os[j]? = some oj) (hk : os[k]? = some ok) (hLi : listed.setIfInBounds i true = Li) (hLj : listed.setIfInBounds j true = Lj) (hLk : listed.setIfInBounds k true = Lk)
  (hr : Region.ready md os.toArray listed = [i, j, k]) (hwi : Region.wanted oi (yielded os.toArray a.tmps) = true) (hwj : Region.wanted oj (yielded os.toArray a.tmps) = true) (hwk : Region.wanted ok (yielded os.toArray a.tmps) = true)
  (h : ∀ K' : Act → World → Prop, Shut (∀ a w', ((E.contains i = false → S w → S w') ∧ wpAnyC B Lf m P md os.toArray Q S E n Li a w') → K' a w') → Oper.wp P oi a w K' Q)
  (h' : ∀ K' : Act → World → Prop, Shut (∀ a w', ((E.contains j = false → S w → S w') ∧ wpAnyC B Lf m P md os.toArray Q S E n Lj a w') → K' a w') → Oper.wp P oj a w K' Q)
  (h'' : ∀ K' : Act → World → Prop, Shut (∀ a w', ((E.contains k = false → S w → S w') ∧ wpAnyC B Lf m P md os.toArray Q S E n Lk a w') → K' a w') → Oper.wp P ok a w K' Q) :
  wpAnyC B Lf m P md os.toArray Q S E (n + 1) listed a w := fun hl => stepK3 hi hj hk hLi hLj hLk hr hwi hwj hwk (fun K' hK => h K' fun a w' hh => hK a w' ⟨hh.1, hh.2 hl⟩) (fun K' hK => h' K' fun a w' hh => hK a w' ⟨hh.1, hh.2 hl⟩) (fun K' hK => h'' K' fun a w' hh => hK a w' ⟨hh.1, hh.2 hl⟩)
end
end Go.Proofs.YtmbppgjhdcmckaaDoor
namespace Go.Proofs.YtmbppgjhdcmckaaDoor
open Go.RowKit
namespace Dy
open Dp
set_option maxHeartbeats 6400000 in
set_option maxRecDepth 100000 in
/-- dyad.Cmp: dyads that may be. -/
theorem Cmp_okP (w : World) (a b : Dn) (ha : a.May) (hb : b.May) (A1 : Option Addr) (n1 c1 : Nat) (h1 : Ints w 0 w.heap.size .u32 A1 n1 (canon 4294967296 a.m)) (A2 : Option Addr) (n2 c2 : Nat) (h2 : Ints w 0 w.heap.size .u32 A2 n2 (canon 4294967296 b.m)) (z : Int) (h : cmpD a b = z) :
  Calls Tryd.prog 10 #[.agg #[.bool a.neg, .slice A1 n1 c1, .int .i64 a.e], .agg #[.bool b.neg, .slice A2 n2 c2, .int .i64 b.e]] w fun e w' => e = .returned (.tuple #[.int .i64 z, .int .i64 0]) ∧ Below w.heap.size w w' := by
 have hn1 := ints_may h1 ha
 have hn2 := ints_may h2 hb
 have HM1 := Lib.hid (dn_may ha)
 have HM2 := Lib.hid (dn_may hb)
 have hae := ha.2.1
 have hbe := hb.2.1
 obtain ⟨sd1, _, sn1⟩ := canon_spec 4294967296 a.m (by decide)
 obtain ⟨sd2, _, sn2⟩ := canon_spec 4294967296 b.m (by decide)
 have SN1 := Lib.hid sn1
 have SN2 := Lib.hid sn2
 have H := Lib.hid h
 obtain ⟨M, hK⟩ : ∃ M, max a.e b.e = M := ⟨_, rfl⟩
 have HK := Lib.hid hK
 have hK1 : a.e ≤ M := by omega
 have hK2 : b.e ≤ M := by omega
 have hK3 : M ≤ 1024 := by omega
 have hkab : (a.e < b.e ∧ M = b.e) ∨ (¬ a.e < b.e ∧ M = a.e) := by omega
 generalize hm1 : canon 4294967296 a.m = xs1 at *
 generalize hm2 : canon 4294967296 b.m = xs2 at *
 clear h sn1 sn2 hK hm1 hm2
 generalize hw1 : (w.alloc (.cells #[.bool a.neg, .slice A1 n1 c1, .int .i64 a.e] 24)).alloc (.cells #[.bool b.neg, .slice A2 n2 c2, .int .i64 b.e] 24) = w1
 have hs1 : w1.heap.size = w.heap.size + 2 := by rw [← hw1]; simp
 have HS1 := Lib.hid hs1
 have hB1 : Below w.heap.size w w1 := by rw [← hw1]; exact ((Below.refl _ w).alloc (Nat.le_refl _) _).alloc (by simp) _
 have hb1 : w1.heap[w.heap.size]? = some (.cells #[.bool a.neg, .slice A1 n1 c1, .int .i64 a.e] 24 (0, 0)) := by
  rw [← hw1, Below.heap_alloc _ _ _ (by simp)]
  exact heap_alloc_last _ _
 have hb2 : w1.heap[w.heap.size + 1]? = some (.cells #[.bool b.neg, .slice A2 n2 c2, .int .i64 b.e] 24 (0, 0)) := by
  rw [← hw1]
  exact heap_alloc2_new _ _ _
 have g1 := h1.below hB1 (Nat.le_refl _)
 have g2 := h2.below hB1 (Nat.le_refl _)
 clear hs1
 obtain ⟨⟨p0, p1, p2⟩, p3, p4, p5⟩ := boxD hb1
 obtain ⟨⟨q0, q1, q2⟩, q3, q4, q5⟩ := boxD hb2
 go_enter Tryd.func10, Tryd.ntmps10
 go_wp2_with fail
 refine (Check_ok w1 0 w.heap.size a.neg A1 n1 c1 xs1 a.e g1 (by have := HS1.out; omega) HM1.out).mono ?_
 rintro e w2 ⟨rfl, hB2⟩
 have hs2 := hB2.size
 replace g1 := g1.below hB2 (by have := HS1.out; omega)
 replace g2 := g2.below hB2 (by have := HS1.out; omega)
 replace hb1 := (hB2.block _ (by have := HS1.out; omega)).trans hb1
 replace hb2 := (hB2.block _ (by have := HS1.out; omega)).trans hb2
 replace hB1 := hB1.trans (hB2.mono (by have := HS1.out; omega))
 clear hB2 p0 p1 p2 p3 p4 p5 q0 q1 q2 q3 q4 q5 hw1
 obtain ⟨⟨p0, p1, p2⟩, p3, p4, p5⟩ := boxD hb1
 obtain ⟨⟨q0, q1, q2⟩, q3, q4, q5⟩ := boxD hb2
 go_wp2_with fail
 refine (Check_ok w2 0 w.heap.size b.neg A2 n2 c2 xs2 b.e g2 (by have := HS1.out; omega) HM2.out).mono ?_
 rintro e w3 ⟨rfl, hB2⟩
 have hs3 := hB2.size
 replace g1 := g1.below hB2 (by have := HS1.out; omega)
 replace g2 := g2.below hB2 (by have := HS1.out; omega)
 replace hb1 := (hB2.block _ (by have := HS1.out; omega)).trans hb1
 replace hb2 := (hB2.block _ (by have := HS1.out; omega)).trans hb2
 replace hB1 := hB1.trans (hB2.mono (by have := HS1.out; omega))
 clear hB2 p0 p1 p2 p3 p4 p5 q0 q1 q2 q3 q4 q5
 obtain ⟨⟨p0, p1, p2⟩, p3, p4, p5⟩ := boxD hb1
 obtain ⟨⟨q0, q1, q2⟩, q3, q4, q5⟩ := boxD hb2
 rcases hkab with ⟨hkl, hke⟩ | ⟨hkl, hke⟩
 · have HKE := Lib.hid hke
   clear hke
   go_wp2_with fail
   refine (of_any w3 0 w.heap.size a.neg A1 n1 c1 xs1 a.e (M - a.e) g1 (by have := HS1.out; omega) sd1 hn1 (by omega) (by omega) _ (by have := HKE.out; omega)).mono ?_
   rintro e w4 ⟨g, ws, rfl, hB4, hg1, hg2, hS4, hnw⟩
   have hs4 := hB4.size
   replace g1 := g1.below hB4 (by have := HS1.out; omega)
   replace g2 := g2.below hB4 (by have := HS1.out; omega)
   replace hb1 := (hB4.block _ (by have := HS1.out; omega)).trans hb1
   replace hb2 := (hB4.block _ (by have := HS1.out; omega)).trans hb2
   replace hB1 := hB1.trans (hB4.mono (by have := HS1.out; omega))
   have HNW := Lib.hid hnw
   clear hB4 p0 p1 p2 p3 p4 p5 q0 q1 q2 q3 q4 q5 hnw
   go_wp2_with fail
   have hSS : w4.drew.heap[w.heap.size + 1]? = w4.heap[w.heap.size + 1]? := rfl
   refine region_E (fun w' => w'.heap[w.heap.size + 1]? = w4.heap[w.heap.size + 1]?) [] (m := 8) (L := #[zF,zF,zF,zF,zF,zF,zF,zF]) (by kernel_rfl) (by rfl) (by rfl) ?_
   refine zE 0 #[zT,zF,zF,zF,zF,zF,zF,zF] ?_ rfl ?hy18 ?rest18
   case hy18 => intro w; go_simp; (try with_reducible rfl)
   try simp only [Act.put, zp]
   refine zE 1 #[zT,zT,zF,zF,zF,zF,zF,zF] ?_ rfl ?hy19 ?rest19
   case hy19 => intro w; go_simp; (try with_reducible rfl)
   try simp only [Act.put, zp]
   refine readE (i := 2) (L := #[zT,zT,zT,zF,zF,zF,zF,zF]) (v := .bool b.neg) rfl (by rfl) (by kernel_rfl) (by kernel_rfl) (by kernel_rfl) (fun _ _ _ h => h) (by assumption) (by rfl) ?hyA1 ?restA1
   case hyA1 =>
    intro w' h1
    have k := (boxD (h1.trans hb2)).1.1
    go_simp
   try simp only [Act.put, zp]
   refine zE 3 #[zT,zT,zT,zT,zF,zF,zF,zF] ?_ rfl ?hy21 ?rest21
   case hy21 => intro w; go_simp; (try with_reducible rfl)
   try simp only [Act.put, zp]
   refine readE (i := 4) (L := #[zT,zT,zT,zT,zT,zF,zF,zF]) (v := .agg #[.bool b.neg, .slice A2 n2 c2, .int .i64 b.e]) rfl (by rfl) (by kernel_rfl) (by kernel_rfl) (by kernel_rfl) (fun _ _ _ h => h) (by assumption) (by rfl) ?hyB1 ?restB1
   case hyB1 =>
    intro w' h1
    obtain ⟨⟨k1, k2, k3⟩, _⟩ := boxD (h1.trans hb2)
    go_simp
   try simp only [Act.put, zp]
   refine zE 5 #[zT,zT,zT,zT,zT,zT,zF,zF] ?_ rfl ?hy23 ?rest23
   case hy23 => intro w; go_simp; (try with_reducible rfl)
   try simp only [Act.put, zp]
   refine stepK (i := 6) (L := #[zT,zT,zT,zT,zT,zT,zT,zF]) rfl (by rfl) (by kernel_rfl) (by rfl) (fun K hK => ?_)
   go_simp
   go_at_call 27
   refine (widen_any w4.drew 0 w.heap.size b.neg A2 n2 c2 xs2 b.e (M - b.e) (g2.drewN 1) (by show w.heap.size ≤ w4.heap.size; have := HS1.out; omega) sd2 hn2 (by omega) (by omega) _ (by have := HKE.out; omega)).mono ?_
   rintro e w5 ⟨us, rfl, hB5', hul, hud, hnu⟩
   have hB5 : Below w4.heap.size w4 w5 := (Below.refl _ w4).drew.trans hB5'
   clear hB5'
   have hs5 := hB5.size
   replace g1 := g1.below hB5 (by have := HS1.out; omega)
   have hb2' := hB5.block (w.heap.size + 1) (by have := HS1.out; omega)
   replace hB1 := hB1.trans (hB5.mono (by have := HS1.out; omega))
   have hS5 := hS4.of_heap (hB5.block g hg2)
   have HNU := Lib.hid hnu
   clear hB5 hnu hS4
   refine hK _ _ ⟨fun _ _ => hb2', ?_⟩
   clear hK K
   try simp only [Act.put, zp]
   obtain ⟨sr, mr, hpl⟩ : ∃ sr mr, plusS a.neg (num 4294967296 ws) (!b.neg) (num 4294967296 us) = (sr, mr) := ⟨_, _, rfl⟩
   have hroom : num 4294967296 ws + num 4294967296 us < 4294967296 ^ 74 := by
    rw [HNW.out, HNU.out, SN1.out, SN2.out]
    exact sum_room (shift_lt ha.1 (by omega)) (shift_lt hb.1 (by omega))
   have hcmp : z = if mr = 0 then 0 else if sr then -1 else 1 := by
    rw [← H.out]
    refine cmp_by a b (!b.neg) (fun _ => rfl) sr mr ?_
    rw [HK.out]
    rw [HNW.out, HNU.out, SN1.out, SN2.out] at hpl
    exact hpl
   have HPL := Lib.hid hpl
   have HR := Lib.hid hroom
   have HF := Lib.hid hcmp
   clear hpl hroom hcmp
   refine stepK (i := 7) (L := #[zT,zT,zT,zT,zT,zT,zT,zT]) rfl (by rfl) (by kernel_rfl) (by rfl) (fun K hK => ?_)
   go_simp
   go_at_call 26
   refine (add_any w5 g a.neg (!b.neg) _ _ ws us hS5 (by omega) hul hud HR.out sr mr HPL.out).mono ?_
   rintro e w6 ⟨rfl, hO6, vs, hS6, hnv⟩
   have hs6 := hO6.size
   replace g1 := g1
   have hB6 := hO6.below hB1 (by have := HS1.out; omega) (by have := HS1.out; omega)
   refine hK _ _ ⟨fun _ h => (hO6.block _ (by have := HS1.out; omega) (by have := HS1.out; omega)).trans h, ?_⟩
   clear hK K hO6 g1 hB1 hS5
   try simp only [Act.put, zp]
   refine doneE (by kernel_rfl) ?_ _
   have hvl := hS6.len
   obtain ⟨⟨y0, y1, y2⟩, y3⟩ := And.intro hS6.head (hS6.free 0)
   by_cases hm0 : mr = 0
   · have hz0 : z = 0 := by rw [HF.out, if_pos hm0]
     subst hz0
     have heq := eql_zero w6 vs hvl hS6.dig true (by simp [hnv, hm0])
     go_wp2_with (first
      | (refine wpList_load_wide rfl (.tmp 34) rfl g 3 rfl vs hS6.row ?_)
      | (refine wpList_build0 rfl rfl ?_))
     go_ret2
     exact ⟨rfl, hB6⟩
   · have heq := eql_zero w6 vs hvl hS6.dig false (by simp [hnv, hm0])
     cases sr
     · have hz0 : z = 1 := by rw [HF.out, if_neg hm0]; rfl
       subst hz0
       go_wp2_with (first
        | (refine wpList_load_wide rfl (.tmp 34) rfl g 3 rfl vs hS6.row ?_)
        | (refine wpList_build0 rfl rfl ?_))
       go_ret2
       exact ⟨rfl, hB6⟩
     · have hz0 : z = -1 := by rw [HF.out, if_neg hm0]; rfl
       subst hz0
       go_wp2_with (first
        | (refine wpList_load_wide rfl (.tmp 34) rfl g 3 rfl vs hS6.row ?_)
        | (refine wpList_build0 rfl rfl ?_))
       go_ret2
       exact ⟨rfl, hB6⟩
 · have HKE := Lib.hid hke
   clear hke
   go_wp2_with fail
   refine (of_any w3 0 w.heap.size a.neg A1 n1 c1 xs1 a.e (M - a.e) g1 (by have := HS1.out; omega) sd1 hn1 (by omega) (by omega) _ (by have := HKE.out; omega)).mono ?_
   rintro e w4 ⟨g, ws, rfl, hB4, hg1, hg2, hS4, hnw⟩
   have hs4 := hB4.size
   replace g1 := g1.below hB4 (by have := HS1.out; omega)
   replace g2 := g2.below hB4 (by have := HS1.out; omega)
   replace hb1 := (hB4.block _ (by have := HS1.out; omega)).trans hb1
   replace hb2 := (hB4.block _ (by have := HS1.out; omega)).trans hb2
   replace hB1 := hB1.trans (hB4.mono (by have := HS1.out; omega))
   have HNW := Lib.hid hnw
   clear hB4 p0 p1 p2 p3 p4 p5 q0 q1 q2 q3 q4 q5 hnw
   go_wp2_with fail
   have hSS : w4.drew.heap[w.heap.size + 1]? = w4.heap[w.heap.size + 1]? := rfl
   refine region_E (fun w' => w'.heap[w.heap.size + 1]? = w4.heap[w.heap.size + 1]?) [] (m := 8) (L := #[zF,zF,zF,zF,zF,zF,zF,zF]) (by kernel_rfl) (by rfl) (by rfl) ?_
   refine zE 0 #[zT,zF,zF,zF,zF,zF,zF,zF] ?_ rfl ?hy26 ?rest26
   case hy26 => intro w; go_simp; (try with_reducible rfl)
   try simp only [Act.put, zp]
   refine zE 1 #[zT,zT,zF,zF,zF,zF,zF,zF] ?_ rfl ?hy27 ?rest27
   case hy27 => intro w; go_simp; (try with_reducible rfl)
   try simp only [Act.put, zp]
   refine readE (i := 2) (L := #[zT,zT,zT,zF,zF,zF,zF,zF]) (v := .bool b.neg) rfl (by rfl) (by kernel_rfl) (by kernel_rfl) (by kernel_rfl) (fun _ _ _ h => h) (by assumption) (by rfl) ?hyA2 ?restA2
   case hyA2 =>
    intro w' h1
    have k := (boxD (h1.trans hb2)).1.1
    go_simp
   try simp only [Act.put, zp]
   refine zE 3 #[zT,zT,zT,zT,zF,zF,zF,zF] ?_ rfl ?hy29 ?rest29
   case hy29 => intro w; go_simp; (try with_reducible rfl)
   try simp only [Act.put, zp]
   refine readE (i := 4) (L := #[zT,zT,zT,zT,zT,zF,zF,zF]) (v := .agg #[.bool b.neg, .slice A2 n2 c2, .int .i64 b.e]) rfl (by rfl) (by kernel_rfl) (by kernel_rfl) (by kernel_rfl) (fun _ _ _ h => h) (by assumption) (by rfl) ?hyB2 ?restB2
   case hyB2 =>
    intro w' h1
    obtain ⟨⟨k1, k2, k3⟩, _⟩ := boxD (h1.trans hb2)
    go_simp
   try simp only [Act.put, zp]
   refine zE 5 #[zT,zT,zT,zT,zT,zT,zF,zF] ?_ rfl ?hy31 ?rest31
   case hy31 => intro w; go_simp; (try with_reducible rfl)
   try simp only [Act.put, zp]
   refine stepK (i := 6) (L := #[zT,zT,zT,zT,zT,zT,zT,zF]) rfl (by rfl) (by kernel_rfl) (by rfl) (fun K hK => ?_)
   go_simp
   go_at_call 27
   refine (widen_any w4.drew 0 w.heap.size b.neg A2 n2 c2 xs2 b.e (M - b.e) (g2.drewN 1) (by show w.heap.size ≤ w4.heap.size; have := HS1.out; omega) sd2 hn2 (by omega) (by omega) _ (by have := HKE.out; omega)).mono ?_
   rintro e w5 ⟨us, rfl, hB5', hul, hud, hnu⟩
   have hB5 : Below w4.heap.size w4 w5 := (Below.refl _ w4).drew.trans hB5'
   clear hB5'
   have hs5 := hB5.size
   replace g1 := g1.below hB5 (by have := HS1.out; omega)
   have hb2' := hB5.block (w.heap.size + 1) (by have := HS1.out; omega)
   replace hB1 := hB1.trans (hB5.mono (by have := HS1.out; omega))
   have hS5 := hS4.of_heap (hB5.block g hg2)
   have HNU := Lib.hid hnu
   clear hB5 hnu hS4
   refine hK _ _ ⟨fun _ _ => hb2', ?_⟩
   clear hK K
   try simp only [Act.put, zp]
   obtain ⟨sr, mr, hpl⟩ : ∃ sr mr, plusS a.neg (num 4294967296 ws) (!b.neg) (num 4294967296 us) = (sr, mr) := ⟨_, _, rfl⟩
   have hroom : num 4294967296 ws + num 4294967296 us < 4294967296 ^ 74 := by
    rw [HNW.out, HNU.out, SN1.out, SN2.out]
    exact sum_room (shift_lt ha.1 (by omega)) (shift_lt hb.1 (by omega))
   have hcmp : z = if mr = 0 then 0 else if sr then -1 else 1 := by
    rw [← H.out]
    refine cmp_by a b (!b.neg) (fun _ => rfl) sr mr ?_
    rw [HK.out]
    rw [HNW.out, HNU.out, SN1.out, SN2.out] at hpl
    exact hpl
   have HPL := Lib.hid hpl
   have HR := Lib.hid hroom
   have HF := Lib.hid hcmp
   clear hpl hroom hcmp
   refine stepK (i := 7) (L := #[zT,zT,zT,zT,zT,zT,zT,zT]) rfl (by rfl) (by kernel_rfl) (by rfl) (fun K hK => ?_)
   go_simp
   go_at_call 26
   refine (add_any w5 g a.neg (!b.neg) _ _ ws us hS5 (by omega) hul hud HR.out sr mr HPL.out).mono ?_
   rintro e w6 ⟨rfl, hO6, vs, hS6, hnv⟩
   have hs6 := hO6.size
   replace g1 := g1
   have hB6 := hO6.below hB1 (by have := HS1.out; omega) (by have := HS1.out; omega)
   refine hK _ _ ⟨fun _ h => (hO6.block _ (by have := HS1.out; omega) (by have := HS1.out; omega)).trans h, ?_⟩
   clear hK K hO6 g1 hB1 hS5
   try simp only [Act.put, zp]
   refine doneE (by kernel_rfl) ?_ _
   have hvl := hS6.len
   obtain ⟨⟨y0, y1, y2⟩, y3⟩ := And.intro hS6.head (hS6.free 0)
   by_cases hm0 : mr = 0
   · have hz0 : z = 0 := by rw [HF.out, if_pos hm0]
     subst hz0
     have heq := eql_zero w6 vs hvl hS6.dig true (by simp [hnv, hm0])
     go_wp2_with (first
      | (refine wpList_load_wide rfl (.tmp 34) rfl g 3 rfl vs hS6.row ?_)
      | (refine wpList_build0 rfl rfl ?_))
     go_ret2
     exact ⟨rfl, hB6⟩
   · have heq := eql_zero w6 vs hvl hS6.dig false (by simp [hnv, hm0])
     cases sr
     · have hz0 : z = 1 := by rw [HF.out, if_neg hm0]; rfl
       subst hz0
       go_wp2_with (first
        | (refine wpList_load_wide rfl (.tmp 34) rfl g 3 rfl vs hS6.row ?_)
        | (refine wpList_build0 rfl rfl ?_))
       go_ret2
       exact ⟨rfl, hB6⟩
     · have hz0 : z = -1 := by rw [HF.out, if_neg hm0]; rfl
       subst hz0
       go_wp2_with (first
        | (refine wpList_load_wide rfl (.tmp 34) rfl g 3 rfl vs hS6.row ?_)
        | (refine wpList_build0 rfl rfl ?_))
       go_ret2
       exact ⟨rfl, hB6⟩
theorem Cmp_allP (w : World) (s1 s2 : Bool) (A1 A2 : Option Addr) (n1 c1 n2 c2 : Nat) (xs1 xs2 : List Int) (e1 e2 : Int) (h1 : Ints w 0 w.heap.size .u32 A1 n1 xs1) (h2 : Ints w 0 w.heap.size .u32 A2 n2 xs2) (z code : Int) (h : cmpX s1 xs1 e1 s2 xs2 e2 = (z, code)) :
  Calls Tryd.prog 10 #[.agg #[.bool s1, .slice A1 n1 c1, .int .i64 e1], .agg #[.bool s2, .slice A2 n2 c2, .int .i64 e2]] w fun e w' => e = .returned (.tuple #[.int .i64 z, .int .i64 code]) ∧ Below w.heap.size w w' := by
 unfold cmpX at h
 split at h
 · rename_i hm
   injection h with h3 h4
   subst h4
   obtain ⟨y1, c1', k1⟩ := dn_ok (dig_ints h1) hm.1
   obtain ⟨y2, c2', k2⟩ := dn_ok (dig_ints h2) hm.2
   have := Cmp_okP w (dn s1 xs1 e1) (dn s2 xs2 e2) y1 y2 A1 n1 c1 (by rw [c1']; exact h1) A2 n2 c2 (by rw [c2']; exact h2) z h3
   rw [k1, k2] at this
   exact this
 · rename_i hm
   injection h with h3 h4
   subst h3 h4
   exact Cmp_bad w s1 s2 A1 A2 n1 c1 n2 c2 xs1 xs2 e1 e2 h1 h2 (Classical.not_and_iff_not_or_not.1 hm)
end Dy
end Go.Proofs.YtmbppgjhdcmckaaDoor