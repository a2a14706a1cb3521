/- query.Same: a walk (printed by a program of mine). -/
import Derived.Test.YtmbppgjhdcmckaaGreatDoorQuBase
namespace Go.Proofs.YtmbppgjhdcmckaaGreatDoor
open Go.RowKit
namespace Ma
open Dp Dy
def sameT (a b c d : Dv) : Bool := sameV a c && sameV b d
set_option maxHeartbeats 6400000 in
set_option maxRecDepth 100000 in
/-- query.Same. -/
theorem qSame_any (w : World) (a b c d : Dv) (hA : DRow w 0 w.heap.size a) (hB : DRow w 0 w.heap.size b) (hC : DRow w 0 w.heap.size c) (hD : DRow w 0 w.heap.size d) (r : Bool) (hr : sameT a b c d = r) :
    Calls Tryz.prog 13 #[.agg #[.bool a.s, .slice a.A a.n a.c, .int .i64 a.e, .bool b.s, .slice b.A b.n b.c, .int .i64 b.e], .agg #[.bool c.s, .slice c.A c.n c.c, .int .i64 c.e, .bool d.s, .slice d.A d.n d.c, .int .i64 d.e]] w fun e w' => e = .returned (.bool r) ∧ Below w.heap.size w w' := by
  obtain ⟨w1, hw1, bX, ja, S1⟩ := alloc_t w a b
  obtain ⟨w2, hw2, bY, jb, S2⟩ := alloc_t w1 c d
  have s1 := ja.size
  obtain ⟨t1, ht1⟩ : ∃ t, sameV a c = t := ⟨_, rfl⟩
  obtain ⟨t2, ht2⟩ : ∃ t, sameV b d = t := ⟨_, rfl⟩
  have H1 := Lib.hid ht1
  have H2 := Lib.hid ht2
  have HR : Hid (r = (t1 && t2)) := Lib.hid (by rw [← hr, ← ht1, ← ht2]; rfl)
  clear ht1 ht2 hr
  have z1 : w1.heap.size = w.heap.size + 1 := by rw [← hw1]; simp
  subst hw1
  rw [z1] at bY S2
  go_enter Tryz.func13, Tryz.ntmps13
  replace bX : TBox w2 w.heap.size a b := (jb.block _ S1).trans bX
  have r1 := TBox.low bX
  have r2 := TBox.low bY
  go_wp2_with (first
    | (refine wpList_load_mid rfl 24 (.tmp 5) rfl (w.heap.size) 0 rfl [.bool a.s, .slice a.A a.n a.c, .int .i64 a.e] _ r1 Tryz.underlying24 rfl (by kernel_rfl) ?_)
    | (refine wpList_load_mid rfl 24 (.tmp 7) rfl ((w.heap.size + 1)) 0 rfl [.bool c.s, .slice c.A c.n c.c, .int .i64 c.e] _ r2 Tryz.underlying24 rfl (by kernel_rfl) ?_))
  refine (Pa.dyadSame_any w2 _ _ _ _ _ _ _ _ _ _ _ _ (ints_on hA (later ja jb)) (ints_on hC (later ja jb)) t1 H1.out).mono ?_
  rintro e' v1 ⟨rfl, j2⟩
  try clear hw
  clear r1 r2
  try clear hw2
  cases t1
  case false =>
    obtain rfl : r = false := HR.out
    go_wp2
    go_ret
    exact ⟨rfl, (later (later ja jb) j2)⟩
  obtain rfl : r = t2 := HR.out.trans (Bool.true_and _)
  have r1 := TBox.high (box_later bX j2 (show w.heap.size < w2.heap.size by omega))
  have r2 := TBox.high (box_later bY j2 S2)
  go_wp2_with (first
    | (refine wpList_load_midG (by rfl) 24 (.tmp 11) rfl (w.heap.size) 3 rfl [.bool b.s, .slice b.A b.n b.c, .int .i64 b.e] _ r1 Tryz.underlying24 rfl (by kernel_rfl) ?_)
    | (refine wpList_load_midG (by rfl) 24 (.tmp 13) rfl ((w.heap.size + 1)) 3 rfl [.bool d.s, .slice d.A d.n d.c, .int .i64 d.e] _ r2 Tryz.underlying24 rfl (by kernel_rfl) ?_))
  refine (Pa.dyadSame_any v1 _ _ _ _ _ _ _ _ _ _ _ _ (ints_on hB (later (later ja jb) j2)) (ints_on hD (later (later ja jb) j2)) r H2.out).mono ?_
  rintro e' v3 ⟨rfl, j4⟩
  try clear hw
  clear r1 r2
  go_wp2
  go_ret
  exact ⟨rfl, (later (later ja jb) (later j2 j4))⟩
end Ma
end Go.Proofs.YtmbppgjhdcmckaaGreatDoor
