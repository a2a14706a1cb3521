/- Contracts that give a dyad's value. -/
import Derived.Test.YtmbppgjhdcmckaaGreatDoorQuW4
namespace Go.Proofs.YtmbppgjhdcmckaaGreatDoor
open Go.RowKit
namespace Ma
open Dp Dy
/-- A number, and a code. -/
def NumC (w : World) (r : Dn) (code : Int) (e : Ending) (w' : World) : Prop :=
  ∃ X : Dv, e = .returned (.tuple #[.agg #[.bool X.s, .slice X.A X.n X.c, .int .i64 X.e], .int .i64 code]) ∧ Is r X ∧ Below w.heap.size w w' ∧ DRow w' w.heap.size w'.heap.size X
def NumR (w : World) (r : Dn) (e : Ending) (w' : World) : Prop :=
  ∃ X : Dv, e = .returned (.agg #[.bool X.s, .slice X.A X.n X.c, .int .i64 X.e]) ∧ Is r X ∧ Below w.heap.size w w' ∧ DRow w' w.heap.size w'.heap.size X
theorem formed_dv {w : World} {r : Dn} {code : Int} {e : Ending} {w' : World} (h : Formed w r code e w') : NumC w r code e w' := by
  obtain ⟨A, n, c, rfl, _, hb, hI⟩ := h
  exact ⟨⟨r.neg, A, n, c, r.e, canon 4294967296 r.m⟩, rfl, ⟨rfl, rfl, rfl⟩, hb, hI⟩
theorem is_big {r : Dn} {d : Dv} (h : Is r d) (hr : r.May) {w : World} {lo hi : Nat} (hI : DRow w lo hi d) : d.n ≤ 1000000 := by
  have h1 : d.xs.length = d.n := hI.len
  have h2 : (canon 4294967296 r.m).length ≤ 40 := canon_len_le (by rw [← capD_40]; exact hr.1)
  rw [h.2.2] at h1
  omega
theorem rOf_dv (w : World) (z : Int) (h0 : -9223372036854775808 ≤ z) (h1 : z ≤ 9223372036854775807) : Calls Tryz.prog 88 #[.int .i64 z] w (NumR w (whole z)) := by
  refine (rOf_any w z h0 h1 _ _ rfl rfl).mono ?_
  rintro e w' ⟨A, n, c, rfl, _, hb, hI⟩
  exact ⟨⟨decide (z < 0), A, n, c, 0, canon 4294967296 z.natAbs⟩, rfl, ⟨rfl, rfl, rfl⟩, hb, hI⟩
theorem rTwin_dv (w : World) (x : Dv) (hX : DRow w 0 w.heap.size x) (hn : x.n ≤ 1000000) : Calls Tryz.prog 66 #[.agg #[.bool x.s, .slice x.A x.n x.c, .int .i64 x.e]] w fun e w' => ∃ X : Dv, e = .returned (.agg #[.bool X.s, .slice X.A X.n X.c, .int .i64 X.e]) ∧ (∀ r, Is r x → Is r X) ∧ Below w.heap.size w w' ∧ DRow w' w.heap.size w'.heap.size X := by
  refine (Pa.rTwin_any w x.s x.A x.n x.c x.xs x.e hX hn).mono ?_
  rintro e w' ⟨A, c, rfl, _, hb, _, hI⟩
  exact ⟨⟨x.s, A, x.n, c, x.e, x.xs⟩, rfl, fun r h => h, hb, Ints.more hI (by omega) (Nat.le_refl _)⟩
theorem rHalf_dv (w : World) (x : Dv) (hX : DRow w 0 w.heap.size x) {r : Dn} (h : Is r x) (hr : r.May) (y : Dn) (c : Int) (hy : halfD r = (y, c)) : Calls Tryz.prog 152 #[.agg #[.bool x.s, .slice x.A x.n x.c, .int .i64 x.e]] w (NumC w y c) :=
  (rHalf_all w x.s x.A x.n x.c x.xs x.e hX y c ((is_half h hr).trans hy)).mono fun _ _ h => formed_dv h
theorem rFloor_dv (w : World) (a b : Dv) (hA : DRow w 0 w.heap.size a) (hB : DRow w 0 w.heap.size b) (k : Int) (r : Dn) (c : Int) (h : toX a.s a.xs a.e b.s b.xs b.e k a.s = (r, c)) : Calls Tryz.prog 150 #[.agg #[.bool a.s, .slice a.A a.n a.c, .int .i64 a.e], .agg #[.bool b.s, .slice b.A b.n b.c, .int .i64 b.e], .int .i64 k] w (NumC w r c) :=
  (rFloor_all w a.s b.s a.A b.A a.n a.c b.n b.c a.xs b.xs a.e b.e hA hB k r c h).mono fun _ _ h => formed_dv h
theorem rCeil_dv (w : World) (a b : Dv) (hA : DRow w 0 w.heap.size a) (hB : DRow w 0 w.heap.size b) (k : Int) (r : Dn) (c : Int) (h : toX a.s a.xs a.e b.s b.xs b.e k (!a.s) = (r, c)) : Calls Tryz.prog 151 #[.agg #[.bool a.s, .slice a.A a.n a.c, .int .i64 a.e], .agg #[.bool b.s, .slice b.A b.n b.c, .int .i64 b.e], .int .i64 k] w (NumC w r c) :=
  (rCeil_all w a.s b.s a.A b.A a.n a.c b.n b.c a.xs b.xs a.e b.e hA hB k r c h).mono fun _ _ h => formed_dv h
theorem rNear_dv (w : World) (a b : Dv) (hA : DRow w 0 w.heap.size a) (hB : DRow w 0 w.heap.size b) (r : Dn) (c : Int) (h : nearX a.s a.xs a.e b.s b.xs b.e = (r, c)) : Calls Tryz.prog 87 #[.agg #[.bool a.s, .slice a.A a.n a.c, .int .i64 a.e], .agg #[.bool b.s, .slice b.A b.n b.c, .int .i64 b.e]] w (NumC w r c) :=
  (rNear_all w a.s b.s a.A b.A a.n a.c b.n b.c a.xs b.xs a.e b.e hA hB r c h).mono fun _ _ h => formed_dv h
end Ma
end Go.Proofs.YtmbppgjhdcmckaaGreatDoor
