/- Plain laws about masses' values, and contracts that say the numbers (printed by a program of mine). -/
/- headcountlaw06.half and alive: walks (printed by a program of mine). -/
/- headcountref06.Great: a walk (printed by a program of mine). -/
/- headcountref06.Same, May: walks (printed by a program of mine). -/
/- headcountref06.Split, Check: walks (printed by a program of mine). -/
/- headcountlaw06.spoil: a walk (printed by a program of mine). -/
/- Laws for MassTells: walks (printed by a program of mine). -/
/- mass.Sum: a walk (printed by a program of mine). -/
import Derived.Test.YtbbnbgllgomolaaBq09
import Derived.Test.YtbbnbgllgomolaaBq03
import Derived.Test.YtbbnbgllgomolaaBq07
import Derived.Test.YtbbnbgllgomolaaBq06
import Derived.Lib.MinMax
import Derived.Test.YtbbnbgllgomolaaBq01
namespace Go.Proofs.Ytbbnbgllgomolaa
open Go.RowKit
namespace Ma
open Dp Dy
/-- d is the form of the number r. -/
def Is (r : Dn) (d : Dv) : Prop := d.s = r.neg ∧ d.e = r.e ∧ d.xs = canon 4294967296 r.m
theorem ResV.is {W : World} {lo : Nat} {r : Dn} {d : Dv} (h : ResV W lo r d) : Is r d := ⟨h.1, h.2.1, h.2.2.1⟩
theorem ResV.row {W : World} {lo : Nat} {r : Dn} {d : Dv} (h : ResV W lo r d) : Ints W lo W.heap.size .u32 d.A d.n d.xs := h.2.2.2.2
theorem Is.may {r : Dn} {d : Dv} (h : Is r d) (hr : r.May) : d.may := by
  unfold Dv.may
  rw [h.1, h.2.1, h.2.2]
  exact dn_may hr
theorem Is.same {r : Dn} {d d' : Dv} (h : Is r d) (h' : Is r d') : sameV d d' = true := by
  unfold sameV
  rw [h.1, h.2.1, h.2.2, h'.1, h'.2.1, h'.2.2]
  exact Pa.Dy.same_refl _
theorem Is.of {d : Dv} (hd : Dig 4294967296 d.xs) (hm : d.may) : Is (dn d.s d.xs d.e) d := ⟨rfl, (dn_ok hd hm).2.2.symm, (dn_ok hd hm).2.1.symm⟩
theorem Is.twin {r : Dn} {d d' : Dv} (h : Is r d) (ht : TwinV d d') : Is r d' := ⟨ht.1.trans h.1, ht.2.2.1.trans h.2.1, ht.2.2.2.1.trans h.2.2⟩
theorem Is.zero : Is Dn.zero ⟨false, none, 0, 0, 0, []⟩ := ⟨rfl, rfl, rfl⟩
theorem Is.add {r r' : Dn} {d d' : Dv} (h : Is r d) (h' : Is r' d') (hr : r.May) (hr' : r'.May) : addX d.s d.xs d.e d'.s d'.xs d'.e = addD r r' := by
  rw [addX_ok (h.may hr) (h'.may hr'), h.1, h.2.1, h.2.2, h'.1, h'.2.1, h'.2.2, dn_of, dn_of]
theorem add_zero {a : Dn} (ha : a.May) : addD a Dn.zero = (a, 0) :=
  add_of ha (K := a.e) (Nat.le_refl _) (Nat.zero_le _) (Nat.le_refl _) (by rw [vl_zero]; omega)
theorem zero_add {a : Dn} (ha : a.May) : addD Dn.zero a = (a, 0) := by rw [add_comm]; exact add_zero ha
/-- m is the form of the numbers R. -/
def IsM (R : Nat → Dn) (m : Mv) : Prop := ∀ x, x < 4 → Is (R x) (m.get x)
def MayR (R : Nat → Dn) : Prop := ∀ x, x < 4 → (R x).May
def dnM (m : Mv) (x : Nat) : Dn := dn (m.get x).s (m.get x).xs (m.get x).e
def zR (_ : Nat) : Dn := Dn.zero
theorem IsM.zero : IsM zR ZM := four Is.zero Is.zero Is.zero Is.zero
theorem IsM.same {R : Nat → Dn} {a b : Mv} (h : IsM R a) (h' : IsM R b) : sameM a b = true := (sameM_iff a b).2 fun x hx => (h x hx).same (h' x hx)
theorem IsM.may {R : Nat → Dn} {m : Mv} (h : IsM R m) (hr : MayR R) : m.may := fun x hx => (h x hx).may (hr x hx)
theorem IsM.of {w : World} {lo hi : Nat} {m : Mv} (hR : MRows w lo hi m) (h : m.may) : IsM (dnM m) m := fun x hx => Is.of (dig_ints (hR.get x)) (h x hx)
theorem IsM.add {R S : Nat → Dn} {a b : Mv} (h : IsM R a) (h' : IsM S b) (hr : MayR R) (hs : MayR S) {x : Nat} (hx : x < 4) : xAdd a b x = addD (R x) (S x) := (h x hx).add (h' x hx) (hr x hx) (hs x hx)
theorem IsM.twin {R : Nat → Dn} {a b : Mv} (h : IsM R a) (ht : ∀ x, x < 4 → TwinV (a.get x) (b.get x)) : IsM R b := fun x hx => (h x hx).twin (ht x hx)
end Ma
end Go.Proofs.Ytbbnbgllgomolaa
namespace Go.Proofs.Ytbbnbgllgomolaa
open Go.RowKit
namespace Ma
open Dp Dy
theorem MRows.on {w w' : World} {m : Mv} (h : MRows w 0 w.heap.size m) (hb : Below w.heap.size w w') : MRows w' 0 w'.heap.size m := (h.below hb (Nat.le_refl _)).more (Nat.le_refl _) hb.size
end Ma
end Go.Proofs.Ytbbnbgllgomolaa
namespace Go.Proofs.Ytbbnbgllgomolaa
open Go.RowKit
namespace Ma
open Dp Dy
def Dv.great (d : Dv) : Bool := Pa.Dy.great ⟨d.s, d.xs, d.e⟩
end Ma
end Go.Proofs.Ytbbnbgllgomolaa
namespace Go.Proofs.Ytbbnbgllgomolaa
open Go.RowKit
namespace Ma
open Dp Dy
open Classical in
noncomputable def mayB (d : Dv) : Bool := decide (d.may)
open Classical in
theorem rMay_all (w : World) (d : Dv) (hX : Ints w 0 w.heap.size .u32 d.A d.n d.xs) (k : Bool) (hk : mayB d = k) :
    Calls Try.prog 101 #[.agg #[.bool d.s, .slice d.A d.n d.c, .int .i64 d.e]] w fun e w' => e = .returned (.bool k) ∧ Below w.heap.size w w' := by
  unfold mayB at hk
  by_cases h : d.may
  · rw [decide_eq_true h] at hk
    subst hk
    exact rMay_ok w 0 w.heap.size d.s d.A d.n d.c d.xs d.e hX (Nat.le_refl _) h
  · rw [decide_eq_false h] at hk
    subst hk
    exact rMay_bad w 0 w.heap.size d.s d.A d.n d.c d.xs d.e hX (Nat.le_refl _) h
end Ma
end Go.Proofs.Ytbbnbgllgomolaa
namespace Go.Proofs.Ytbbnbgllgomolaa
open Go.RowKit
namespace Ma
open Dp Dy
/-- Each row lies in one of two ranges. -/
def TwoR (w : World) (lo hi lo' hi' : Nat) (m : Mv) : Prop := ∀ x, x < 4 → Ints w lo hi .u32 (m.get x).A (m.get x).n (m.get x).xs ∨ Ints w lo' hi' .u32 (m.get x).A (m.get x).n (m.get x).xs
theorem TwoR.below {w w' : World} {lo hi lo' hi' B : Nat} {m : Mv} (h : TwoR w lo hi lo' hi' m) (hb : Below B w w') (h1 : hi ≤ B) (h2 : hi' ≤ B) : TwoR w' lo hi lo' hi' m := fun x hx => (h x hx).imp (fun k => k.below hb h1) (fun k => k.below hb h2)
theorem TwoR.rows {w : World} {lo hi lo' hi' : Nat} {m : Mv} (h : TwoR w lo hi lo' hi' m) (h1 : hi ≤ w.heap.size) (h2 : hi' ≤ w.heap.size) : MRows w 0 w.heap.size m :=
  have k : ∀ x, x < 4 → Ints w 0 w.heap.size .u32 (m.get x).A (m.get x).n (m.get x).xs := fun x hx => (h x hx).elim (fun k => k.more (Nat.zero_le _) h1) (fun k => k.more (Nat.zero_le _) h2)
  ⟨k 0 (by decide), k 1 (by decide), k 2 (by decide), k 3 (by decide)⟩
end Ma
end Go.Proofs.Ytbbnbgllgomolaa
namespace Go.Proofs.Ytbbnbgllgomolaa
open Go.RowKit
namespace Ma
open Dp Dy
def WrM (w : World) (lo hi : Nat) (m : Mv) : Prop := ∀ x, x < 4 → 0 < (m.get x).n → ∃ b off, (m.get x).A = some ⟨b, off, none⟩ ∧ lo ≤ b ∧ b < hi ∧ WrD w b off (m.get x).n
theorem WrM.of {w w' : World} {lo hi : Nat} {m : Mv} (h : MRows w lo hi m) (hk : ∀ b, b < hi → w'.heap[b]? = w.heap[b]?) : WrM w' lo hi m := fun x hx h0 => by
  obtain ⟨b, off, e, h1, h2, hc⟩ := (h.get x).row h0
  refine ⟨b, off, e, h1, h2, fun j hj => ?_⟩
  have h3 := hk b h2
  obtain ⟨h4, h5⟩ := hc j hj
  exact ⟨⟨_, by rw [World.cell?_of_block h3]; exact h4⟩, by rw [World.frozen?_of_block h3]; exact h5⟩
def LBox (w : World) (g : Nat) (m : Mv) : Prop := w.heap[g]? = some (.cells #[.slice m.S.A m.S.n m.S.c, .slice m.W.A m.W.n m.W.c, .slice m.C.A m.C.n m.C.c, .slice m.A.A m.A.n m.A.c] 23 (0, 0))
theorem LBox.at_ {w : World} {g : Nat} {m : Mv} (h : LBox w g m) {i : Nat} (hi : i < 4) : w.cell? ⟨g, i, none⟩ = some (.slice (m.get i).A (m.get i).n (m.get i).c) := by
  unfold LBox at h
  have hi' : i = 0 ∨ i = 1 ∨ i = 2 ∨ i = 3 := by omega
  rcases hi' with rfl | rfl | rfl | rfl
  · exact cell_of_row w g 0 _ _ _ h
  · exact cell_of_row w g 1 _ _ _ h
  · exact cell_of_row w g 2 _ _ _ h
  · exact cell_of_row w g 3 _ _ _ h
end Ma
end Go.Proofs.Ytbbnbgllgomolaa
namespace Go.Proofs.Ytbbnbgllgomolaa
open Go.RowKit
namespace Ma
open Dp Dy
/-- The rows lie in neither of two blocks. -/
def RowsOff (_w : World) (g g' : Nat) (m : Mv) : Prop := ∀ x, x < 4 → 0 < (m.get x).n → ∀ b off, (m.get x).A = some ⟨b, off, none⟩ → b ≠ g ∧ b ≠ g'
theorem RowsOff.on {w w' : World} {g g' j : Nat} {m : Mv} (ho : RowsOff w g g' m) (_hf : ∀ k, k ≠ j → w'.heap[k]? = w.heap[k]?) (_hj : j = g ∨ j = g') : RowsOff w' g g' m := ho
/-- Rows in a range of blocks that are there. -/
structure RB (w : World) (lo hi : Nat) (m : Mv) : Prop where
  rows : MRows w lo hi m
  le : hi ≤ w.heap.size
theorem RB.on {w w' : World} {lo hi : Nat} {m : Mv} (h : RB w lo hi m) (hb : Below w.heap.size w w') : RB w' lo hi m := ⟨h.rows.below hb h.le, Nat.le_trans h.le hb.size⟩
theorem RB.all {w : World} {lo hi : Nat} {m : Mv} (h : RB w lo hi m) : MRows w 0 w.heap.size m := h.rows.more (Nat.zero_le _) h.le
structure TB (w : World) (lo hi lo' hi' : Nat) (m : Mv) : Prop where
  rows : TwoR w lo hi lo' hi' m
  le : hi ≤ w.heap.size
  le' : hi' ≤ w.heap.size
theorem TB.on {w w' : World} {lo hi lo' hi' : Nat} {m : Mv} (h : TB w lo hi lo' hi' m) (hb : Below w.heap.size w w') : TB w' lo hi lo' hi' m := ⟨h.rows.below hb h.le h.le', Nat.le_trans h.le hb.size, Nat.le_trans h.le' hb.size⟩
theorem TB.all {w : World} {lo hi lo' hi' : Nat} {m : Mv} (h : TB w lo hi lo' hi' m) : MRows w 0 w.heap.size m := h.rows.rows h.le h.le'
theorem twin_all {a u : Mv} (h : ∀ x, x < 4 → TwinV (a.get x) (u.get x)) (j : Nat) : TwinV (a.get j) (u.get j) := by
  have e : ∀ (m : Mv) (k : Nat), m.get (k + 4) = m.get 3 := fun _ _ => rfl
  by_cases hj : j < 4
  · exact h j hj
  · obtain ⟨k, rfl⟩ : ∃ k, j = k + 4 := ⟨j - 4, by omega⟩
    rw [e, e]
    exact h 3 (by decide)
theorem twin_may {a u : Mv} (h : ∀ x, x < 4 → TwinV (a.get x) (u.get x)) : u.may ↔ a.may := by
  have k : ∀ x, x < 4 → ((u.get x).may ↔ (a.get x).may) := fun x hx => by
    obtain ⟨h1, _, h3, h4, _⟩ := h x hx
    unfold Dv.may
    rw [h1, h3, h4]
  exact ⟨fun m x hx => (k x hx).1 (m x hx), fun m x hx => (k x hx).2 (m x hx)⟩
end Ma
end Go.Proofs.Ytbbnbgllgomolaa
namespace Go.Proofs.Ytbbnbgllgomolaa
open Go.RowKit
namespace Ma
open Dp Dy
/-- A mass's twelve cells amid a row. -/
def MCells (w : World) (b o : Nat) (m : Mv) : Prop := w.cell? ⟨b, o, none⟩ = some (.bool m.S.s) ∧ w.cell? ⟨b, o + 1, none⟩ = some (.slice m.S.A m.S.n m.S.c) ∧ w.cell? ⟨b, o + 2, none⟩ = some (.int .i64 m.S.e) ∧ w.cell? ⟨b, o + 3, none⟩ = some (.bool m.W.s) ∧ w.cell? ⟨b, o + 4, none⟩ = some (.slice m.W.A m.W.n m.W.c) ∧ w.cell? ⟨b, o + 5, none⟩ = some (.int .i64 m.W.e) ∧ w.cell? ⟨b, o + 6, none⟩ = some (.bool m.C.s) ∧ w.cell? ⟨b, o + 7, none⟩ = some (.slice m.C.A m.C.n m.C.c) ∧ w.cell? ⟨b, o + 8, none⟩ = some (.int .i64 m.C.e) ∧ w.cell? ⟨b, o + 9, none⟩ = some (.bool m.A.s) ∧ w.cell? ⟨b, o + 10, none⟩ = some (.slice m.A.A m.A.n m.A.c) ∧ w.cell? ⟨b, o + 11, none⟩ = some (.int .i64 m.A.e)
/-- Masses in a row. -/
structure LMs (w : World) (lo hi : Nat) (A : Option Addr) (n : Nat) (ms : List Mv) : Prop where
  len : ms.length = n
  big : n ≤ 9223372036854775807
  row : 0 < n → ∃ b off, A = some ⟨b, off, none⟩ ∧ lo ≤ b ∧ b < hi ∧ ∀ j (h : j < ms.length), MCells w b (off + j * 12) ms[j]
  rows : ∀ j (h : j < ms.length), MRows w lo hi ms[j]
theorem MCells.blk {w w' : World} {b o : Nat} {m : Mv} (h : MCells w b o m) (hk : w'.heap[b]? = w.heap[b]?) : MCells w' b o m := by
  obtain ⟨h0, h1, h2, h3, h4, h5, h6, h7, h8, h9, h10, h11⟩ := h
  exact ⟨by rw [World.cell?_of_block hk]; exact h0, by rw [World.cell?_of_block hk]; exact h1, by rw [World.cell?_of_block hk]; exact h2, by rw [World.cell?_of_block hk]; exact h3, by rw [World.cell?_of_block hk]; exact h4, by rw [World.cell?_of_block hk]; exact h5, by rw [World.cell?_of_block hk]; exact h6, by rw [World.cell?_of_block hk]; exact h7, by rw [World.cell?_of_block hk]; exact h8, by rw [World.cell?_of_block hk]; exact h9, by rw [World.cell?_of_block hk]; exact h10, by rw [World.cell?_of_block hk]; exact h11⟩
theorem LMs.below {w w' : World} {lo hi B : Nat} {A : Option Addr} {n : Nat} {ms : List Mv} (h : LMs w lo hi A n ms) (hb : Below B w w') (hB : hi ≤ B) : LMs w' lo hi A n ms :=
  ⟨h.len, h.big, fun h0 => by
    obtain ⟨b, off, e, h1, h2, hc⟩ := h.row h0
    exact ⟨b, off, e, h1, h2, fun j hj => (hc j hj).blk (hb.block b (by omega))⟩, fun j hj => (h.rows j hj).below hb hB⟩
theorem LMs.more {w : World} {lo hi lo' hi' : Nat} {A : Option Addr} {n : Nat} {ms : List Mv} (h : LMs w lo hi A n ms) (hl : lo' ≤ lo) (hh : hi ≤ hi') : LMs w lo' hi' A n ms :=
  ⟨h.len, h.big, fun h0 => by
    obtain ⟨b, off, e, h1, h2, hc⟩ := h.row h0
    exact ⟨b, off, e, by omega, by omega, hc⟩, fun j hj => (h.rows j hj).more hl hh⟩
open Classical in
noncomputable def foldM : (Nat → Dn) → List Mv → Option (Nat → Dn)
  | R, [] => some R
  | R, m :: l => if ∀ x, x < 4 → (addD (R x) (dnM m x)).2 = 0 then foldM (fun x => (addD (R x) (dnM m x)).1) l else none
open Classical in
/-- What the sum of all is. -/
noncomputable def sumM (ms : List Mv) : (Nat → Dn) × Int :=
  if 4096 < ms.length then (zR, 4) else if ∃ m ∈ ms, ¬ m.may then (zR, 8) else match foldM zR ms with
    | some R => (R, 0)
    | none => (zR, 10)
open Classical in
theorem foldM_cons (R : Nat → Dn) (m : Mv) (l : List Mv) : foldM R (m :: l) = if ∀ x, x < 4 → (addD (R x) (dnM m x)).2 = 0 then foldM (fun x => (addD (R x) (dnM m x)).1) l else none := rfl
end Ma
end Go.Proofs.Ytbbnbgllgomolaa
