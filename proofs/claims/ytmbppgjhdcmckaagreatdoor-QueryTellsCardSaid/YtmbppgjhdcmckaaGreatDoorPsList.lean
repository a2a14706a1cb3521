/- Lists of frozen parts. No function in sight (printed by a program of mine). -/
import Derived.Test.YtmbppgjhdcmckaaGreatDoorPsBase
namespace Go.Proofs.YtmbppgjhdcmckaaGreatDoor
open Go.RowKit
namespace Ma
open Dp Dy
structure Fv where
  e : Int
  P : Pv
def FCells (w : World) (b o : Nat) (f : Fv) : Prop := w.cell? ⟨b, o, none⟩ = some (.int .i64 f.e) ∧ PCells w b (o + 1) f.P
theorem FCells.blk {w w' : World} {b o : Nat} {f : Fv} (h : FCells w b o f) (hk : w'.heap[b]? = w.heap[b]?) : FCells w' b o f := ⟨by rw [World.cell?_of_block hk]; exact h.1, h.2.blk hk⟩
/-- Frozen parts in a row. -/
structure LFs (w : World) (lo hi : Nat) (A : Option Addr) (n : Nat) (fs : List Fv) : Prop where
  len : fs.length = n
  big : n ≤ 9223372036854775807
  row : 0 < n → ∃ b off, A = some ⟨b, off, none⟩ ∧ lo ≤ b ∧ b < hi ∧ ∀ j (h : j < fs.length), FCells w b (off + j * 17) fs[j]
  rows : ∀ j (h : j < fs.length), PRows w lo hi fs[j].P
theorem LFs.below {w w' : World} {lo hi B : Nat} {A : Option Addr} {n : Nat} {fs : List Fv} (h : LFs w lo hi A n fs) (hb : Below B w w') (hB : hi ≤ B) : LFs w' lo hi A n fs :=
  ⟨h.len, h.big, fun h0 => by
    obtain ⟨b, off, e, h1, h2, hc⟩ := h.row h0
    exact ⟨b, off, e, h1, h2, fun j hj => (hc j hj).blk (hb.block b (by omega))⟩, fun j hj => (h.rows j hj).below hb hB⟩
theorem LFs.more {w : World} {lo hi lo' hi' : Nat} {A : Option Addr} {n : Nat} {fs : List Fv} (h : LFs w lo hi A n fs) (hl : lo' ≤ lo) (hh : hi ≤ hi') : LFs w lo' hi' A n fs :=
  ⟨h.len, h.big, fun h0 => by
    obtain ⟨b, off, e, h1, h2, hc⟩ := h.row h0
    exact ⟨b, off, e, by omega, by omega, hc⟩, fun j hj => (h.rows j hj).more hl hh⟩
theorem LFs.rng {w w' : World} {lo hi : Nat} {A : Option Addr} {n : Nat} {fs : List Fv} (h : LFs w lo hi A n fs) (hk : ∀ b, lo ≤ b → b < hi → w'.heap[b]? = w.heap[b]?) : LFs w' lo hi A n fs :=
  ⟨h.len, h.big, fun h0 => by
    obtain ⟨b, off, e, h1, h2, hc⟩ := h.row h0
    exact ⟨b, off, e, h1, h2, fun j hj => (hc j hj).blk (hk b h1 h2)⟩, fun j hj => (h.rows j hj).rng hk⟩
theorem LFs.on {w w' : World} {A : Option Addr} {n : Nat} {fs : List Fv} (h : LFs w 0 w.heap.size A n fs) (hb : Below w.heap.size w w') : LFs w' 0 w'.heap.size A n fs := (h.below hb (Nat.le_refl _)).more (Nat.le_refl _) hb.size
/-- The rows of a part, in all. -/
def bigP (p : Pv) : Int := (p.M.S.n : Int) + p.M.W.n + p.M.C.n + p.M.A.n + p.n
/-- More than statements go through. -/
def greatF (n : Nat) (fs : List Fv) : Bool := (decide (40 < n) && decide (n < 1024)) || decide (1028 < n) || fs.any fun f => greatP f.P || (decide (40 < n) && decide (4 < bigP f.P))
/-- Two lists are the same. -/
def sameF (fs gs : List Fv) : Bool := decide (fs.length = gs.length) && (fs.zip gs).all fun x => decide (x.1.e = x.2.e) && sameP x.1.P x.2.P
theorem any_at {f : Fv → Bool} : ∀ {l : List Fv} {i : Nat} (h : i < l.length), f l[i] = true → l.any f = true
  | a :: l, 0, _, h => by simp at h; simp [h]
  | a :: l, i + 1, h, k => by
    have := any_at (f := f) (l := l) (i := i) (by simpa using h) (by simpa using k)
    simp [this]
theorem any_none {f : Fv → Bool} {l : List Fv} (h : ∀ i (hi : i < l.length), f l[i] = false) : l.any f = false := by
  cases hx : l.any f
  · rfl
  · obtain ⟨a, ha, k⟩ := List.any_eq_true.1 hx
    obtain ⟨i, hi, rfl⟩ := List.mem_iff_getElem.1 ha
    rw [h i hi] at k
    cases k
end Ma
end Go.Proofs.YtmbppgjhdcmckaaGreatDoor
