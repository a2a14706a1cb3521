/- The examples of the chapter: a walk. -/
import Derived.Test.YtlbkepiflhchdaaDoorDyW13
namespace Go.Proofs.YtlbkepiflhchdaaDoor
open Go.RowKit
namespace Dy
open Dp
theorem may_small (s : Bool) (m e : Nat) (h0 : m ≠ 0) (h1 : m < 16) (h2 : e ≤ 1024) (h3 : 0 < e → m % 2 = 1) : Dn.May ⟨s, m, e⟩ :=
  ⟨capD_gt (k := 4) h1 (by decide), h2, fun h => absurd h h0, h3⟩
theorem al1 : halfD ⟨false, 3, 0⟩ = (⟨false, 3, 1⟩, 0) := formed_of (K := 1) (may_small _ _ _ (by decide) (by decide) (by decide) (by decide)) (by decide) (by decide) (by decide)
theorem al2 : halfD ⟨false, 2, 0⟩ = (⟨false, 1, 0⟩, 0) := formed_of (K := 1) (may_small _ _ _ (by decide) (by decide) (by decide) (by decide)) (by decide) (by decide) (by decide)
theorem al3 : addD ⟨false, 1, 1⟩ ⟨false, 1, 1⟩ = (⟨false, 1, 0⟩, 0) := add_of (K := 1) (may_small _ _ _ (by decide) (by decide) (by decide) (by decide)) (by decide) (by decide) (by decide) (by decide)
theorem al4 : subD ⟨false, 1, 1⟩ ⟨false, 3, 2⟩ = (⟨true, 1, 2⟩, 0) := sub_of (K := 2) (may_small _ _ _ (by decide) (by decide) (by decide) (by decide)) (by decide) (by decide) (by decide) (by decide)
theorem canon_one (m : Nat) (h0 : m ≠ 0) (h1 : m < 4294967296) : canon 4294967296 m = [(m : Int)] := by
  refine (canon_of (by decide) (fun x hx => ?_) (fun _ => ?_) ?_).symm
  · rw [List.mem_singleton.1 hx]
    omega
  · simp
    exact h0
  · simp [num]
/-- A dyad in a box. -/
structure Box (w : World) (g : Nat) (d : Dn) : Prop where
  some_ : ∃ A n c, w.heap[g]? = some (.cells #[.bool d.neg, .slice A n c, .int .i64 d.e] 24 (0, 0)) ∧ Ints w 0 w.heap.size .u32 A n (canon 4294967296 d.m)
theorem Box.below {w w' : World} {g : Nat} {d : Dn} (h : Box w g d) (hb : Below w.heap.size w w') : Box w' g d := by
  obtain ⟨A, n, c, h1, h2⟩ := h.some_
  exact ⟨A, n, c, (hb.block g (Array.getElem?_eq_some_iff.1 h1).1).trans h1, (h2.below hb (Nat.le_refl _)).more (Nat.le_refl _) hb.size⟩
theorem Box.new {w : World} (d : Dn) (A : Option Addr) (n c : Nat) (h : Ints w 0 w.heap.size .u32 A n (canon 4294967296 d.m)) (s : Bool) (e : Int) (hs : s = d.neg) (he : e = d.e) : Box (w.alloc (.cells #[.bool s, .slice A n c, .int .i64 e] 24)) w.heap.size d := by
  subst hs he
  exact ⟨A, n, c, heap_alloc_last _ _, (h.alloc (Nat.le_refl _) _).more (Nat.le_refl _) (by simp)⟩
theorem ints_all {w : World} {lo : Nat} {A : Option Addr} {n : Nat} {xs : List Int} (h : Ints w lo w.heap.size .u32 A n xs) : Ints w 0 w.heap.size .u32 A n xs := h.more (Nat.zero_le _) (Nat.le_refl _)
theorem ints_on {w w' : World} {A : Option Addr} {n : Nat} {xs : List Int} (h : Ints w 0 w.heap.size .u32 A n xs) (hb : Below w.heap.size w w') : Ints w' 0 w'.heap.size .u32 A n xs := (h.below hb (Nat.le_refl _)).more (Nat.le_refl _) hb.size
/-- Amid a walk: nothing of what was has changed, the table is there. -/
structure Amid (w0 w : World) : Prop where
  below : Below w0.heap.size w0 w
  tab : Tab w
theorem Amid.on {w0 w w' : World} (h : Amid w0 w) (hb : Below w.heap.size w w') : Amid w0 w' := ⟨h.below.trans (hb.mono h.below.size), h.tab.below hb h.tab.lt⟩
theorem Amid.alloc {w0 w : World} (h : Amid w0 w) (o : Obj) : Amid w0 (w.alloc o) := h.on ((Below.refl _ w).alloc (Nat.le_refl _) o)
end Dy
end Go.Proofs.YtlbkepiflhchdaaDoor
