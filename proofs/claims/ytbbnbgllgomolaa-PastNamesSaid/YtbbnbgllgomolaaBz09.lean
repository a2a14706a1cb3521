/- The laws of shares: what push.Between tells. No program in sight. -/
/- Shares with known numbers: what is kept, sent, taken, told. No program in sight. -/
/- headcountlaw15.spoil: a walk; rows that are spoilt one behind the other. -/
/- Quotients of bits: headcountref01.Into, by a walk. -/
/- A part's value, its cells and rows. No function in sight (printed by a program of mine). -/
/- Lists of frozen parts. No function in sight (printed by a program of mine). -/
/- Plain laws of lists that rise, and of how they are joined: no program in sight. -/
/- Frozen parts that may be; what is frozen, got, and there before: plain laws, no program in sight. -/
import Derived.Test.YtbbnbgllgomolaaBz08
import Derived.Deep.Cut
import Derived.Laws.StructEq
import Derived.Test.YtbbnbgllgomolaaBz04
import Derived.Test.YtbbnbgllgomolaaBz03
import Derived.Test.YtbbnbgllgomolaaBz05
import Derived.Test.YtbbnbgllgomolaaBz07
import Derived.Test.YtbbnbgllgomolaaBz02
import Derived.Test.YtbbnbgllgomolaaBz06
import Derived.Test.YtbbnbgllgomolaaBz01
namespace Go.Proofs.Ytbbnbgllgomolaa
open Go.RowKit
namespace Ma
open Dp Dy
theorem xs_nil {w : World} {lo hi : Nat} {A : Option Addr} {n : Nat} {xs : List Int} (h : Ints w lo hi .u32 A n xs) : n = 0 ↔ xs = [] := by
 have := h.len
 constructor
 · intro h0
   exact List.length_eq_zero_iff.1 (by omega)
 · intro h0
   rw [h0] at this
   exact this.symm
end Ma
end Go.Proofs.Ytbbnbgllgomolaa
namespace Go.Proofs.Ytbbnbgllgomolaa
open Go.RowKit
namespace Ma
open Dp Dy
theorem IsM.dn {R : Nat → Dn} {m : Mv} (h : IsM R m) {x : Nat} (hx : x < 4) : dnM m x = R x := by
 obtain ⟨h1, h2, h3⟩ := h x hx
 unfold dnM
 rw [h1, h2, h3]
 exact dn_of
theorem can_nil {r : Dn} (h : canon 4294967296 r.m = []) : r.m = 0 := by
 have e : (Dy.dn r.neg (canon 4294967296 r.m) r.e).m = r.m := by rw [dn_of]
 rw [h] at e
 exact e.symm
theorem Is.len {w : World} {lo hi : Nat} {r : Dn} {d : Dv} (h : Is r d) (hI : Ints w lo hi .u32 d.A d.n d.xs) : d.n = 0 ↔ r.m = 0 := by
 rw [xs_nil hI, h.2.2]
 exact ⟨can_nil, fun h0 => by rw [h0]; rfl⟩
theorem share_is {w : World} {lo hi : Nat} {m : Mv} {R : Nat → Dn} (hR : MRows w lo hi m) (h : IsM R m) (hr : MayR R) : m.share ↔ ((R 1).neg = false ∧ ((R 1).m = 0 → (R 0).m = 0)) := by
 have l1 : m.W.n = 0 ↔ (R 1).m = 0 := Is.len (h 1 (by decide)) hR.W
 have l0 : m.S.n = 0 ↔ (R 0).m = 0 := Is.len (h 0 (by decide)) hR.S
 have s1 : m.W.s = (R 1).neg := (h 1 (by decide)).1
 unfold Mv.share
 rw [l1, l0, s1]
 exact ⟨fun k => k.2, fun k => ⟨h.may hr, k⟩⟩
/-- A share of S and W alone. -/
def twoR (a b : Dn) (x : Nat) : Dn := if x = 0 then a else if x = 1 then b else Dn.zero
theorem twoR_may {a b : Dn} (ha : a.May) (hb : b.May) : MayR (twoR a b) := four ha hb zero_may zero_may
theorem twoR_is {a b : Dn} {d e : Dv} (hd : Is a d) (he : Is b e) : IsM (twoR a b) ⟨d, e, ZM.C, ZM.A⟩ := four hd he Is.zero Is.zero
theorem sm (m e : Nat) (h0 : m ≠ 0) (h1 : m < 16) (h2 : e ≤ 1024) (h3 : 0 < e → m % 2 = 1) : Dn.May ⟨false, m, e⟩ := may_small _ _ _ h0 h1 h2 h3
end Ma
end Go.Proofs.Ytbbnbgllgomolaa
namespace Go.Proofs.Ytbbnbgllgomolaa
open Go.RowKit
namespace Dy
open Dp
/-- Cells that may be written. -/
def WrS (w : World) (b off n : Nat) : Prop := ∀ j, j < n → (∃ u, w.cell? ⟨b, off + j, none⟩ = some u) ∧ w.frozen? ⟨b, off + j, none⟩ = false
theorem WrS.blk {w w' : World} {b off n : Nat} (h : WrS w b off n) (hk : w'.heap[b]? = w.heap[b]?) : WrS w' b off n := fun j hj => by
 obtain ⟨⟨u, h1⟩, h2⟩ := h j hj
 exact ⟨⟨u, by rw [World.cell?_of_block hk]; exact h1⟩, by rw [World.frozen?_of_block hk]; exact h2⟩
/-- A row that may be written. -/
def WrR (w : World) (lo hi : Nat) (A : Option Addr) (n : Nat) : Prop := 0 < n → ∃ b off, A = some ⟨b, off, none⟩ ∧ lo ≤ b ∧ b < hi ∧ WrS w b off n
theorem WrR.of {w : World} {lo hi n : Nat} {A : Option Addr} {xs : List Int} (h : Ints w lo hi .u32 A n xs) : WrR w lo hi A n := fun h0 => by
 obtain ⟨b, off, e, h1, h2, hc⟩ := h.row h0
 exact ⟨b, off, e, h1, h2, fun j hj => ⟨⟨_, (hc j hj).1⟩, (hc j hj).2⟩⟩
theorem WrR.below {w w' : World} {lo hi B n : Nat} {A : Option Addr} (h : WrR w lo hi A n) (hb : Below B w w') (hB : hi ≤ B) : WrR w' lo hi A n := fun h0 => by
 obtain ⟨b, off, e, h1, h2, hW⟩ := h h0
 exact ⟨b, off, e, h1, h2, hW.blk (hb.block b (by omega))⟩
theorem WrR.keep {w w' : World} {lo hi n : Nat} {A : Option Addr} (h : WrR w lo hi A n) (hk : ∀ b off k, WrS w b off k → WrS w' b off k) : WrR w' lo hi A n := fun h0 => by
 obtain ⟨b, off, e, h1, h2, hW⟩ := h h0
 exact ⟨b, off, e, h1, h2, hk _ _ _ hW⟩
end Dy
end Go.Proofs.Ytbbnbgllgomolaa
namespace Go.Proofs.Ytbbnbgllgomolaa
open Go.RowKit
namespace Dy
open Dp
def rowB (ws : List Int) : Array Value := (ws.map (Value.int .u8)).toArray
theorem rowB_get (ws : List Int) {j : Nat} (h : j < ws.length) : (rowB ws)[j]? = some (.int .u8 (ws[j]?.getD 0)) := by
 simp [rowB, h]
theorem rowB_set (ws : List Int) (j : Nat) (v : Int) : (rowB ws).setIfInBounds j (.int .u8 v) = rowB (ws.set j v) := by
 simp [rowB, List.map_set]
/-- Digits from place t on, in a block of their own. -/
structure Qb (w : World) (g n t : Nat) (qh : List Int) : Prop where
 blk : w.heap[g]? = some (.cells (rowB (List.replicate t 0 ++ qh)) 5 (0, 0))
 len : t + qh.length = n
 dig : Dig 2 qh
theorem rep_set (t : Nat) (qh : List Int) (d : Int) : (List.replicate (t + 1) 0 ++ qh).set t d = List.replicate t 0 ++ (d :: qh) := by
 rw [List.replicate_succ', List.append_assoc, List.set_append]
 simp
theorem rep_zero (t : Nat) (qh : List Int) : (List.replicate (t + 1) (0 : Int) ++ qh) = List.replicate t 0 ++ (0 :: qh) := by
 rw [List.replicate_succ', List.append_assoc]
 rfl
theorem Qb.next {w : World} {g n t : Nat} {qh : List Int} (h : Qb w g n (t + 1) qh) : Qb w g n t (0 :: qh) :=
 ⟨by rw [← rep_zero]; exact h.blk, by have := h.len; simp; omega, fun x hx => by
  rcases List.mem_cons.1 hx with rfl | hx
  · decide
  · exact h.dig x hx⟩
theorem Qb.set {w : World} {g n t : Nat} {qh : List Int} (h : Qb w g n (t + 1) qh) : Qb (w.setCell ⟨g, t, none⟩ (.int .u8 1)) g n t (1 :: qh) :=
 ⟨by rw [heap_setCell_same w g t _ _ _ h.blk, rowB_set, rep_set], by have := h.len; simp; omega, fun x hx => by
  rcases List.mem_cons.1 hx with rfl | hx
  · decide
  · exact h.dig x hx⟩
theorem Qb.on {w w' : World} {g n t B : Nat} {qh : List Int} (h : Qb w g n t qh) (hb : Below B w w') (hB : g < B) : Qb w' g n t qh := ⟨(hb.block g hB).trans h.blk, h.len, h.dig⟩
theorem Qb.cell {w : World} {g n t : Nat} {qh : List Int} (h : Qb w g n t qh) {j : Nat} (hj : j < n) : w.cell? ⟨g, j, none⟩ = some (.int .u8 ((List.replicate t 0 ++ qh)[j]?.getD 0)) := by
 rw [cell_of_row w g j _ _ _ h.blk]
 exact rowB_get _ (by have := h.len; simp; omega)
theorem Qb.free {w : World} {g n t : Nat} {qh : List Int} (h : Qb w g n t qh) (j : Nat) : w.frozen? ⟨g, j, none⟩ = false := frozen_of_row w g j _ _ h.blk
end Dy
end Go.Proofs.Ytbbnbgllgomolaa
namespace Go.Proofs.Ytbbnbgllgomolaa
open Go.RowKit
namespace Ma
open Dp Dy
/-- A part's value, and what its rows hold. -/
structure Pv where
 M : Mv
 h : Bool
 mn : Int
 mx : Int
 A : Option Addr
 n : Nat
 c : Nat
 xs : List Int
structure PRows (w : World) (lo hi : Nat) (p : Pv) : Prop where
 M : MRows w lo hi p.M
 L : Ints w lo hi .u32 p.A p.n p.xs
theorem PRows.below {w w' : World} {lo hi B : Nat} {p : Pv} (h : PRows w lo hi p) (hb : Below B w w') (hB : hi ≤ B) : PRows w' lo hi p := ⟨h.M.below hb hB, h.L.below hb hB⟩
theorem PRows.more {w : World} {lo hi lo' hi' : Nat} {p : Pv} (h : PRows w lo hi p) (hl : lo' ≤ lo) (hh : hi ≤ hi') : PRows w lo' hi' p := ⟨h.M.more hl hh, h.L.more hl hh⟩
theorem PRows.on {w w' : World} {p : Pv} (h : PRows w 0 w.heap.size p) (hb : Below w.heap.size w w') : PRows w' 0 w'.heap.size p := (h.below hb (Nat.le_refl _)).more (Nat.le_refl _) hb.size
theorem PRows.rng {w w' : World} {lo hi : Nat} {p : Pv} (h : PRows w lo hi p) (hk : ∀ b, lo ≤ b → b < hi → w'.heap[b]? = w.heap[b]?) : PRows w' lo hi p := ⟨rows_rng h.M hk, intsR h.L hk⟩
/-- A part in a block. -/
def PBox (w : World) (g : Nat) (p : Pv) : Prop := w.heap[g]? = some (.cells #[.bool p.M.S.s, .slice p.M.S.A p.M.S.n p.M.S.c, .int .i64 p.M.S.e, .bool p.M.W.s, .slice p.M.W.A p.M.W.n p.M.W.c, .int .i64 p.M.W.e, .bool p.M.C.s, .slice p.M.C.A p.M.C.n p.M.C.c, .int .i64 p.M.C.e, .bool p.M.A.s, .slice p.M.A.A p.M.A.n p.M.A.c, .int .i64 p.M.A.e, .bool p.h, .int .i64 p.mn, .int .i64 p.mx, .slice p.A p.n p.c] 31 (0, 0))
/-- Its cells. -/
def PCells (w : World) (b o : Nat) (p : Pv) : Prop := w.cell? ⟨b, o, none⟩ = some (.bool p.M.S.s) ∧ w.cell? ⟨b, o + 1, none⟩ = some (.slice p.M.S.A p.M.S.n p.M.S.c) ∧ w.cell? ⟨b, o + 2, none⟩ = some (.int .i64 p.M.S.e) ∧ w.cell? ⟨b, o + 3, none⟩ = some (.bool p.M.W.s) ∧ w.cell? ⟨b, o + 4, none⟩ = some (.slice p.M.W.A p.M.W.n p.M.W.c) ∧ w.cell? ⟨b, o + 5, none⟩ = some (.int .i64 p.M.W.e) ∧ w.cell? ⟨b, o + 6, none⟩ = some (.bool p.M.C.s) ∧ w.cell? ⟨b, o + 7, none⟩ = some (.slice p.M.C.A p.M.C.n p.M.C.c) ∧ w.cell? ⟨b, o + 8, none⟩ = some (.int .i64 p.M.C.e) ∧ w.cell? ⟨b, o + 9, none⟩ = some (.bool p.M.A.s) ∧ w.cell? ⟨b, o + 10, none⟩ = some (.slice p.M.A.A p.M.A.n p.M.A.c) ∧ w.cell? ⟨b, o + 11, none⟩ = some (.int .i64 p.M.A.e) ∧ w.cell? ⟨b, o + 12, none⟩ = some (.bool p.h) ∧ w.cell? ⟨b, o + 13, none⟩ = some (.int .i64 p.mn) ∧ w.cell? ⟨b, o + 14, none⟩ = some (.int .i64 p.mx) ∧ w.cell? ⟨b, o + 15, none⟩ = some (.slice p.A p.n p.c)
theorem PCells.blk {w w' : World} {b o : Nat} {p : Pv} (h : PCells w b o p) (hk : w'.heap[b]? = w.heap[b]?) : PCells w' b o p := by
 obtain ⟨k0, k1, k2, k3, k4, k5, k6, k7, k8, k9, k10, k11, k12, k13, k14, k15⟩ := h
 exact ⟨by rw [World.cell?_of_block hk]; exact k0, by rw [World.cell?_of_block hk]; exact k1, by rw [World.cell?_of_block hk]; exact k2, by rw [World.cell?_of_block hk]; exact k3, by rw [World.cell?_of_block hk]; exact k4, by rw [World.cell?_of_block hk]; exact k5, by rw [World.cell?_of_block hk]; exact k6, by rw [World.cell?_of_block hk]; exact k7, by rw [World.cell?_of_block hk]; exact k8, by rw [World.cell?_of_block hk]; exact k9, by rw [World.cell?_of_block hk]; exact k10, by rw [World.cell?_of_block hk]; exact k11, by rw [World.cell?_of_block hk]; exact k12, by rw [World.cell?_of_block hk]; exact k13, by rw [World.cell?_of_block hk]; exact k14, by rw [World.cell?_of_block hk]; exact k15⟩
theorem PBox.cells {w : World} {g : Nat} {p : Pv} (h : PBox w g p) : PCells w g 0 p ∧ ∀ k, w.frozen? ⟨g, k, none⟩ = false := by
 have hf : ∀ k, w.frozen? ⟨g, k, none⟩ = false := fun k => frozen_of_row w g k _ _ h
 have hc : ∀ k v, (#[.bool p.M.S.s, .slice p.M.S.A p.M.S.n p.M.S.c, .int .i64 p.M.S.e, .bool p.M.W.s, .slice p.M.W.A p.M.W.n p.M.W.c, .int .i64 p.M.W.e, .bool p.M.C.s, .slice p.M.C.A p.M.C.n p.M.C.c, .int .i64 p.M.C.e, .bool p.M.A.s, .slice p.M.A.A p.M.A.n p.M.A.c, .int .i64 p.M.A.e, .bool p.h, .int .i64 p.mn, .int .i64 p.mx, .slice p.A p.n p.c] : Array Value)[k]? = some v → w.cell? ⟨g, k, none⟩ = some v := fun k v hk => by
  unfold PBox at h
  simp [World.cell?, h]
  simpa using hk
 exact ⟨⟨hc 0 _ rfl, hc 1 _ rfl, hc 2 _ rfl, hc 3 _ rfl, hc 4 _ rfl, hc 5 _ rfl, hc 6 _ rfl, hc 7 _ rfl, hc 8 _ rfl, hc 9 _ rfl, hc 10 _ rfl, hc 11 _ rfl, hc 12 _ rfl, hc 13 _ rfl, hc 14 _ rfl, hc 15 _ rfl⟩, hf⟩
/-- The same, its offsets as numbers. -/
theorem PBox.cell {w : World} {g : Nat} {p : Pv} (h : PBox w g p) : (w.cell? ⟨g, 0, none⟩ = some (.bool p.M.S.s) ∧ w.cell? ⟨g, 1, none⟩ = some (.slice p.M.S.A p.M.S.n p.M.S.c) ∧ w.cell? ⟨g, 2, none⟩ = some (.int .i64 p.M.S.e) ∧ w.cell? ⟨g, 3, none⟩ = some (.bool p.M.W.s) ∧ w.cell? ⟨g, 4, none⟩ = some (.slice p.M.W.A p.M.W.n p.M.W.c) ∧ w.cell? ⟨g, 5, none⟩ = some (.int .i64 p.M.W.e) ∧ w.cell? ⟨g, 6, none⟩ = some (.bool p.M.C.s) ∧ w.cell? ⟨g, 7, none⟩ = some (.slice p.M.C.A p.M.C.n p.M.C.c) ∧ w.cell? ⟨g, 8, none⟩ = some (.int .i64 p.M.C.e) ∧ w.cell? ⟨g, 9, none⟩ = some (.bool p.M.A.s) ∧ w.cell? ⟨g, 10, none⟩ = some (.slice p.M.A.A p.M.A.n p.M.A.c) ∧ w.cell? ⟨g, 11, none⟩ = some (.int .i64 p.M.A.e) ∧ w.cell? ⟨g, 12, none⟩ = some (.bool p.h) ∧ w.cell? ⟨g, 13, none⟩ = some (.int .i64 p.mn) ∧ w.cell? ⟨g, 14, none⟩ = some (.int .i64 p.mx) ∧ w.cell? ⟨g, 15, none⟩ = some (.slice p.A p.n p.c)) ∧ ∀ k, w.frozen? ⟨g, k, none⟩ = false := by
 have hf : ∀ k, w.frozen? ⟨g, k, none⟩ = false := fun k => frozen_of_row w g k _ _ h
 have hc : ∀ k v, (#[.bool p.M.S.s, .slice p.M.S.A p.M.S.n p.M.S.c, .int .i64 p.M.S.e, .bool p.M.W.s, .slice p.M.W.A p.M.W.n p.M.W.c, .int .i64 p.M.W.e, .bool p.M.C.s, .slice p.M.C.A p.M.C.n p.M.C.c, .int .i64 p.M.C.e, .bool p.M.A.s, .slice p.M.A.A p.M.A.n p.M.A.c, .int .i64 p.M.A.e, .bool p.h, .int .i64 p.mn, .int .i64 p.mx, .slice p.A p.n p.c] : Array Value)[k]? = some v → w.cell? ⟨g, k, none⟩ = some v := fun k v hk => by
  unfold PBox at h
  simp [World.cell?, h]
  simpa using hk
 exact ⟨⟨hc 0 _ rfl, hc 1 _ rfl, hc 2 _ rfl, hc 3 _ rfl, hc 4 _ rfl, hc 5 _ rfl, hc 6 _ rfl, hc 7 _ rfl, hc 8 _ rfl, hc 9 _ rfl, hc 10 _ rfl, hc 11 _ rfl, hc 12 _ rfl, hc 13 _ rfl, hc 14 _ rfl, hc 15 _ rfl⟩, hf⟩
theorem alloc_p (w : World) (p : Pv) : ∃ U, w.alloc (.cells #[.bool p.M.S.s, .slice p.M.S.A p.M.S.n p.M.S.c, .int .i64 p.M.S.e, .bool p.M.W.s, .slice p.M.W.A p.M.W.n p.M.W.c, .int .i64 p.M.W.e, .bool p.M.C.s, .slice p.M.C.A p.M.C.n p.M.C.c, .int .i64 p.M.C.e, .bool p.M.A.s, .slice p.M.A.A p.M.A.n p.M.A.c, .int .i64 p.M.A.e, .bool p.h, .int .i64 p.mn, .int .i64 p.mx, .slice p.A p.n p.c] 31) = U ∧ PBox U w.heap.size p ∧ Below w.heap.size w U ∧ w.heap.size < U.heap.size :=
 ⟨_, rfl, heap_alloc_last _ _, (Below.refl _ w).alloc (Nat.le_refl _) _, by simp⟩
def ZPv : Pv := ⟨ZM, false, 0, 0, none, 0, 0, []⟩
theorem alloc_zp (w : World) : ∃ U, w.alloc (.cells #[.bool false, .slice none 0 0, .int .i64 0, .bool false, .slice none 0 0, .int .i64 0, .bool false, .slice none 0 0, .int .i64 0, .bool false, .slice none 0 0, .int .i64 0, .bool false, .int .i64 0, .int .i64 0, .slice none 0 0] 31) = U ∧ PBox U w.heap.size ZPv ∧ Below w.heap.size w U ∧ w.heap.size < U.heap.size :=
 ⟨_, rfl, heap_alloc_last _ _, (Below.refl _ w).alloc (Nat.le_refl _) _, by simp⟩
/-- A whole part is laid. -/
theorem part_to {w : World} {g : Nat} {p0 : Pv} (h : PBox w g p0) (p : Pv) : ∃ U, ((((((((((((((((w.setCell ⟨g, 0, none⟩ (.bool p.M.S.s)).setCell ⟨g, 1, none⟩ (.slice p.M.S.A p.M.S.n p.M.S.c)).setCell ⟨g, 2, none⟩ (.int .i64 p.M.S.e)).setCell ⟨g, 3, none⟩ (.bool p.M.W.s)).setCell ⟨g, 4, none⟩ (.slice p.M.W.A p.M.W.n p.M.W.c)).setCell ⟨g, 5, none⟩ (.int .i64 p.M.W.e)).setCell ⟨g, 6, none⟩ (.bool p.M.C.s)).setCell ⟨g, 7, none⟩ (.slice p.M.C.A p.M.C.n p.M.C.c)).setCell ⟨g, 8, none⟩ (.int .i64 p.M.C.e)).setCell ⟨g, 9, none⟩ (.bool p.M.A.s)).setCell ⟨g, 10, none⟩ (.slice p.M.A.A p.M.A.n p.M.A.c)).setCell ⟨g, 11, none⟩ (.int .i64 p.M.A.e)).setCell ⟨g, 12, none⟩ (.bool p.h)).setCell ⟨g, 13, none⟩ (.int .i64 p.mn)).setCell ⟨g, 14, none⟩ (.int .i64 p.mx)).setCell ⟨g, 15, none⟩ (.slice p.A p.n p.c)) = U ∧ PBox U g p ∧ (∀ w0 B, Below B w0 w → B ≤ g → Below B w0 U) ∧ (∀ j, j ≠ g → U.heap[j]? = w.heap[j]?) ∧ U.heap.size ≤ w.heap.size ∧ w.heap.size ≤ U.heap.size := by
 refine ⟨_, rfl, ?_, fun w0 B hb hg => ?_, fun j hj => ?_, ?_, ?_⟩
 · unfold PBox at h ⊢
   simp [World.setCell, Array.getElem?_modify, h]
 · repeat (refine Below.setCell ?_ hg _)
   exact hb
 · have hj' : ¬ g = j := fun e => hj e.symm
   simp [World.setCell, Array.getElem?_modify, hj']
 · simp [World.setCell]
 · simp [World.setCell]
/-- Its mass, or its tags, are laid. -/
theorem part_mass {w : World} {g : Nat} {p : Pv} (h : PBox w g p) (m : Mv) : ∃ U, ((((((((((((w.setCell ⟨g, 0, none⟩ (.bool m.S.s)).setCell ⟨g, 1, none⟩ (.slice m.S.A m.S.n m.S.c)).setCell ⟨g, 2, none⟩ (.int .i64 m.S.e)).setCell ⟨g, 3, none⟩ (.bool m.W.s)).setCell ⟨g, 4, none⟩ (.slice m.W.A m.W.n m.W.c)).setCell ⟨g, 5, none⟩ (.int .i64 m.W.e)).setCell ⟨g, 6, none⟩ (.bool m.C.s)).setCell ⟨g, 7, none⟩ (.slice m.C.A m.C.n m.C.c)).setCell ⟨g, 8, none⟩ (.int .i64 m.C.e)).setCell ⟨g, 9, none⟩ (.bool m.A.s)).setCell ⟨g, 10, none⟩ (.slice m.A.A m.A.n m.A.c)).setCell ⟨g, 11, none⟩ (.int .i64 m.A.e)) = U ∧ PBox U g { p with M := m } ∧ (∀ w0 B, Below B w0 w → B ≤ g → Below B w0 U) ∧ (∀ j, j ≠ g → U.heap[j]? = w.heap[j]?) ∧ U.heap.size ≤ w.heap.size ∧ w.heap.size ≤ U.heap.size := by
 refine ⟨_, rfl, ?_, fun w0 B hb hg => ?_, fun j hj => ?_, ?_, ?_⟩
 · unfold PBox at h ⊢
   simp [World.setCell, Array.getElem?_modify, h]
 · repeat (refine Below.setCell ?_ hg _)
   exact hb
 · have hj' : ¬ g = j := fun e => hj e.symm
   simp [World.setCell, Array.getElem?_modify, hj']
 · simp [World.setCell]
 · simp [World.setCell]
theorem part_tags {w : World} {g : Nat} {p : Pv} (h : PBox w g p) (A : Option Addr) (n c : Nat) (xs : List Int) : ∃ U, (w.setCell ⟨g, 15, none⟩ (.slice A n c)) = U ∧ PBox U g { p with A := A, n := n, c := c, xs := xs } ∧ (∀ w0 B, Below B w0 w → B ≤ g → Below B w0 U) ∧ (∀ j, j ≠ g → U.heap[j]? = w.heap[j]?) ∧ U.heap.size ≤ w.heap.size ∧ w.heap.size ≤ U.heap.size := by
 refine ⟨_, rfl, ?_, fun w0 B hb hg => hb.setCell hg _, fun j hj => ?_, ?_, ?_⟩
 · unfold PBox at h ⊢
   simp [World.setCell, Array.getElem?_modify, h]
 · have hj' : ¬ g = j := fun e => hj e.symm
   simp [World.setCell, Array.getElem?_modify, hj']
 · simp [World.setCell]
 · simp [World.setCell]
/-- Two parts are the same. -/
def sameE (a b : Pv) : Bool := decide (a.h = b.h) && decide (a.mn = b.mn) && decide (a.mx = b.mx)
def sameP (a b : Pv) : Bool := sameM a.M b.M && sameE a b && Pa.Sm a.xs b.xs
def greatP (p : Pv) : Bool := greatM p.M || decide (70 < p.n)
/-- A copy. -/
def TwinP (p q : Pv) : Prop := (∀ x, x < 4 → TwinV (p.M.get x) (q.M.get x)) ∧ q.h = p.h ∧ q.mn = p.mn ∧ q.mx = p.mx ∧ q.n = p.n ∧ q.xs = p.xs
end Ma
end Go.Proofs.Ytbbnbgllgomolaa
namespace Go.Proofs.Ytbbnbgllgomolaa
open Go.RowKit
namespace Ma
open Dp Dy
structure Fv where
 e : Int
 P : Pv
def FCells (w : World) (b o : Nat) (f : Fv) : Prop := w.cell? ⟨b, o, none⟩ = some (.int .i64 f.e) ∧ PCells w b (o + 1) f.P
theorem FCells.blk {w w' : World} {b o : Nat} {f : Fv} (h : FCells w b o f) (hk : w'.heap[b]? = w.heap[b]?) : FCells w' b o f := ⟨by rw [World.cell?_of_block hk]; exact h.1, h.2.blk hk⟩
/-- Frozen parts in a row. -/
structure LFs (w : World) (lo hi : Nat) (A : Option Addr) (n : Nat) (fs : List Fv) : Prop where
 len : fs.length = n
 big : n ≤ 9223372036854775807
 row : 0 < n → ∃ b off, A = some ⟨b, off, none⟩ ∧ lo ≤ b ∧ b < hi ∧ ∀ j (h : j < fs.length), FCells w b (off + j * 17) fs[j]
 rows : ∀ j (h : j < fs.length), PRows w lo hi fs[j].P
theorem LFs.below {w w' : World} {lo hi B : Nat} {A : Option Addr} {n : Nat} {fs : List Fv} (h : LFs w lo hi A n fs) (hb : Below B w w') (hB : hi ≤ B) : LFs w' lo hi A n fs :=
 ⟨h.len, h.big, fun h0 => by
  obtain ⟨b, off, e, h1, h2, hc⟩ := h.row h0
  exact ⟨b, off, e, h1, h2, fun j hj => (hc j hj).blk (hb.block b (by omega))⟩, fun j hj => (h.rows j hj).below hb hB⟩
theorem LFs.more {w : World} {lo hi lo' hi' : Nat} {A : Option Addr} {n : Nat} {fs : List Fv} (h : LFs w lo hi A n fs) (hl : lo' ≤ lo) (hh : hi ≤ hi') : LFs w lo' hi' A n fs :=
 ⟨h.len, h.big, fun h0 => by
  obtain ⟨b, off, e, h1, h2, hc⟩ := h.row h0
  exact ⟨b, off, e, by omega, by omega, hc⟩, fun j hj => (h.rows j hj).more hl hh⟩
theorem LFs.rng {w w' : World} {lo hi : Nat} {A : Option Addr} {n : Nat} {fs : List Fv} (h : LFs w lo hi A n fs) (hk : ∀ b, lo ≤ b → b < hi → w'.heap[b]? = w.heap[b]?) : LFs w' lo hi A n fs :=
 ⟨h.len, h.big, fun h0 => by
  obtain ⟨b, off, e, h1, h2, hc⟩ := h.row h0
  exact ⟨b, off, e, h1, h2, fun j hj => (hc j hj).blk (hk b h1 h2)⟩, fun j hj => (h.rows j hj).rng hk⟩
theorem LFs.on {w w' : World} {A : Option Addr} {n : Nat} {fs : List Fv} (h : LFs w 0 w.heap.size A n fs) (hb : Below w.heap.size w w') : LFs w' 0 w'.heap.size A n fs := (h.below hb (Nat.le_refl _)).more (Nat.le_refl _) hb.size
/-- The rows of a part, in all. -/
def bigP (p : Pv) : Int := (p.M.S.n : Int) + p.M.W.n + p.M.C.n + p.M.A.n + p.n
/-- More than statements go through. -/
def greatF (n : Nat) (fs : List Fv) : Bool := (decide (40 < n) && decide (n < 1024)) || decide (1028 < n) || fs.any fun f => greatP f.P || (decide (40 < n) && decide (4 < bigP f.P))
/-- Two lists are the same. -/
def sameF (fs gs : List Fv) : Bool := decide (fs.length = gs.length) && (fs.zip gs).all fun x => decide (x.1.e = x.2.e) && sameP x.1.P x.2.P
theorem any_at {f : Fv → Bool} : ∀ {l : List Fv} {i : Nat} (h : i < l.length), f l[i] = true → l.any f = true
 | a :: l, 0, _, h => by simp at h; simp [h]
 | a :: l, i + 1, h, k => by
  have := any_at (f := f) (l := l) (i := i) (by simpa using h) (by simpa using k)
  simp [this]
theorem any_none {f : Fv → Bool} {l : List Fv} (h : ∀ i (hi : i < l.length), f l[i] = false) : l.any f = false := by
 cases hx : l.any f
 · rfl
 · obtain ⟨a, ha, k⟩ := List.any_eq_true.1 hx
   obtain ⟨i, hi, rfl⟩ := List.mem_iff_getElem.1 ha
   rw [h i hi] at k
   cases k
end Ma
end Go.Proofs.Ytbbnbgllgomolaa
namespace Go.Proofs.Ytbbnbgllgomolaa
namespace Least
def risesTo (xs : List Int) : Nat → Bool
 | 0 => true
 | k + 1 => risesTo xs k && (k == 0 || decide (xs[k-1]?.getD 0 < xs[k]?.getD 0))
def rises (xs : List Int) : Bool := risesTo xs xs.length
def checkCode (xs : List Int) : Int := if 8 < xs.length then 4 else if rises xs then 0 else 8
theorem risesTo_iff (xs : List Int) (k : Nat) : risesTo xs k = true ↔ ∀ j, 1 ≤ j → j < k → xs[j-1]?.getD 0 < xs[j]?.getD 0 := by
 induction k with
 | zero => simp [risesTo]
 | succ k ih =>
  simp only [risesTo, Bool.and_eq_true, Bool.or_eq_true, beq_iff_eq, decide_eq_true_eq, ih]
  constructor
  · rintro ⟨h1, h2⟩ j hj hk
    by_cases e : j = k
    · subst e; exact h2.resolve_left (by omega)
    · exact h1 j hj (by omega)
  · intro h
    refine ⟨fun j h1 h2 => h j h1 (by omega), ?_⟩
    by_cases e : k = 0
    · exact .inl e
    · exact .inr (h k (by omega) (by omega))
theorem risesTo_false {xs : List Int} {k n : Nat} (h : risesTo xs k = false) (hn : k ≤ n) : risesTo xs n = false := by
 rw [Bool.eq_false_iff] at h ⊢
 intro h2
 exact h ((risesTo_iff xs k).2 fun j h1 h3 => (risesTo_iff xs n).1 h2 j h1 (by omega))
end Least
end Go.Proofs.Ytbbnbgllgomolaa
namespace Go.Proofs.Ytbbnbgllgomolaa
open Go.RowKit
namespace Ma
open Dp Dy
/-- May an edge be? -/
def mayE (h : Bool) (mn mx : Int) : Bool := if h then decide (-2147483647 ≤ mn ∧ mn ≤ 2147483647 ∧ -2147483647 ≤ mx ∧ mx ≤ 2147483647 ∧ mn ≤ mx) else decide (mn = 0 ∧ mx = 0)
/-- May a part be? -/
noncomputable def mayP (p : Pv) : Bool := !badS [p.M] && (mayE p.h p.mn p.mx && decide (Least.checkCode p.xs = 0))
/-- May frozen parts be, all behind an epoch? -/
noncomputable def mayF : Int → List Fv → Bool
 | _, [] => true
 | a, f :: l => decide (a < f.e ∧ f.e ≤ 65535) && (mayP f.P && mayF f.e l)
noncomputable def checkF (n : Nat) (fs : List Fv) : Int := if 1024 < n then 4 else if mayF (-1) fs then 0 else 8
noncomputable def askF (n : Nat) (fs : List Fv) (z : Int) : Int := if checkF n fs ≠ 0 then checkF n fs else if z < 0 ∨ 65535 < z then 2 else 0
/-- How many are of earlier epochs. -/
def aheadF : List Fv → Int → Nat
 | [], _ => 0
 | f :: l, z => if f.e < z then aheadF l z + 1 else 0
theorem aheadF_le : ∀ (fs : List Fv) (z : Int), aheadF fs z ≤ fs.length
 | [], _ => Nat.le_refl _
 | f :: l, z => by
  have := aheadF_le l z
  unfold aheadF
  split
  · simp; omega
  · exact Nat.zero_le _
theorem mayF_at : ∀ {fs : List Fv} {a : Int}, mayF a fs = true → ∀ j (h : j < fs.length), a < fs[j].e ∧ fs[j].e ≤ 65535 ∧ mayP fs[j].P = true
 | [], _, _, j, h => absurd h (Nat.not_lt_zero _)
 | f :: l, a, hm, j, h => by
  simp only [mayF, Bool.and_eq_true, decide_eq_true_eq] at hm
  obtain ⟨⟨h1, h2⟩, h3, h4⟩ := hm
  match j, h with
  | 0, _ => exact ⟨h1, h2, h3⟩
  | j + 1, h =>
   obtain ⟨k1, k2, k3⟩ := mayF_at h4 j (by simpa using h)
   exact ⟨by simp; omega, by simpa using k2, by simpa using k3⟩
theorem mayF_rise : ∀ {fs : List Fv} {a : Int}, mayF a fs = true → ∀ i j (h1 : i < fs.length) (h2 : j < fs.length), i < j → fs[i].e < fs[j].e
 | [], _, _, i, _, h, _, _ => absurd h (Nat.not_lt_zero _)
 | f :: l, a, hm, i, j, h1, h2, hij => by
  simp only [mayF, Bool.and_eq_true, decide_eq_true_eq] at hm
  obtain ⟨_, _, h4⟩ := hm
  match i, j, h1, h2 with
  | 0, j + 1, _, h2 => exact (mayF_at h4 j (by simpa using h2)).1
  | i + 1, j + 1, h1, h2 => exact mayF_rise h4 i j (by simpa using h1) (by simpa using h2) (by omega)
theorem aheadF_lt : ∀ {fs : List Fv} {z : Int} (j : Nat) (h : j < fs.length), j < aheadF fs z → fs[j].e < z
 | f :: l, z, 0, _, hj => by
  unfold aheadF at hj
  split at hj
  · assumption
  · exact absurd hj (Nat.lt_irrefl 0)
 | f :: l, z, j + 1, h, hj => by
  unfold aheadF at hj
  split at hj
  · exact aheadF_lt (fs := l) j (by simpa using h) (by omega)
  · exact absurd hj (Nat.not_lt_zero _)
theorem aheadF_ge : ∀ {fs : List Fv} {a z : Int}, mayF a fs = true → ∀ j (h : j < fs.length), aheadF fs z ≤ j → z ≤ fs[j].e
 | f :: l, a, z, hm, j, h, hj => by
  have hm' := hm
  simp only [mayF, Bool.and_eq_true, decide_eq_true_eq] at hm
  obtain ⟨_, _, h4⟩ := hm
  unfold aheadF at hj
  split at hj
  · match j, h with
    | 0, _ => omega
    | j + 1, h => exact aheadF_ge h4 j (by simpa using h) (by omega)
  · match j, h with
    | 0, _ => simp; omega
    | j + 1, h =>
     have := (mayF_at h4 j (by simpa using h)).1
     simp
     omega
/-- Where they rise, the number is told by what stands on its two sides. -/
theorem aheadF_is {fs : List Fv} {a z : Int} (hm : mayF a fs = true) (k : Nat) (hk : k ≤ fs.length) (h1 : ∀ j (h : j < fs.length), j < k → fs[j].e < z) (h2 : ∀ j (h : j < fs.length), k ≤ j → z ≤ fs[j].e) : aheadF fs z = k := by
 have hl := aheadF_le fs z
 rcases Nat.lt_trichotomy (aheadF fs z) k with h | h | h
 · have k1 := h1 (aheadF fs z) (by omega) h
   have k2 := aheadF_ge hm (z := z) (aheadF fs z) (by omega) (Nat.le_refl _)
   omega
 · exact h
 · have k1 := aheadF_lt (z := z) k (by omega) h
   have k2 := h2 k (by omega) (Nat.le_refl _)
   omega
/-- A walk from the left: what stands behind place i may be. -/
theorem mayF_drop {fs : List Fv} {i : Nat} (h : i < fs.length) (a : Int) : mayF a (fs.drop i) = (decide (a < fs[i].e ∧ fs[i].e ≤ 65535) && (mayP fs[i].P && mayF fs[i].e (fs.drop (i + 1)))) := by
 rw [List.drop_eq_getElem_cons h]
 rfl
theorem mayF_end {fs : List Fv} {i : Nat} (h : fs.length ≤ i) (a : Int) : mayF a (fs.drop i) = true := by
 rw [List.drop_eq_nil_of_le h]
 rfl
theorem checkF_zero {n : Nat} {fs : List Fv} (h : checkF n fs = 0) : n ≤ 1024 ∧ mayF (-1) fs = true := by
 unfold checkF at h
 split at h
 · omega
 · split at h
   · exact ⟨by omega, by assumption⟩
   · omega
theorem askF_zero {n : Nat} {fs : List Fv} {z : Int} (h : askF n fs z = 0) : n ≤ 1024 ∧ mayF (-1) fs = true ∧ 0 ≤ z ∧ z ≤ 65535 := by
 unfold askF at h
 split at h
 · exact absurd h (by assumption)
 · split at h
   · omega
   · have h0 : checkF n fs = 0 := by
       rename_i k _
       exact Classical.byContradiction fun e => k e
     obtain ⟨a, b⟩ := checkF_zero h0
     exact ⟨a, b, by omega, by omega⟩
/-- The code of freezing. -/
noncomputable def freezeF (n : Nat) (fs : List Fv) (z : Int) (p : Pv) : Int := if askF n fs z ≠ 0 then askF n fs z else if mayP p = false then 8 else if aheadF fs z < n then 12 else if n = 1024 then 9 else 0
/-- The code of getting. -/
noncomputable def getF (n : Nat) (fs : List Fv) (z : Int) : Int := if askF n fs z ≠ 0 then askF n fs z else match fs[aheadF fs z]? with
 | some f => if f.e = z then 0 else 6
 | none => 6
end Ma
end Go.Proofs.Ytbbnbgllgomolaa