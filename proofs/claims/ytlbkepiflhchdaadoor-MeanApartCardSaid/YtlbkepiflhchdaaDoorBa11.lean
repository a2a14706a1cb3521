/- Plain laws about masses' values, and contracts that say the numbers (printed by a program of mine). -/
/- mass.Sum: a walk (printed by a program of mine). -/
/- headcountlaw06.half and alive: walks (printed by a program of mine). -/
/- Lists of masses that a call owns: appended to, stored in; no function in sight (printed by a program of mine). -/
/- How far numbers are apart: no program in sight. -/
/- Lists of dyads: read, and appended to; no function in sight (printed by a program of mine). -/
/- mean.pair, mean.middle: walks (printed by a program of mine). -/
/- Array values of two pointers. -/
import Derived.Test.YtlbkepiflhchdaaDoorBa10
import Derived.Test.YtlbkepiflhchdaaDoorBa06
namespace Go.Proofs.YtlbkepiflhchdaaDoor
open Go.RowKit
namespace Ma
open Dp Dy
/-- d is the form of the number r. -/
def Is (r : Dn) (d : Dv) : Prop := d.s = r.neg ∧ d.e = r.e ∧ d.xs = canon 4294967296 r.m
theorem ResV.is {W : World} {lo : Nat} {r : Dn} {d : Dv} (h : ResV W lo r d) : Is r d := ⟨h.1, h.2.1, h.2.2.1⟩
theorem ResV.row {W : World} {lo : Nat} {r : Dn} {d : Dv} (h : ResV W lo r d) : Ints W lo W.heap.size .u32 d.A d.n d.xs := h.2.2.2.2
theorem Is.may {r : Dn} {d : Dv} (h : Is r d) (hr : r.May) : d.may := by
  unfold Dv.may
  rw [h.1, h.2.1, h.2.2]
  exact dn_may hr
theorem Is.same {r : Dn} {d d' : Dv} (h : Is r d) (h' : Is r d') : sameV d d' = true := by
  unfold sameV
  rw [h.1, h.2.1, h.2.2, h'.1, h'.2.1, h'.2.2]
  exact Pa.Dy.same_refl _
theorem Is.of {d : Dv} (hd : Dig 4294967296 d.xs) (hm : d.may) : Is (dn d.s d.xs d.e) d := ⟨rfl, (dn_ok hd hm).2.2.symm, (dn_ok hd hm).2.1.symm⟩
theorem Is.twin {r : Dn} {d d' : Dv} (h : Is r d) (ht : TwinV d d') : Is r d' := ⟨ht.1.trans h.1, ht.2.2.1.trans h.2.1, ht.2.2.2.1.trans h.2.2⟩
theorem Is.zero : Is Dn.zero ⟨false, none, 0, 0, 0, []⟩ := ⟨rfl, rfl, rfl⟩
theorem Is.add {r r' : Dn} {d d' : Dv} (h : Is r d) (h' : Is r' d') (hr : r.May) (hr' : r'.May) : addX d.s d.xs d.e d'.s d'.xs d'.e = addD r r' := by
  rw [addX_ok (h.may hr) (h'.may hr'), h.1, h.2.1, h.2.2, h'.1, h'.2.1, h'.2.2, dn_of, dn_of]
theorem Is.sub {r r' : Dn} {d d' : Dv} (h : Is r d) (h' : Is r' d') (hr : r.May) (hr' : r'.May) : subX d.s d.xs d.e d'.s d'.xs d'.e = subD r r' := by
  rw [subX_ok (h.may hr) (h'.may hr'), h.1, h.2.1, h.2.2, h'.1, h'.2.1, h'.2.2, dn_of, dn_of]
theorem add_zero {a : Dn} (ha : a.May) : addD a Dn.zero = (a, 0) :=
  add_of ha (K := a.e) (Nat.le_refl _) (Nat.zero_le _) (Nat.le_refl _) (by rw [vl_zero]; omega)
theorem zero_add {a : Dn} (ha : a.May) : addD Dn.zero a = (a, 0) := by rw [add_comm]; exact add_zero ha
/-- m is the form of the numbers R. -/
def IsM (R : Nat → Dn) (m : Mv) : Prop := ∀ x, x < 4 → Is (R x) (m.get x)
def MayR (R : Nat → Dn) : Prop := ∀ x, x < 4 → (R x).May
def dnM (m : Mv) (x : Nat) : Dn := dn (m.get x).s (m.get x).xs (m.get x).e
def zR (_ : Nat) : Dn := Dn.zero
theorem IsM.zero : IsM zR ZM := four Is.zero Is.zero Is.zero Is.zero
theorem IsM.same {R : Nat → Dn} {a b : Mv} (h : IsM R a) (h' : IsM R b) : sameM a b = true := (sameM_iff a b).2 fun x hx => (h x hx).same (h' x hx)
theorem IsM.may {R : Nat → Dn} {m : Mv} (h : IsM R m) (hr : MayR R) : m.may := fun x hx => (h x hx).may (hr x hx)
theorem IsM.of {w : World} {lo hi : Nat} {m : Mv} (hR : MRows w lo hi m) (h : m.may) : IsM (dnM m) m := fun x hx => Is.of (dig_ints (hR.get x)) (h x hx)
theorem dnM_may {w : World} {lo hi : Nat} {m : Mv} (hR : MRows w lo hi m) (h : m.may) : MayR (dnM m) := fun x hx => (dn_ok (dig_ints (hR.get x)) (h x hx)).1
theorem IsM.add {R S : Nat → Dn} {a b : Mv} (h : IsM R a) (h' : IsM S b) (hr : MayR R) (hs : MayR S) {x : Nat} (hx : x < 4) : xAdd a b x = addD (R x) (S x) := (h x hx).add (h' x hx) (hr x hx) (hs x hx)
theorem IsM.sub {R S : Nat → Dn} {a b : Mv} (h : IsM R a) (h' : IsM S b) (hr : MayR R) (hs : MayR S) {x : Nat} (hx : x < 4) : xSub a b x = subD (R x) (S x) := (h x hx).sub (h' x hx) (hr x hx) (hs x hx)
theorem IsM.twin {R : Nat → Dn} {a b : Mv} (h : IsM R a) (ht : ∀ x, x < 4 → TwinV (a.get x) (b.get x)) : IsM R b := fun x hx => (h x hx).twin (ht x hx)
end Ma
end Go.Proofs.YtlbkepiflhchdaaDoor
namespace Go.Proofs.YtlbkepiflhchdaaDoor
open Go.RowKit
namespace Ma
open Dp Dy
/-- A mass's twelve cells amid a row. -/
def MCells (w : World) (b o : Nat) (m : Mv) : Prop := w.cell? ⟨b, o, none⟩ = some (.bool m.S.s) ∧ w.cell? ⟨b, o + 1, none⟩ = some (.slice m.S.A m.S.n m.S.c) ∧ w.cell? ⟨b, o + 2, none⟩ = some (.int .i64 m.S.e) ∧ w.cell? ⟨b, o + 3, none⟩ = some (.bool m.W.s) ∧ w.cell? ⟨b, o + 4, none⟩ = some (.slice m.W.A m.W.n m.W.c) ∧ w.cell? ⟨b, o + 5, none⟩ = some (.int .i64 m.W.e) ∧ w.cell? ⟨b, o + 6, none⟩ = some (.bool m.C.s) ∧ w.cell? ⟨b, o + 7, none⟩ = some (.slice m.C.A m.C.n m.C.c) ∧ w.cell? ⟨b, o + 8, none⟩ = some (.int .i64 m.C.e) ∧ w.cell? ⟨b, o + 9, none⟩ = some (.bool m.A.s) ∧ w.cell? ⟨b, o + 10, none⟩ = some (.slice m.A.A m.A.n m.A.c) ∧ w.cell? ⟨b, o + 11, none⟩ = some (.int .i64 m.A.e)
/-- Masses in a row. -/
structure LMs (w : World) (lo hi : Nat) (A : Option Addr) (n : Nat) (ms : List Mv) : Prop where
  len : ms.length = n
  big : n ≤ 9223372036854775807
  row : 0 < n → ∃ b off, A = some ⟨b, off, none⟩ ∧ lo ≤ b ∧ b < hi ∧ ∀ j (h : j < ms.length), MCells w b (off + j * 12) ms[j]
  rows : ∀ j (h : j < ms.length), MRows w lo hi ms[j]
theorem infoM : (Tryd.prog.info? 39).map (fun i => (i.zero, i.size, i.bytes)) = some (some (.agg #[.bool false, .slice none 0 0, .int .i64 0, .bool false, .slice none 0 0, .int .i64 0, .bool false, .slice none 0 0, .int .i64 0, .bool false, .slice none 0 0, .int .i64 0]), 12, 160) := by kernel_rfl
theorem MCells.blk {w w' : World} {b o : Nat} {m : Mv} (h : MCells w b o m) (hk : w'.heap[b]? = w.heap[b]?) : MCells w' b o m := by
  obtain ⟨h0, h1, h2, h3, h4, h5, h6, h7, h8, h9, h10, h11⟩ := h
  exact ⟨by rw [World.cell?_of_block hk]; exact h0, by rw [World.cell?_of_block hk]; exact h1, by rw [World.cell?_of_block hk]; exact h2, by rw [World.cell?_of_block hk]; exact h3, by rw [World.cell?_of_block hk]; exact h4, by rw [World.cell?_of_block hk]; exact h5, by rw [World.cell?_of_block hk]; exact h6, by rw [World.cell?_of_block hk]; exact h7, by rw [World.cell?_of_block hk]; exact h8, by rw [World.cell?_of_block hk]; exact h9, by rw [World.cell?_of_block hk]; exact h10, by rw [World.cell?_of_block hk]; exact h11⟩
theorem LMs.below {w w' : World} {lo hi B : Nat} {A : Option Addr} {n : Nat} {ms : List Mv} (h : LMs w lo hi A n ms) (hb : Below B w w') (hB : hi ≤ B) : LMs w' lo hi A n ms :=
  ⟨h.len, h.big, fun h0 => by
    obtain ⟨b, off, e, h1, h2, hc⟩ := h.row h0
    exact ⟨b, off, e, h1, h2, fun j hj => (hc j hj).blk (hb.block b (by omega))⟩, fun j hj => (h.rows j hj).below hb hB⟩
theorem LMs.more {w : World} {lo hi lo' hi' : Nat} {A : Option Addr} {n : Nat} {ms : List Mv} (h : LMs w lo hi A n ms) (hl : lo' ≤ lo) (hh : hi ≤ hi') : LMs w lo' hi' A n ms :=
  ⟨h.len, h.big, fun h0 => by
    obtain ⟨b, off, e, h1, h2, hc⟩ := h.row h0
    exact ⟨b, off, e, by omega, by omega, hc⟩, fun j hj => (h.rows j hj).more hl hh⟩
open Classical in
noncomputable def foldM : (Nat → Dn) → List Mv → Option (Nat → Dn)
  | R, [] => some R
  | R, m :: l => if ∀ x, x < 4 → (addD (R x) (dnM m x)).2 = 0 then foldM (fun x => (addD (R x) (dnM m x)).1) l else none
open Classical in
/-- What the sum of all is. -/
noncomputable def sumM (ms : List Mv) : (Nat → Dn) × Int :=
  if 4096 < ms.length then (zR, 4) else if ∃ m ∈ ms, ¬ m.may then (zR, 8) else match foldM zR ms with
    | some R => (R, 0)
    | none => (zR, 10)
open Classical in
theorem foldM_cons (R : Nat → Dn) (m : Mv) (l : List Mv) : foldM R (m :: l) = if ∀ x, x < 4 → (addD (R x) (dnM m x)).2 = 0 then foldM (fun x => (addD (R x) (dnM m x)).1) l else none := rfl
end Ma
end Go.Proofs.YtlbkepiflhchdaaDoor
namespace Go.Proofs.YtlbkepiflhchdaaDoor
open Go.RowKit
namespace Ma
open Dp Dy
theorem MRows.on {w w' : World} {m : Mv} (h : MRows w 0 w.heap.size m) (hb : Below w.heap.size w w') : MRows w' 0 w'.heap.size m := (h.below hb (Nat.le_refl _)).more (Nat.le_refl _) hb.size
end Ma
end Go.Proofs.YtlbkepiflhchdaaDoor
namespace Go.Proofs.YtlbkepiflhchdaaDoor
open Go.RowKit
namespace Ma
open Dp Dy
/-- A mass's cells. -/
def cells12 (m : Mv) : List Value := [.bool m.S.s, .slice m.S.A m.S.n m.S.c, .int .i64 m.S.e, .bool m.W.s, .slice m.W.A m.W.n m.W.c, .int .i64 m.W.e, .bool m.C.s, .slice m.C.A m.C.n m.C.c, .int .i64 m.C.e, .bool m.A.s, .slice m.A.A m.A.n m.A.c, .int .i64 m.A.e]
/-- Those of masses. -/
def flatM : List Mv → List Value
  | [] => []
  | m :: l => cells12 m ++ flatM l
theorem flatM_append : ∀ l k, flatM (l ++ k) = flatM l ++ flatM k
  | [], _ => rfl
  | m :: l, k => by simp [flatM, flatM_append l k]
theorem flatM_one (m : Mv) : flatM [m] = cells12 m := by simp [flatM]
theorem cells12_one (m : Mv) : ∀ u ∈ cells12 m, u.oneCell' = true := by
  intro u hu
  simp only [cells12, List.mem_cons, List.not_mem_nil, or_false] at hu
  rcases hu with rfl | rfl | rfl | rfl | rfl | rfl | rfl | rfl | rfl | rfl | rfl | rfl <;> rfl
theorem flatM_get : ∀ (l : List Mv) (j k : Nat) (h : j < l.length), k < 12 → (flatM l)[j * 12 + k]? = (cells12 l[j])[k]?
  | [], j, k, h, _ => absurd h (Nat.not_lt_zero _)
  | m :: l, 0, k, _, hk => by
    simp only [flatM, Nat.zero_mul, Nat.zero_add, List.getElem_cons_zero]
    rw [List.getElem?_append_left (by simp [cells12]; omega)]
  | m :: l, j + 1, k, h, hk => by
    have e : (j + 1) * 12 + k = (cells12 m).length + (j * 12 + k) := by simp [cells12]; omega
    simp only [flatM, List.getElem_cons_succ]
    rw [e, List.getElem?_append_right (by omega), Nat.add_sub_cancel_left]
    exact flatM_get l j k (by simpa using h) hk
theorem mcells_of {w : World} {b o : Nat} {m : Mv} (h : ∀ k, k < 12 → w.cell? ⟨b, o + k, none⟩ = (cells12 m)[k]?) : MCells w b o m :=
  ⟨h 0 (by decide), h 1 (by decide), h 2 (by decide), h 3 (by decide), h 4 (by decide), h 5 (by decide), h 6 (by decide), h 7 (by decide), h 8 (by decide), h 9 (by decide), h 10 (by decide), h 11 (by decide)⟩
/-- A dyad's limbs lie in another block. -/
def Dv.off (d : Dv) (g : Option Nat) : Prop := ∀ a, d.A = some a → 0 < d.n → g ≠ some a.block
def Mv.off (m : Mv) (g : Option Nat) : Prop := ∀ x, x < 4 → (m.get x).off g
theorem ints_grown {w w' : World} {row : Option Nat} {k : IntKind} {A : Option Addr} {n : Nat} {xs : List Int} (h : Ints w 0 w.heap.size k A n xs) (hg : w.grownBy w' row) (hr : ∀ a, A = some a → 0 < n → row ≠ some a.block) : Ints w' 0 w'.heap.size k A n xs := by
  refine ⟨h.len, h.wf, h.big, fun h0 => ?_⟩
  obtain ⟨b, off, e, h1, h2, hc⟩ := h.row h0
  have hb := hg.block b h2 (fun k => hr _ e h0 k.symm)
  exact ⟨b, off, e, h1, Nat.lt_of_lt_of_le h2 hg.size, fun j hj => ⟨(World.cell?_of_block hb).trans (hc j hj).1, (World.frozen?_of_block hb).trans (hc j hj).2⟩⟩
theorem rows_grown {w w' : World} {row : Option Nat} {m : Mv} (h : MRows w 0 w.heap.size m) (hg : w.grownBy w' row) (hr : m.off row) : MRows w' 0 w'.heap.size m :=
  ⟨ints_grown h.S hg (hr 0 (by decide)), ints_grown h.W hg (hr 1 (by decide)), ints_grown h.C hg (hr 2 (by decide)), ints_grown h.A hg (hr 3 (by decide))⟩
/-- Rows below a block, or behind it, are off it. -/
theorem rows_off {w : World} {lo hi : Nat} {m : Mv} (h : MRows w lo hi m) {g : Option Nat} (hg : ∀ k, g = some k → k < lo ∨ hi ≤ k) : m.off g := fun x _ a e h0 hk => by
  obtain ⟨b, off, e', h1, h2, _⟩ := (h.get x).row h0
  rw [e'] at e
  injection e with e
  subst e
  have := hg _ hk
  simp only at this
  omega
theorem grown_of_below {w w' : World} (hb : Below w.heap.size w w') (row : Option Nat) : w.grownBy w' row := ⟨hb.os, hb.tape, hb.output, hb.size, fun k hk _ => hb.block k hk⟩
/-- A list of masses that the call owns. -/
structure OwnM (w : World) (base : Nat) (v : Value) (n : Nat) (ms : List Mv) : Prop where
  own : w.ownsRow base 39 12 v n (flatM ms)
  len : ms.length = n
  rows : ∀ m ∈ ms, MRows w 0 w.heap.size m
  off : ∀ m ∈ ms, m.off v.ownBlock
theorem OwnM.nil_ (w : World) (base : Nat) : OwnM w base (.slice none 0 0) 0 [] := ⟨World.ownsRow_nil .., rfl, fun _ h => absurd h (by simp), fun _ h => absurd h (by simp)⟩
theorem OwnM.on {w w' : World} {base : Nat} {v : Value} {n : Nat} {ms : List Mv} (h : OwnM w base v n ms) (hb : Below w.heap.size w w') : OwnM w' base v n ms :=
  ⟨h.own.kept (grown_of_below hb none) (by cases v.ownBlock <;> simp), h.len, fun m hm => ((h.rows m hm).below hb (Nat.le_refl _)).more (Nat.le_refl _) hb.size, h.off⟩
theorem OwnM.push {w w' : World} {base : Nat} {v v' : Value} {n : Nat} {ms : List Mv} (h : OwnM w base v n ms) {d : Mv} (hd : MRows w 0 w.heap.size d) (ho : d.off v.ownBlock)
    (hown : w'.ownsRow base 39 12 v' (n + 1) (flatM ms ++ cells12 d)) (hg : w.grownBy w' v.ownBlock) (hob : v'.ownBlock = v.ownBlock ∨ v'.ownBlock = some w.heap.size) : OwnM w' base v' (n + 1) (ms ++ [d]) := by
  refine ⟨by rw [flatM_append, flatM_one]; exact hown, by simp [h.len], fun m hm => ?_, fun m hm => ?_⟩
  · rcases List.mem_append.1 hm with hm | hm
    · exact rows_grown (h.rows m hm) hg (h.off m hm)
    · obtain rfl : m = d := by simpa using hm
      exact rows_grown hd hg ho
  · have hrow : MRows w 0 w.heap.size m ∧ m.off v.ownBlock := by
      rcases List.mem_append.1 hm with hm | hm
      · exact ⟨h.rows m hm, h.off m hm⟩
      · obtain rfl : m = d := by simpa using hm
        exact ⟨hd, ho⟩
    rcases hob with e | e
    · rw [e]
      exact hrow.2
    · rw [e]
      exact rows_off hrow.1 fun k hk => by
        injection hk with hk
        omega
theorem OwnM.shape {w : World} {base : Nat} {v : Value} {n : Nat} {ms : List Mv} (h : OwnM w base v n ms) : ∃ A c, v = .slice A n c ∧ n ≤ c ∧ c ≤ maxLen := own_shape h.own
/-- It reads as a list. -/
theorem OwnM.lms {w : World} {base c : Nat} {A : Option Addr} {n : Nat} {ms : List Mv} (h : OwnM w base (.slice A n c) n ms) : LMs w 0 w.heap.size A n ms := by
  have hcap : n ≤ 9223372036854775807 := by
    obtain ⟨A', c', e, h1, h2⟩ := own_shape h.own
    unfold maxLen at h2
    omega
  refine ⟨h.len, hcap, fun h0 => ?_, fun j hj => h.rows _ (List.getElem_mem hj)⟩
  rcases h.own.2 with ⟨e, e0⟩ | ⟨g, cap, cur, e, hb, hg, _⟩
  · omega
  · have hown := h.own
    rw [e] at hown
    injection e with e1 e2 e3
    refine ⟨g, 0, e1, Nat.zero_le _, (Array.getElem?_eq_some_iff.1 hg).1, fun j hj => ?_⟩
    rw [Nat.zero_add]
    refine mcells_of fun k hk => ?_
    have hlt : j * 12 + k < n * 12 := by have := h.len; omega
    rw [hown.cellAt (j * 12 + k) hlt]
    exact flatM_get ms j k hj hk
theorem LMs.on {w w' : World} {A : Option Addr} {n : Nat} {ms : List Mv} (h : LMs w 0 w.heap.size A n ms) (hb : Below w.heap.size w w') : LMs w' 0 w'.heap.size A n ms := (h.below hb (Nat.le_refl _)).more (Nat.le_refl _) hb.size
/-- One mass in a block of its own, to be appended. -/
theorem raw_oneM (w : World) (m : Mv) {W : World} (hW : w.alloc (.cells #[.bool m.S.s, .slice m.S.A m.S.n m.S.c, .int .i64 m.S.e, .bool m.W.s, .slice m.W.A m.W.n m.W.c, .int .i64 m.W.e, .bool m.C.s, .slice m.C.A m.C.n m.C.c, .int .i64 m.C.e, .bool m.A.s, .slice m.A.A m.A.n m.A.c, .int .i64 m.A.e] 39) = W) : Raw W 0 (w.heap.size + 1) (some ⟨w.heap.size, 0, none⟩) (1 * 12) (cells12 m) := by
  subst hW
  have hX := heap_alloc_last w (.cells #[.bool m.S.s, .slice m.S.A m.S.n m.S.c, .int .i64 m.S.e, .bool m.W.s, .slice m.W.A m.W.n m.W.c, .int .i64 m.W.e, .bool m.C.s, .slice m.C.A m.C.n m.C.c, .int .i64 m.C.e, .bool m.A.s, .slice m.A.A m.A.n m.A.c, .int .i64 m.A.e] 39)
  refine ⟨rfl, fun _ => ⟨w.heap.size, 0, rfl, Nat.zero_le _, by omega, fun j hj => ⟨?_, frozen_of_row _ _ _ _ _ hX⟩⟩⟩
  rw [cell_of_row _ _ _ _ _ _ hX]
  simp [cells12]
end Ma
end Go.Proofs.YtlbkepiflhchdaaDoor
namespace Go.Proofs.YtlbkepiflhchdaaDoor
namespace Ma
open Dp Dy
/-- One more number: the least and the greatest one. -/
def stepE : Option (Dn × Dn) → Dn → Option (Dn × Dn)
  | none, x => some (x, x)
  | some (lo, hi), x => some (if cmpD x lo < 0 then x else lo, if 0 < cmpD x hi then x else hi)
/-- The least and the greatest one of numbers. -/
def endsL (l : List Dn) : Option (Dn × Dn) := l.foldl stepE none
/-- How far they are apart. -/
def farL (l : List Dn) : Dn × Int :=
  match endsL l with
  | none => (Dn.zero, 6)
  | some (lo, hi) => subD hi lo
/-- The numbers of masses. -/
noncomputable def colM (x : Nat) (ms : List Mv) : List Dn := ms.map fun m => dnM m x
open Classical in
/-- How far masses are apart. -/
noncomputable def farM (ms : List Mv) : (Dn × Dn) × Int :=
  if 4096 < ms.length then ((Dn.zero, Dn.zero), 4) else if ∃ m ∈ ms, ¬ m.may then ((Dn.zero, Dn.zero), 8)
  else if (farL (colM 2 ms)).2 = 0 ∧ (farL (colM 3 ms)).2 = 0 then (((farL (colM 2 ms)).1, (farL (colM 3 ms)).1), 0)
  else ((Dn.zero, Dn.zero), if ms = [] then 6 else 10)
theorem endsL_nil : endsL [] = none := rfl
theorem endsL_snoc (l : List Dn) (x : Dn) : endsL (l ++ [x]) = stepE (endsL l) x := by simp [endsL]
theorem endsL_take (l : List Dn) (i : Nat) (h : i < l.length) : endsL (l.take (i + 1)) = stepE (endsL (l.take i)) l[i] := by
  have e : l.take (i + 1) = l.take i ++ [l[i]] := by rw [List.take_add_one]; simp [h]
  rw [e, endsL_snoc]
theorem stepE_some (p : Option (Dn × Dn)) (x : Dn) : ∃ q, stepE p x = some q := by
  cases p with
  | none => exact ⟨_, rfl⟩
  | some q => exact ⟨_, rfl⟩
theorem endsL_some {l : List Dn} (h : l ≠ []) : ∃ q, endsL l = some q := by
  obtain ⟨l', x, rfl⟩ : ∃ l' x, l = l' ++ [x] := ⟨l.dropLast, l.getLast h, (List.dropLast_concat_getLast h).symm⟩
  rw [endsL_snoc]
  exact stepE_some _ _
theorem farL_nil : farL [] = (Dn.zero, 6) := rfl
theorem farL_two {l : List Dn} (h : l ≠ []) : (farL l).2 = 0 ∨ farL l = (Dn.zero, 10) := by
  obtain ⟨⟨lo, hi⟩, hq⟩ := endsL_some h
  unfold farL
  rw [hq]
  exact sub_cases _ _
theorem farL_may (l : List Dn) : (farL l).1.May := by
  unfold farL
  split
  · exact zero_may
  · exact sub_may _ _
theorem farM_may (ms : List Mv) : (farM ms).1.1.May ∧ (farM ms).1.2.May := by
  unfold farM
  split
  · exact ⟨zero_may, zero_may⟩
  split
  · exact ⟨zero_may, zero_may⟩
  split
  · exact ⟨farL_may _, farL_may _⟩
  · exact ⟨zero_may, zero_may⟩
theorem cmp_self (a : Dn) : cmpD a a = 0 := by
  rcases cmp_spec a a (Nat.le_refl _) (Nat.le_refl _) with h | h | h <;> omega
end Ma
end Go.Proofs.YtlbkepiflhchdaaDoor
namespace Go.Proofs.YtlbkepiflhchdaaDoor
open Go.RowKit
namespace Ma
open Dp Dy
/-- A dyad's cells. -/
def cells3 (d : Dv) : List Value := [.bool d.s, .slice d.A d.n d.c, .int .i64 d.e]
/-- Those of dyads. -/
def flatDv : List Dv → List Value
  | [] => []
  | d :: l => cells3 d ++ flatDv l
theorem flatDv_append : ∀ l k, flatDv (l ++ k) = flatDv l ++ flatDv k
  | [], _ => rfl
  | m :: l, k => by simp [flatDv, flatDv_append l k]
theorem flatDv_one (m : Dv) : flatDv [m] = cells3 m := by simp [flatDv]
theorem cells3_one (m : Dv) : ∀ u ∈ cells3 m, u.oneCell' = true := by
  intro u hu
  simp only [cells3, List.mem_cons, List.not_mem_nil, or_false] at hu
  rcases hu with rfl | rfl | rfl <;> rfl
theorem flatDv_get : ∀ (l : List Dv) (j k : Nat) (h : j < l.length), k < 3 → (flatDv l)[j * 3 + k]? = (cells3 l[j])[k]?
  | [], j, k, h, _ => absurd h (Nat.not_lt_zero _)
  | m :: l, 0, k, _, hk => by
    simp only [flatDv, Nat.zero_mul, Nat.zero_add, List.getElem_cons_zero]
    rw [List.getElem?_append_left (by simp [cells3]; omega)]
  | m :: l, j + 1, k, h, hk => by
    have e : (j + 1) * 3 + k = (cells3 m).length + (j * 3 + k) := by simp [cells3]; omega
    simp only [flatDv, List.getElem_cons_succ]
    rw [e, List.getElem?_append_right (by omega), Nat.add_sub_cancel_left]
    exact flatDv_get l j k (by simpa using h) hk
/-- A dyad's cells in a row. -/
def DCells (w : World) (b o : Nat) (d : Dv) : Prop := w.cell? ⟨b, o, none⟩ = some (.bool d.s) ∧ w.cell? ⟨b, o + 1, none⟩ = some (.slice d.A d.n d.c) ∧ w.cell? ⟨b, o + 2, none⟩ = some (.int .i64 d.e)
theorem dcells_of {w : World} {b o : Nat} {m : Dv} (h : ∀ k, k < 3 → w.cell? ⟨b, o + k, none⟩ = (cells3 m)[k]?) : DCells w b o m :=
  ⟨h 0 (by decide), h 1 (by decide), h 2 (by decide)⟩
theorem DCells.blk {w w' : World} {b o : Nat} {m : Dv} (h : DCells w b o m) (hk : w'.heap[b]? = w.heap[b]?) : DCells w' b o m := by
  obtain ⟨h0, h1, h2⟩ := h
  exact ⟨by rw [World.cell?_of_block hk]; exact h0, by rw [World.cell?_of_block hk]; exact h1, by rw [World.cell?_of_block hk]; exact h2⟩
/-- Dyads in a row. -/
structure LDs (w : World) (lo hi : Nat) (A : Option Addr) (n : Nat) (ds : List Dv) : Prop where
  len : ds.length = n
  big : n ≤ 9223372036854775807
  row : 0 < n → ∃ b off, A = some ⟨b, off, none⟩ ∧ lo ≤ b ∧ b < hi ∧ ∀ j (h : j < ds.length), DCells w b (off + j * 3) ds[j]
  rows : ∀ j (h : j < ds.length), Ints w lo hi .u32 ds[j].A ds[j].n ds[j].xs
theorem LDs.below {w w' : World} {lo hi B : Nat} {A : Option Addr} {n : Nat} {ds : List Dv} (h : LDs w lo hi A n ds) (hb : Below B w w') (hB : hi ≤ B) : LDs w' lo hi A n ds :=
  ⟨h.len, h.big, fun h0 => by
    obtain ⟨b, off, e, h1, h2, hc⟩ := h.row h0
    exact ⟨b, off, e, h1, h2, fun j hj => (hc j hj).blk (hb.block b (by omega))⟩, fun j hj => (h.rows j hj).below hb hB⟩
theorem LDs.more {w : World} {lo hi lo' hi' : Nat} {A : Option Addr} {n : Nat} {ds : List Dv} (h : LDs w lo hi A n ds) (hl : lo' ≤ lo) (hh : hi ≤ hi') : LDs w lo' hi' A n ds :=
  ⟨h.len, h.big, fun h0 => by
    obtain ⟨b, off, e, h1, h2, hc⟩ := h.row h0
    exact ⟨b, off, e, by omega, by omega, hc⟩, fun j hj => (h.rows j hj).more hl hh⟩
theorem LDs.on {w w' : World} {A : Option Addr} {n : Nat} {ds : List Dv} (h : LDs w 0 w.heap.size A n ds) (hb : Below w.heap.size w w') : LDs w' 0 w'.heap.size A n ds := (h.below hb (Nat.le_refl _)).more (Nat.le_refl _) hb.size
/-- A list of dyads that the call owns. -/
structure OwnD (w : World) (base : Nat) (v : Value) (n : Nat) (ds : List Dv) : Prop where
  own : w.ownsRow base 24 3 v n (flatDv ds)
  len : ds.length = n
theorem OwnD.nil_ (w : World) (base : Nat) : OwnD w base (.slice none 0 0) 0 [] := ⟨World.ownsRow_nil .., rfl⟩
theorem OwnD.on {w w' : World} {base : Nat} {v : Value} {n : Nat} {ds : List Dv} (h : OwnD w base v n ds) (hb : Below w.heap.size w w') : OwnD w' base v n ds :=
  ⟨h.own.kept (grown_of_below hb none) (by cases v.ownBlock <;> simp), h.len⟩
theorem OwnD.by_ {w w' : World} {base : Nat} {v : Value} {n : Nat} {ds : List Dv} (h : OwnD w base v n ds) {row : Option Nat} (hg : w.grownBy w' row) (hr : ∀ k, v.ownBlock = some k → row ≠ some k) : OwnD w' base v n ds :=
  ⟨h.own.kept hg (by
    cases e : v.ownBlock with
    | none => exact .inl rfl
    | some k => exact .inr (fun h => hr k e h.symm)), h.len⟩
theorem OwnD.push {w' : World} {base : Nat} {v' : Value} {n : Nat} {ds : List Dv} (hl : ds.length = n) {d : Dv}
    (hown : w'.ownsRow base 24 3 v' (n + 1) (flatDv ds ++ cells3 d)) : OwnD w' base v' (n + 1) (ds ++ [d]) :=
  ⟨by rw [flatDv_append, flatDv_one]; exact hown, by simp [hl]⟩
theorem OwnD.shape {w : World} {base : Nat} {v : Value} {n : Nat} {ds : List Dv} (h : OwnD w base v n ds) : ∃ A c, v = .slice A n c ∧ n ≤ c ∧ c ≤ maxLen := own_shape h.own
/-- It reads as a list. -/
theorem OwnD.lds {w : World} {base c : Nat} {A : Option Addr} {n : Nat} {ds : List Dv} (h : OwnD w base (.slice A n c) n ds) (hr : ∀ j (h : j < ds.length), Ints w 0 w.heap.size .u32 ds[j].A ds[j].n ds[j].xs) : LDs w 0 w.heap.size A n ds := by
  have hcap : n ≤ 9223372036854775807 := by
    obtain ⟨A', c', e, h1, h2⟩ := own_shape h.own
    unfold maxLen at h2
    omega
  refine ⟨h.len, hcap, fun h0 => ?_, hr⟩
  rcases h.own.2 with ⟨e, e0⟩ | ⟨g, cap, cur, e, hb, hg, _⟩
  · omega
  · have hown := h.own
    rw [e] at hown
    injection e with e1 e2 e3
    refine ⟨g, 0, e1, Nat.zero_le _, (Array.getElem?_eq_some_iff.1 hg).1, fun j hj => ?_⟩
    rw [Nat.zero_add]
    refine dcells_of fun k hk => ?_
    have hlt : j * 3 + k < n * 3 := by have := h.len; omega
    rw [hown.cellAt (j * 3 + k) hlt]
    exact flatDv_get ds j k hj hk
/-- One dyad in a block of its own, to be appended. -/
theorem raw_oneD (w : World) (d : Dv) {W : World} (hW : w.alloc (.cells #[.bool d.s, .slice d.A d.n d.c, .int .i64 d.e] 24) = W) : Raw W 0 (w.heap.size + 1) (some ⟨w.heap.size, 0, none⟩) (1 * 3) (cells3 d) := by
  subst hW
  have hX := heap_alloc_last w (.cells #[.bool d.s, .slice d.A d.n d.c, .int .i64 d.e] 24)
  refine ⟨rfl, fun _ => ⟨w.heap.size, 0, rfl, Nat.zero_le _, by omega, fun j hj => ⟨?_, frozen_of_row _ _ _ _ _ hX⟩⟩⟩
  rw [cell_of_row _ _ _ _ _ _ hX]
  simp [cells3]
/-- The number of a dyad. -/
noncomputable def dnV (d : Dv) : Dn := dn d.s d.xs d.e
theorem colM_map (x : Nat) (ms : List Mv) : colM x ms = (ms.map fun m => m.get x).map dnV := by simp [colM, dnV, dnM]
theorem dnV_is {w : World} {lo hi : Nat} {d : Dv} (h : Ints w lo hi .u32 d.A d.n d.xs) (hm : d.may) : (dnV d).May ∧ Is (dnV d) d := ⟨(dn_ok (dig_ints h) hm).1, Is.of (dig_ints h) hm⟩
end Ma
end Go.Proofs.YtlbkepiflhchdaaDoor
namespace Go.Proofs.YtlbkepiflhchdaaDoor
open Go.RowKit
namespace Ma
open Dp Dy
set_option maxHeartbeats 3200000 in
set_option maxRecDepth 100000 in
theorem pair_any (w : World) (g : Nat) :
    Calls Tryd.prog 78 #[.pointer (some ⟨g, 0, none⟩)] w fun e w' => e = .returned (.agg #[.pointer (some ⟨g, 6, none⟩), .pointer (some ⟨g, 9, none⟩)]) ∧ Below w.heap.size w w' := by
  generalize hw : w.alloc (.cells #[.pointer none, .pointer none] 102) = w1
  have X1 : w1.heap[w.heap.size]? = some (.cells #[.pointer none, .pointer none] 102 (0, 0)) := by rw [← hw]; exact heap_alloc_last _ _
  have hb : Below w.heap.size w w1 := by rw [← hw]; exact (Below.refl _ w).alloc (Nat.le_refl _) _
  have l1 : w.heap.size < w1.heap.size := by rw [← hw]; simp
  go_enter Tryd.func78, Tryd.ntmps78
  go_wp2_with fail
  try clear hw
  refine region_E (Keeps w1) [7] (m := 8) (L := #[false, false, false, false, false, false, false, false]) (by kernel_rfl) (by rfl) (by rfl) ?_
  have kp_ : Keeps w1 w1.drew := fun _ _ => rfl
  have hb2 : Below w.heap.size w w1.drew := hb.drew
  have X2 : w1.drew.heap[w.heap.size]? = some (.cells #[.pointer none, .pointer none] 102 (0, 0)) := X1
  generalize w1.drew = w2 at *
  refine pureE (i := 0) (L := #[true, false, false, false, false, false, false, false]) (v := ?_) rfl (by rfl) (by kernel_rfl) (by kernel_rfl) (by kernel_rfl) (fun _ _ _ h => h) (by rfl) ?hy1 ?rest1
  case hy1 => intro w; go_simp; (try with_reducible rfl)
  try simp only [Act.put, List.setIfInBounds_toArray, List.set_cons_zero, List.set_cons_succ]
  refine pureE (i := 1) (L := #[true, true, false, false, false, false, false, false]) (v := ?_) rfl (by rfl) (by kernel_rfl) (by kernel_rfl) (by kernel_rfl) (fun _ _ _ h => h) (by rfl) ?hy2 ?rest2
  case hy2 => intro w; go_simp; (try with_reducible rfl)
  try simp only [Act.put, List.setIfInBounds_toArray, List.set_cons_zero, List.set_cons_succ]
  refine pureE (i := 2) (L := #[true, true, true, false, false, false, false, false]) (v := ?_) rfl (by rfl) (by kernel_rfl) (by kernel_rfl) (by kernel_rfl) (fun _ _ _ h => h) (by rfl) ?hy3 ?rest3
  case hy3 => intro w; go_simp; (try with_reducible rfl)
  try simp only [Act.put, List.setIfInBounds_toArray, List.set_cons_zero, List.set_cons_succ]
  refine pureE (i := 3) (L := #[true, true, true, true, false, false, false, false]) (v := ?_) rfl (by rfl) (by kernel_rfl) (by kernel_rfl) (by kernel_rfl) (fun _ _ _ h => h) (by rfl) ?hy4 ?rest4
  case hy4 => intro w; go_simp; (try with_reducible rfl)
  try simp only [Act.put, List.setIfInBounds_toArray, List.set_cons_zero, List.set_cons_succ]
  refine pureE (i := 4) (L := #[true, true, true, true, true, false, false, false]) (v := ?_) rfl (by rfl) (by kernel_rfl) (by kernel_rfl) (by kernel_rfl) (fun _ _ _ h => h) (by rfl) ?hy5 ?rest5
  case hy5 => intro w; go_simp; (try with_reducible rfl)
  try simp only [Act.put, List.setIfInBounds_toArray, List.set_cons_zero, List.set_cons_succ]
  refine pureE (i := 5) (L := #[true, true, true, true, true, true, false, false]) (v := ?_) rfl (by rfl) (by kernel_rfl) (by kernel_rfl) (by kernel_rfl) (fun _ _ _ h => h) (by rfl) ?hy6 ?rest6
  case hy6 => intro w; go_simp; (try with_reducible rfl)
  try simp only [Act.put, List.setIfInBounds_toArray, List.set_cons_zero, List.set_cons_succ]
  refine pureE (i := 6) (L := #[true, true, true, true, true, true, true, false]) (v := ?_) rfl (by rfl) (by kernel_rfl) (by kernel_rfl) (by kernel_rfl) (fun _ _ _ h => h) (by rfl) ?hy7 ?rest7
  case hy7 => intro w; go_simp; (try with_reducible rfl)
  try simp only [Act.put, List.setIfInBounds_toArray, List.set_cons_zero, List.set_cons_succ]
  have c0 := cell_of_row w2 w.heap.size 0 _ _ _ X2
  have c1 := cell_of_row w2 w.heap.size 1 _ _ _ X2
  have f0 := frozen_of_row w2 w.heap.size 0 _ _ X2
  have f1 := frozen_of_row w2 w.heap.size 1 _ _ X2
  refine stepK (i := 7) (L := #[true, true, true, true, true, true, true, true]) rfl (by rfl) (by kernel_rfl) (by rfl) (fun K hK => ?_)
  go_simp
  refine hK _ _ ⟨fun h => absurd h (by decide), ?_⟩
  clear hK K c0 c1 f0 f1
  try simp only [Act.put, List.setIfInBounds_toArray, List.set_cons_zero, List.set_cons_succ]
  have X3 : ((w2.setCell ⟨w.heap.size, 0, none⟩ (.pointer (some ⟨g, 6, none⟩))).setCell ⟨w.heap.size, 1, none⟩ (.pointer (some ⟨g, 9, none⟩))).heap[w.heap.size]? = some (.cells #[.pointer (some ⟨g, 6, none⟩), .pointer (some ⟨g, 9, none⟩)] 102 (0, 0)) := by
    simp [World.setCell, Array.getElem?_modify, X2]
  have hb3 : Below w.heap.size w ((w2.setCell ⟨w.heap.size, 0, none⟩ (.pointer (some ⟨g, 6, none⟩))).setCell ⟨w.heap.size, 1, none⟩ (.pointer (some ⟨g, 9, none⟩))) := (hb2.setCell (Nat.le_refl _) _).setCell (Nat.le_refl _) _
  generalize ((w2.setCell ⟨w.heap.size, 0, none⟩ (.pointer (some ⟨g, 6, none⟩))).setCell ⟨w.heap.size, 1, none⟩ (.pointer (some ⟨g, 9, none⟩))) = U at *
  refine doneE (by kernel_rfl) ?_ _
  go_wp2
  have c0 := cell_of_row U w.heap.size 0 _ _ _ X3
  have c1 := cell_of_row U w.heap.size 1 _ _ _ X3
  exact bodyPost_ret (v := .agg #[.pointer (some ⟨g, 6, none⟩), .pointer (some ⟨g, 9, none⟩)]) (by simp [results, Tryd.results78, go_sem, c0, c1]) rfl ⟨rfl, hb3⟩
end Ma
end Go.Proofs.YtlbkepiflhchdaaDoor
namespace Go.Proofs.YtlbkepiflhchdaaDoor
open Go.RowKit
namespace Ma
theorem idx0 (x y : Option Addr) (W : World) : (Instr.index 102 (.agg #[.pointer x, .pointer y]) (.int .i64 0)).run Tryd.prog W = .ok (.pointer x) W := by
  simp [Instr.index, run_underlying Tryd.underlying102, asIntOf, go_sem, part, sizeOf, isAgg]
theorem idx1 (x y : Option Addr) (W : World) : (Instr.index 102 (.agg #[.pointer x, .pointer y]) (.int .i64 1)).run Tryd.prog W = .ok (.pointer y) W := by
  have hz : Tryd.t101.size = 1 := rfl
  simp [Instr.index, run_underlying Tryd.underlying102, asIntOf, go_sem, part, sizeOf, isAgg, hz]
end Ma
end Go.Proofs.YtlbkepiflhchdaaDoor
