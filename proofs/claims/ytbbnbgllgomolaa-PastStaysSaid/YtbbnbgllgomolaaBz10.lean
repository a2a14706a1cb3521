/- A frozen part in a block. No function in sight (printed by a program of mine). -/
/- Own lists of frozen parts: appended to. No function in sight (printed by a program of mine). -/
/- mass.Same in a seat whose set lacks it: a walk (printed by a program of mine). -/
/- headcountref20: parts that are great, the same, copied: walks (printed by a program of mine). -/
/- headcountref20.Twin: a walk (printed by a program of mine). -/
/- slices.Clone of frozen parts: a walk (printed by a program of mine). -/
/- A part is laid into an own list of frozen parts. No function in sight (printed by a program of mine). -/
/- mass.Twin in a seat whose set lacks it: a walk (printed by a program of mine). -/
import Derived.Deep.MidRow
import Derived.Deep.WholeRow
import Derived.Test.YtbbnbgllgomolaaBz09
import Derived.Laws.StructEq
import Derived.Test.YtbbnbgllgomolaaBz08
import Derived.Test.YtbbnbgllgomolaaBz03
import Derived.Test.YtbbnbgllgomolaaBz05
import Derived.Test.YtbbnbgllgomolaaBz04
import Derived.Test.YtbbnbgllgomolaaBz07
import Derived.Test.YtbbnbgllgomolaaBz06
import Derived.Test.YtbbnbgllgomolaaBz01
namespace Go.Proofs.Ytbbnbgllgomolaa
open Go.RowKit
namespace Ma
open Dp Dy
/-- A whole row is laid into the block that was made last: one step of a walk. -/
theorem wpList_store_new {P : Program} {ops : Array Oper} {rest : List Oper} {op : Oper} {a : Act} {w : World} {Q : Exit → Act → World → Prop} (hgd : op.guard = none) (ty : TypeId) (x y : Operand) (ho : op.op = .store ty x y) (c c' : Array Value)
  (hx : a.eval x = .pointer (some ⟨w.heap.size, 0, none⟩)) (hy : a.eval y = .agg c') (hi : (P.info? ty).map (·.size) = some c'.size) (hs : c.size = c'.size) (h1 : c'.all (·.oneCell') = true)
  (h : wpList P ops Q rest (a.put op.dst undef) (w.alloc (.cells c' ty))) : wpList P ops Q (op :: rest) a (w.alloc (.cells c ty)) :=
 wpList_plain hgd fun _ hK => by
  unfold Oper.wp execOp
  simp only [ho, hx, hy, Instr.storeAt, Instr.sureAddr, Sem.run_bind, Sem.run_pure, Result.andThen_ok, run_storeVar_new w ty c c' hi hs h1]
  exact hK _ _ h
def FBox (w : World) (g : Nat) (f : Fv) : Prop := w.heap[g]? = some (.cells #[.int .i64 f.e, .bool f.P.M.S.s, .slice f.P.M.S.A f.P.M.S.n f.P.M.S.c, .int .i64 f.P.M.S.e, .bool f.P.M.W.s, .slice f.P.M.W.A f.P.M.W.n f.P.M.W.c, .int .i64 f.P.M.W.e, .bool f.P.M.C.s, .slice f.P.M.C.A f.P.M.C.n f.P.M.C.c, .int .i64 f.P.M.C.e, .bool f.P.M.A.s, .slice f.P.M.A.A f.P.M.A.n f.P.M.A.c, .int .i64 f.P.M.A.e, .bool f.P.h, .int .i64 f.P.mn, .int .i64 f.P.mx, .slice f.P.A f.P.n f.P.c] 68 (0, 0))
theorem FBox.cell {w : World} {g : Nat} {f : Fv} (h : FBox w g f) : (w.cell? ⟨g, 0, none⟩ = some (.int .i64 f.e) ∧ w.cell? ⟨g, 1, none⟩ = some (.bool f.P.M.S.s) ∧ w.cell? ⟨g, 2, none⟩ = some (.slice f.P.M.S.A f.P.M.S.n f.P.M.S.c) ∧ w.cell? ⟨g, 3, none⟩ = some (.int .i64 f.P.M.S.e) ∧ w.cell? ⟨g, 4, none⟩ = some (.bool f.P.M.W.s) ∧ w.cell? ⟨g, 5, none⟩ = some (.slice f.P.M.W.A f.P.M.W.n f.P.M.W.c) ∧ w.cell? ⟨g, 6, none⟩ = some (.int .i64 f.P.M.W.e) ∧ w.cell? ⟨g, 7, none⟩ = some (.bool f.P.M.C.s) ∧ w.cell? ⟨g, 8, none⟩ = some (.slice f.P.M.C.A f.P.M.C.n f.P.M.C.c) ∧ w.cell? ⟨g, 9, none⟩ = some (.int .i64 f.P.M.C.e) ∧ w.cell? ⟨g, 10, none⟩ = some (.bool f.P.M.A.s) ∧ w.cell? ⟨g, 11, none⟩ = some (.slice f.P.M.A.A f.P.M.A.n f.P.M.A.c) ∧ w.cell? ⟨g, 12, none⟩ = some (.int .i64 f.P.M.A.e) ∧ w.cell? ⟨g, 13, none⟩ = some (.bool f.P.h) ∧ w.cell? ⟨g, 14, none⟩ = some (.int .i64 f.P.mn) ∧ w.cell? ⟨g, 15, none⟩ = some (.int .i64 f.P.mx) ∧ w.cell? ⟨g, 16, none⟩ = some (.slice f.P.A f.P.n f.P.c)) ∧ ∀ k, w.frozen? ⟨g, k, none⟩ = false := by
 have hf : ∀ k, w.frozen? ⟨g, k, none⟩ = false := fun k => frozen_of_row w g k _ _ h
 have hc : ∀ k v, (#[.int .i64 f.e, .bool f.P.M.S.s, .slice f.P.M.S.A f.P.M.S.n f.P.M.S.c, .int .i64 f.P.M.S.e, .bool f.P.M.W.s, .slice f.P.M.W.A f.P.M.W.n f.P.M.W.c, .int .i64 f.P.M.W.e, .bool f.P.M.C.s, .slice f.P.M.C.A f.P.M.C.n f.P.M.C.c, .int .i64 f.P.M.C.e, .bool f.P.M.A.s, .slice f.P.M.A.A f.P.M.A.n f.P.M.A.c, .int .i64 f.P.M.A.e, .bool f.P.h, .int .i64 f.P.mn, .int .i64 f.P.mx, .slice f.P.A f.P.n f.P.c] : Array Value)[k]? = some v → w.cell? ⟨g, k, none⟩ = some v := fun k v hk => by
  unfold FBox at h
  simp [World.cell?, h]
  simpa using hk
 exact ⟨⟨hc 0 _ rfl, hc 1 _ rfl, hc 2 _ rfl, hc 3 _ rfl, hc 4 _ rfl, hc 5 _ rfl, hc 6 _ rfl, hc 7 _ rfl, hc 8 _ rfl, hc 9 _ rfl, hc 10 _ rfl, hc 11 _ rfl, hc 12 _ rfl, hc 13 _ rfl, hc 14 _ rfl, hc 15 _ rfl, hc 16 _ rfl⟩, hf⟩
theorem alloc_f (w : World) (f : Fv) : ∃ U, w.alloc (.cells #[.int .i64 f.e, .bool f.P.M.S.s, .slice f.P.M.S.A f.P.M.S.n f.P.M.S.c, .int .i64 f.P.M.S.e, .bool f.P.M.W.s, .slice f.P.M.W.A f.P.M.W.n f.P.M.W.c, .int .i64 f.P.M.W.e, .bool f.P.M.C.s, .slice f.P.M.C.A f.P.M.C.n f.P.M.C.c, .int .i64 f.P.M.C.e, .bool f.P.M.A.s, .slice f.P.M.A.A f.P.M.A.n f.P.M.A.c, .int .i64 f.P.M.A.e, .bool f.P.h, .int .i64 f.P.mn, .int .i64 f.P.mx, .slice f.P.A f.P.n f.P.c] 68) = U ∧ FBox U w.heap.size f ∧ Below w.heap.size w U ∧ w.heap.size < U.heap.size :=
 ⟨_, rfl, heap_alloc_last _ _, (Below.refl _ w).alloc (Nat.le_refl _) _, by simp⟩
theorem FBox.range {w : World} {g : Nat} {f : Fv} (h : FBox w g f) : w.rangeAt g 0 [.int .i64 f.e, .bool f.P.M.S.s, .slice f.P.M.S.A f.P.M.S.n f.P.M.S.c, .int .i64 f.P.M.S.e, .bool f.P.M.W.s, .slice f.P.M.W.A f.P.M.W.n f.P.M.W.c, .int .i64 f.P.M.W.e, .bool f.P.M.C.s, .slice f.P.M.C.A f.P.M.C.n f.P.M.C.c, .int .i64 f.P.M.C.e, .bool f.P.M.A.s, .slice f.P.M.A.A f.P.M.A.n f.P.M.A.c, .int .i64 f.P.M.A.e, .bool f.P.h, .int .i64 f.P.mn, .int .i64 f.P.mx, .slice f.P.A f.P.n f.P.c] := fun j v hj => by
 rw [Nat.zero_add]
 unfold FBox at h
 simp [World.cell?, h]
 simpa using hj
/-- Its cells amid a row, counted from the row's own beginning. -/
theorem FCells.flat {w : World} {b o : Nat} {f : Fv} (h : FCells w b o f) : w.cell? ⟨b, o, none⟩ = some (.int .i64 f.e) ∧ w.cell? ⟨b, o + 1, none⟩ = some (.bool f.P.M.S.s) ∧ w.cell? ⟨b, o + 2, none⟩ = some (.slice f.P.M.S.A f.P.M.S.n f.P.M.S.c) ∧ w.cell? ⟨b, o + 3, none⟩ = some (.int .i64 f.P.M.S.e) ∧ w.cell? ⟨b, o + 4, none⟩ = some (.bool f.P.M.W.s) ∧ w.cell? ⟨b, o + 5, none⟩ = some (.slice f.P.M.W.A f.P.M.W.n f.P.M.W.c) ∧ w.cell? ⟨b, o + 6, none⟩ = some (.int .i64 f.P.M.W.e) ∧ w.cell? ⟨b, o + 7, none⟩ = some (.bool f.P.M.C.s) ∧ w.cell? ⟨b, o + 8, none⟩ = some (.slice f.P.M.C.A f.P.M.C.n f.P.M.C.c) ∧ w.cell? ⟨b, o + 9, none⟩ = some (.int .i64 f.P.M.C.e) ∧ w.cell? ⟨b, o + 10, none⟩ = some (.bool f.P.M.A.s) ∧ w.cell? ⟨b, o + 11, none⟩ = some (.slice f.P.M.A.A f.P.M.A.n f.P.M.A.c) ∧ w.cell? ⟨b, o + 12, none⟩ = some (.int .i64 f.P.M.A.e) ∧ w.cell? ⟨b, o + 13, none⟩ = some (.bool f.P.h) ∧ w.cell? ⟨b, o + 14, none⟩ = some (.int .i64 f.P.mn) ∧ w.cell? ⟨b, o + 15, none⟩ = some (.int .i64 f.P.mx) ∧ w.cell? ⟨b, o + 16, none⟩ = some (.slice f.P.A f.P.n f.P.c) := by
 obtain ⟨k_, k0, k1, k2, k3, k4, k5, k6, k7, k8, k9, k10, k11, k12, k13, k14, k15⟩ := h
 exact ⟨k_, k0, k1, k2, k3, k4, k5, k6, k7, k8, k9, k10, k11, k12, k13, k14, k15⟩
theorem FCells.range {w : World} {b o : Nat} {f : Fv} (h : FCells w b o f) : w.rangeAt b o [.int .i64 f.e, .bool f.P.M.S.s, .slice f.P.M.S.A f.P.M.S.n f.P.M.S.c, .int .i64 f.P.M.S.e, .bool f.P.M.W.s, .slice f.P.M.W.A f.P.M.W.n f.P.M.W.c, .int .i64 f.P.M.W.e, .bool f.P.M.C.s, .slice f.P.M.C.A f.P.M.C.n f.P.M.C.c, .int .i64 f.P.M.C.e, .bool f.P.M.A.s, .slice f.P.M.A.A f.P.M.A.n f.P.M.A.c, .int .i64 f.P.M.A.e, .bool f.P.h, .int .i64 f.P.mn, .int .i64 f.P.mx, .slice f.P.A f.P.n f.P.c] := fun j v hj => by
 obtain ⟨k0, k1, k2, k3, k4, k5, k6, k7, k8, k9, k10, k11, k12, k13, k14, k15, k16⟩ := h.flat
 have hl : j < 17 := by
  rcases Nat.lt_or_ge j 17 with h' | h'
  · exact h'
  · rw [List.getElem?_eq_none (by simpa using h')] at hj
    cases hj
 have hc : j = 0 ∨ j = 1 ∨ j = 2 ∨ j = 3 ∨ j = 4 ∨ j = 5 ∨ j = 6 ∨ j = 7 ∨ j = 8 ∨ j = 9 ∨ j = 10 ∨ j = 11 ∨ j = 12 ∨ j = 13 ∨ j = 14 ∨ j = 15 ∨ j = 16 := by omega
 rcases hc with rfl | rfl | rfl | rfl | rfl | rfl | rfl | rfl | rfl | rfl | rfl | rfl | rfl | rfl | rfl | rfl | rfl <;> (simp at hj; subst hj; assumption)
end Ma
end Go.Proofs.Ytbbnbgllgomolaa
namespace Go.Proofs.Ytbbnbgllgomolaa
open Go.RowKit
namespace Ma
open Dp Dy
def cells17 (f : Fv) : List Value := [.int .i64 f.e, .bool f.P.M.S.s, .slice f.P.M.S.A f.P.M.S.n f.P.M.S.c, .int .i64 f.P.M.S.e, .bool f.P.M.W.s, .slice f.P.M.W.A f.P.M.W.n f.P.M.W.c, .int .i64 f.P.M.W.e, .bool f.P.M.C.s, .slice f.P.M.C.A f.P.M.C.n f.P.M.C.c, .int .i64 f.P.M.C.e, .bool f.P.M.A.s, .slice f.P.M.A.A f.P.M.A.n f.P.M.A.c, .int .i64 f.P.M.A.e, .bool f.P.h, .int .i64 f.P.mn, .int .i64 f.P.mx, .slice f.P.A f.P.n f.P.c]
def flatF : List Fv → List Value
 | [] => []
 | f :: l => cells17 f ++ flatF l
theorem flatF_len : ∀ l, (flatF l).length = l.length * 17
 | [] => rfl
 | f :: l => by simp [flatF, cells17, flatF_len l]; omega
theorem flatF_append : ∀ l k, flatF (l ++ k) = flatF l ++ flatF k
 | [], _ => rfl
 | f :: l, k => by simp [flatF, flatF_append l k]
theorem flatF_one (f : Fv) : flatF [f] = cells17 f := by simp [flatF]
theorem cells17_one (f : Fv) : ∀ u ∈ cells17 f, u.oneCell' = true := by
 intro u hu
 simp only [cells17, List.mem_cons, List.not_mem_nil, or_false] at hu
 rcases hu with rfl | rfl | rfl | rfl | rfl | rfl | rfl | rfl | rfl | rfl | rfl | rfl | rfl | rfl | rfl | rfl | rfl <;> rfl
theorem flatF_get : ∀ (l : List Fv) (j k : Nat) (h : j < l.length), k < 17 → (flatF l)[j * 17 + k]? = (cells17 l[j])[k]?
 | [], j, k, h, _ => absurd h (Nat.not_lt_zero _)
 | f :: l, 0, k, _, hk => by
  simp only [flatF, Nat.zero_mul, Nat.zero_add, List.getElem_cons_zero]
  rw [List.getElem?_append_left (by simp [cells17]; omega)]
 | f :: l, j + 1, k, h, hk => by
  have e : (j + 1) * 17 + k = (cells17 f).length + (j * 17 + k) := by simp [cells17]; omega
  simp only [flatF, List.getElem_cons_succ]
  rw [e, List.getElem?_append_right (by omega), Nat.add_sub_cancel_left]
  exact flatF_get l j k (by simpa using h) hk
theorem fcells_of {w : World} {b o : Nat} {f : Fv} (h : ∀ k, k < 17 → w.cell? ⟨b, o + k, none⟩ = (cells17 f)[k]?) : FCells w b o f :=
 ⟨h 0 (by decide), h 1 (by decide), h 2 (by decide), h 3 (by decide), h 4 (by decide), h 5 (by decide), h 6 (by decide), h 7 (by decide), h 8 (by decide), h 9 (by decide), h 10 (by decide), h 11 (by decide), h 12 (by decide), h 13 (by decide), h 14 (by decide), h 15 (by decide), h 16 (by decide)⟩
/-- What its rows lie in is another block. -/
def Fv.off (f : Fv) (g : Option Nat) : Prop := f.P.M.off g ∧ ∀ a, f.P.A = some a → 0 < f.P.n → g ≠ some a.block
theorem prows_grown {w w' : World} {row : Option Nat} {f : Fv} (h : PRows w 0 w.heap.size f.P) (hg : w.grownBy w' row) (hr : f.off row) : PRows w' 0 w'.heap.size f.P := ⟨rows_grown h.M hg hr.1, ints_grown h.L hg hr.2⟩
theorem prows_off {w : World} {lo hi : Nat} {f : Fv} (h : PRows w lo hi f.P) {g : Option Nat} (hg : ∀ k, g = some k → k < lo ∨ hi ≤ k) : f.off g := ⟨rows_off h.M hg, fun a e h0 hk => by
 obtain ⟨b, off, e', h1, h2, _⟩ := h.L.row h0
 rw [e'] at e
 injection e with e
 subst e
 have := hg _ hk
 simp only at this
 omega⟩
/-- A list of frozen parts that the call owns. -/
structure OwnF (w : World) (base : Nat) (v : Value) (n : Nat) (fs : List Fv) : Prop where
 own : w.ownsRow base 68 17 v n (flatF fs)
 len : fs.length = n
 rows : ∀ f ∈ fs, PRows w 0 w.heap.size f.P
 off : ∀ f ∈ fs, f.off v.ownBlock
theorem OwnF.nil_ (w : World) (base : Nat) : OwnF w base (.slice none 0 0) 0 [] := ⟨World.ownsRow_nil .., rfl, fun _ h => absurd h (by simp), fun _ h => absurd h (by simp)⟩
theorem OwnF.on {w w' : World} {base : Nat} {v : Value} {n : Nat} {fs : List Fv} (h : OwnF w base v n fs) (hb : Below w.heap.size w w') : OwnF w' base v n fs :=
 ⟨h.own.kept (grown_of_below hb none) (by cases v.ownBlock <;> simp), h.len, fun f hf => (h.rows f hf).on hb, h.off⟩
theorem OwnF.push {w w' : World} {base : Nat} {v v' : Value} {n : Nat} {fs : List Fv} (h : OwnF w base v n fs) {d : Fv} (hd : PRows w 0 w.heap.size d.P) (ho : d.off v.ownBlock)
  (hown : w'.ownsRow base 68 17 v' (n + 1) (flatF fs ++ cells17 d)) (hg : w.grownBy w' v.ownBlock) (hob : v'.ownBlock = v.ownBlock ∨ v'.ownBlock = some w.heap.size) : OwnF w' base v' (n + 1) (fs ++ [d]) := by
 have hrow : ∀ f ∈ fs ++ [d], PRows w 0 w.heap.size f.P ∧ f.off v.ownBlock := fun f hf => by
  rcases List.mem_append.1 hf with hf | hf
  · exact ⟨h.rows f hf, h.off f hf⟩
  · obtain rfl : f = d := by simpa using hf
    exact ⟨hd, ho⟩
 refine ⟨by rw [flatF_append, flatF_one]; exact hown, by simp [h.len], fun f hf => prows_grown (hrow f hf).1 hg (hrow f hf).2, fun f hf => ?_⟩
 rcases hob with e | e
 · rw [e]
   exact (hrow f hf).2
 · rw [e]
   exact prows_off (hrow f hf).1 fun k hk => by
    injection hk with hk
    omega
theorem OwnF.shape {w : World} {base : Nat} {v : Value} {n : Nat} {fs : List Fv} (h : OwnF w base v n fs) : ∃ A c, v = .slice A n c ∧ n ≤ c ∧ c ≤ maxLen := own_shape h.own
/-- It reads as a list. -/
theorem OwnF.lfs {w : World} {base c : Nat} {A : Option Addr} {n : Nat} {fs : List Fv} (h : OwnF w base (.slice A n c) n fs) : LFs w 0 w.heap.size A n fs := by
 have hcap : n ≤ 9223372036854775807 := by
  obtain ⟨A', c', e, h1, h2⟩ := own_shape h.own
  unfold maxLen at h2
  omega
 refine ⟨h.len, hcap, fun h0 => ?_, fun j hj => h.rows _ (List.getElem_mem hj)⟩
 rcases h.own.2 with ⟨e, e0⟩ | ⟨g, cap, cur, e, hb, hg, _⟩
 · omega
 · have hown := h.own
   rw [e] at hown
   injection e with e1 e2 e3
   refine ⟨g, 0, e1, Nat.zero_le _, (Array.getElem?_eq_some_iff.1 hg).1, fun j hj => ?_⟩
   rw [Nat.zero_add]
   refine fcells_of fun k hk => ?_
   have hlt : j * 17 + k < n * 17 := by have := h.len; omega
   rw [hown.cellAt (j * 17 + k) hlt]
   exact flatF_get fs j k hj hk
/-- One in a block of its own, to be appended. -/
theorem raw_oneF (w : World) (f : Fv) {W : World} (hW : w.alloc (.cells #[.int .i64 f.e, .bool f.P.M.S.s, .slice f.P.M.S.A f.P.M.S.n f.P.M.S.c, .int .i64 f.P.M.S.e, .bool f.P.M.W.s, .slice f.P.M.W.A f.P.M.W.n f.P.M.W.c, .int .i64 f.P.M.W.e, .bool f.P.M.C.s, .slice f.P.M.C.A f.P.M.C.n f.P.M.C.c, .int .i64 f.P.M.C.e, .bool f.P.M.A.s, .slice f.P.M.A.A f.P.M.A.n f.P.M.A.c, .int .i64 f.P.M.A.e, .bool f.P.h, .int .i64 f.P.mn, .int .i64 f.P.mx, .slice f.P.A f.P.n f.P.c] 68) = W) : Raw W 0 (w.heap.size + 1) (some ⟨w.heap.size, 0, none⟩) (1 * 17) (cells17 f) := by
 subst hW
 have hX := heap_alloc_last w (.cells #[.int .i64 f.e, .bool f.P.M.S.s, .slice f.P.M.S.A f.P.M.S.n f.P.M.S.c, .int .i64 f.P.M.S.e, .bool f.P.M.W.s, .slice f.P.M.W.A f.P.M.W.n f.P.M.W.c, .int .i64 f.P.M.W.e, .bool f.P.M.C.s, .slice f.P.M.C.A f.P.M.C.n f.P.M.C.c, .int .i64 f.P.M.C.e, .bool f.P.M.A.s, .slice f.P.M.A.A f.P.M.A.n f.P.M.A.c, .int .i64 f.P.M.A.e, .bool f.P.h, .int .i64 f.P.mn, .int .i64 f.P.mx, .slice f.P.A f.P.n f.P.c] 68)
 refine ⟨rfl, fun _ => ⟨w.heap.size, 0, rfl, Nat.zero_le _, by omega, fun j hj => ⟨?_, frozen_of_row _ _ _ _ _ hX⟩⟩⟩
 rw [cell_of_row _ _ _ _ _ _ hX]
 simp [cells17]
end Ma
end Go.Proofs.Ytbbnbgllgomolaa
namespace Go.Proofs.Ytbbnbgllgomolaa
open Go.RowKit
namespace Ma
open Dp Dy
attribute [local go_sem] Oper.semAt_some
set_option maxHeartbeats 25600000 in
set_option maxRecDepth 100000 in
theorem MSame_anyP (w : World) (a b : Mv) (hA : MRows w 0 w.heap.size a) (hBb : MRows w 0 w.heap.size b) (k : Bool) (hk : sameM a b = k) :
  Calls Try.prog 61 #[.agg #[.bool a.S.s, .slice a.S.A a.S.n a.S.c, .int .i64 a.S.e, .bool a.W.s, .slice a.W.A a.W.n a.W.c, .int .i64 a.W.e, .bool a.C.s, .slice a.C.A a.C.n a.C.c, .int .i64 a.C.e, .bool a.A.s, .slice a.A.A a.A.n a.A.c, .int .i64 a.A.e], .agg #[.bool b.S.s, .slice b.S.A b.S.n b.S.c, .int .i64 b.S.e, .bool b.W.s, .slice b.W.A b.W.n b.W.c, .int .i64 b.W.e, .bool b.C.s, .slice b.C.A b.C.n b.C.c, .int .i64 b.C.e, .bool b.A.s, .slice b.A.A b.A.n b.A.c, .int .i64 b.A.e]] w fun e w' => e = .returned (.bool k) ∧ Below w.heap.size w w' := by
 have HK := Lib.hid hk
 clear hk
 have hmx : Try.prog.follows .mixedOrders = true := by kernel_rfl
 refine (callsIn_wide (n := 5)).1 ?_
 refine callsIn_of_wp_marks Try.func61 rfl trivial ?_ rfl
 simp only [Try.ntmps61, List.size_toArray, List.length_cons, List.length_nil, Nat.reduceAdd, Nat.reduceSub, Array.replicate_succ, Array.replicate_zero, List.push_toArray, List.append_toArray, List.nil_append, List.cons_append]
 gi_wp2_with fail
 refine ⟨trivial, (callsIn_wide.2 (parts_any _ _ _)).mono ?_⟩
 rintro e w2 ⟨rfl, rfl⟩
 gi_wp2_with fail
 obtain ⟨W0, hW0⟩ : ∃ W0, ((((w.alloc (.cells #[.bool a.S.s, .slice a.S.A a.S.n a.S.c, .int .i64 a.S.e, .bool a.W.s, .slice a.W.A a.W.n a.W.c, .int .i64 a.W.e, .bool a.C.s, .slice a.C.A a.C.n a.C.c, .int .i64 a.C.e, .bool a.A.s, .slice a.A.A a.A.n a.A.c, .int .i64 a.A.e] 27)).alloc (.cells #[.bool b.S.s, .slice b.S.A b.S.n b.S.c, .int .i64 b.S.e, .bool b.W.s, .slice b.W.A b.W.n b.W.c, .int .i64 b.W.e, .bool b.C.s, .slice b.C.A b.C.n b.C.c, .int .i64 b.C.e, .bool b.A.s, .slice b.A.A b.A.n b.A.c, .int .i64 b.A.e] 27)).alloc (.cells #[.bool false] 4)).alloc (.cells #[.pointer (some ⟨w.heap.size, 0, none⟩)] 134)).alloc (.cells #[.pointer (some ⟨w.heap.size + 1, 0, none⟩)] 134) = W0 := ⟨_, rfl⟩
 obtain ⟨⟨hM0, hN0, hE0, hS1, hS2⟩, hB0, hlo, hhi⟩ := boxes5 w _ _ _ _ _ hW0
 rw [hW0]
 clear hW0
 refine wpIn_rangeFunc_sep2 (F := Fence.wide) rfl (by decide) (gf := 125) (lb := #[.pointer (some ⟨w.heap.size + 1 + 1 + 1, 0, none⟩), .pointer (some ⟨w.heap.size + 1 + 1 + 1 + 1, 0, none⟩)]) rfl trivial (enters_of Try.func125 (by kernel_rfl) rfl)
  (parts_seq _ _ _ w.heap.size (w.heap.size + 1) W0 ⟨hS1, hS2⟩) (by omega) (fun _ => rfl)
  (fun pre O W => O (w.heap.size + 1 + 1) ∧ (∀ x, x ∈ pre → x < 4 → sameV (a.get x) (b.get x) = true) ∧ MBox W w.heap.size a ∧ MBox W (w.heap.size + 1) b ∧ W.heap[w.heap.size + 1 + 1]? = some (.cells #[.bool false] 4 (0, 0)) ∧ Below w.heap.size w W)
  (fun j pre O W => j = .ret ∧ sameM a b = false ∧ W.heap[w.heap.size + 1 + 1]? = some (.cells #[.bool false] 4 (0, 0)) ∧ Below w.heap.size w W)
  (fun O s A B row hs hg hr => ⟨hs.1, hs.2.1, heap_own hs.2.2.1 hg (fun r e => (hr r e).2), heap_own hs.2.2.2.1 hg (fun r e => (hr r e).2), heap_own hs.2.2.2.2.1 hg (fun r e => (hr r e).2), hs.2.2.2.2.2.grown hg hs.2.2.2.2.2.size (fun k e => by have := (hr k e).1; omega)⟩)
  (fun j O s A B row hs hg hr => ⟨hs.1, hs.2.1, heap_own hs.2.2.1 hg (fun r e => (hr r e).2), hs.2.2.2.grown hg hs.2.2.2.size (fun k e => by have := (hr k e).1; omega)⟩)
  (fun s O A B row hs hg hr => ⟨hs.1, hs.2.1, heap_loose hs.2.2.1 hg hr (by omega), heap_loose hs.2.2.2.1 hg hr (by omega), heap_loose hs.2.2.2.2.1 hg hr (by omega), below_loose hs.2.2.2.2.2 (Nat.le_refl _) hg hr (by omega)⟩)
  (fun j s O A B row hs hg hr => ⟨hs.1, hs.2.1, heap_loose hs.2.2.1 hg hr (by omega), below_loose hs.2.2.2 (Nat.le_refl _) hg hr (by omega)⟩)
  (fun k => k = w.heap.size + 1 + 1) (fun k hk e => by omega) (fun k e => by omega) ⟨rfl, (fun x hx => absurd hx (List.not_mem_nil)), hM0, hN0, hE0, hB0⟩
  (fun x a' W => a' = { tmps := #[.agg #[.bool a.S.s, .slice a.S.A a.S.n a.S.c, .int .i64 a.S.e, .bool a.W.s, .slice a.W.A a.W.n a.W.c, .int .i64 a.W.e, .bool a.C.s, .slice a.C.A a.C.n a.C.c, .int .i64 a.C.e, .bool a.A.s, .slice a.A.A a.A.n a.A.c, .int .i64 a.A.e], .agg #[.bool b.S.s, .slice b.S.A b.S.n b.S.c, .int .i64 b.S.e, .bool b.W.s, .slice b.W.A b.W.n b.W.c, .int .i64 b.W.e, .bool b.C.s, .slice b.C.A b.C.n b.C.c, .int .i64 b.C.e, .bool b.A.s, .slice b.A.A b.A.n b.A.c, .int .i64 b.A.e], .pointer (some ⟨w.heap.size, 0, none⟩), .pointer (some ⟨w.heap.size + 1, 0, none⟩), .pointer (some ⟨w.heap.size + 1 + 1, 0, none⟩), .pointer (some ⟨w.heap.size, 3 * x, none⟩), .pointer (some ⟨w.heap.size + 1, 3 * x, none⟩),
   .func (.func 125) #[] #[.pointer (some ⟨w.heap.size + 1 + 1 + 1, 0, none⟩), .pointer (some ⟨w.heap.size + 1 + 1 + 1 + 1, 0, none⟩)], .pointer (some ⟨w.heap.size, 3 * x, none⟩), .pointer (some ⟨w.heap.size + 1, 3 * x, none⟩), undef, undef, undef, undef, undef, undef, undef, undef], defers := [] })
  (fun x a' _ _ _ _ h _ _ => h) ?assign ?body ?done ?stop
 case assign =>
  intro l pre x O W K hgx hsW hi hK
  unfold encM
  gi_wp2
  exact hK _ _ (KeepsFrom.refl _ _) (Gain.refl _ _) hi rfl
 case body =>
  rintro l pre x O a' W ⟨hx4, hpre⟩ hsW ⟨hO, hall, hM, hN, hE, hb⟩ rfl _
  have hrow : Ints W 0 W.heap.size .u32 (a.get x).A (a.get x).n (a.get x).xs := ((hA.get x).below hb (Nat.le_refl _)).more (Nat.le_refl _) hb.size
  have hrow2 : Ints W 0 W.heap.size .u32 (b.get x).A (b.get x).n (b.get x).xs := ((hBb.get x).below hb (Nat.le_refl _)).more (Nat.le_refl _) hb.size
  have hcm := MBox.at_ hM hx4
  have hcn := MBox.at_ hN hx4
  generalize hd : a.get x = d at hcm hrow
  generalize hd' : b.get x = d' at hcn hrow2
  have HD := Lib.hid hd
  have HD' := Lib.hid hd'
  clear hd hd'
  obtain ⟨r, hr⟩ : ∃ r, sameV d d' = r := ⟨_, rfl⟩
  have HR := Lib.hid hr
  clear hr
  gi_wp2
  refine roundRegion_E (Keeps W) [] (m := 8) (L := #[zF,zF,zF,zF,zF,zF,zF,zF]) hmx (by kernel_rfl) (fun _ _ h => h) (by rfl) (by rfl) ?_
  have kD : Keeps W W.drew := fun _ _ => rfl
  refine zE 0 #[zT,zF,zF,zF,zF,zF,zF,zF] ?_ rfl ?hy1 ?rest1
  case hy1 => intro w; go_simp; (try with_reducible rfl)
  try simp only [Act.put, zp]
  refine zE 1 #[zT,zT,zF,zF,zF,zF,zF,zF] ?_ rfl ?hy2 ?rest2
  case hy2 => intro w; go_simp; (try with_reducible rfl)
  try simp only [Act.put, zp]
  refine readE (i := 2) (L := #[zT,zT,zT,zF,zF,zF,zF,zF]) (v := .agg #[.bool d.s, .slice d.A d.n d.c, .int .i64 d.e]) rfl (by rfl) (by kernel_rfl) (by kernel_rfl) (by kernel_rfl) (fun _ _ _ h => h) (by assumption) (by rfl) ?ry2 ?rr2
  case ry2 =>
   intro w' h1
   obtain ⟨⟨k1, k2, k3⟩, _⟩ := MBox.at_ ((h1 _ (by omega)).trans hM) hx4
   rw [HD.out] at k1 k2 k3
   go_simp
  try simp only [Act.put, zp]
  refine zE 3 #[zT,zT,zT,zT,zF,zF,zF,zF] ?_ rfl ?hy4 ?rest4
  case hy4 => intro w; go_simp; (try with_reducible rfl)
  try simp only [Act.put, zp]
  refine zE 4 #[zT,zT,zT,zT,zT,zF,zF,zF] ?_ rfl ?hy5 ?rest5
  case hy5 => intro w; go_simp; (try with_reducible rfl)
  try simp only [Act.put, zp]
  refine readE (i := 5) (L := #[zT,zT,zT,zT,zT,zT,zF,zF]) (v := .agg #[.bool d'.s, .slice d'.A d'.n d'.c, .int .i64 d'.e]) rfl (by rfl) (by kernel_rfl) (by kernel_rfl) (by kernel_rfl) (fun _ _ _ h => h) (by assumption) (by rfl) ?ry5 ?rr5
  case ry5 =>
   intro w' h1
   obtain ⟨⟨k1, k2, k3⟩, _⟩ := MBox.at_ ((h1 _ (by omega)).trans hN) hx4
   rw [HD'.out] at k1 k2 k3
   go_simp
  try simp only [Act.put, zp]
  refine stepK (i := 6) (L := #[zT,zT,zT,zT,zT,zT,zT,zF]) rfl (by rfl) (by kernel_rfl) (by rfl) (fun K hK => ?_)
  go_simp
  go_at_call 86
  refine (Pa.dyadSame_any W.drew _ _ _ _ _ _ _ _ _ _ _ _ (hrow.drewN 1) (hrow2.drewN 1) r HR.out).mono ?_
  rintro e W2 ⟨rfl, hB'⟩
  have hB : Below W.heap.size W W2 := (Below.refl _ W).drew.trans hB'
  clear hB'
  refine hK _ _ ⟨fun _ _ p hp => hB.block p hp, ?_⟩
  clear hK K
  try simp only [Act.put, zp]
  refine zE 7 #[zT,zT,zT,zT,zT,zT,zT,zT] ?_ rfl ?hy8 ?rest8
  case hy8 => intro w; go_simp; (try with_reducible rfl)
  try simp only [Act.put, zp]
  refine doneE (by kernel_rfl) ?_ _
  have hE2 := box_on hE hB (by omega)
  obtain ⟨e3, e4⟩ := cells1 hE2
  cases r
  · gi_wp2
    refine ⟨(keeps_below hB).trans ((KeepsOthers.setCell _ _ _).from _), O, (gain_below hB).trans (gain_set hO _), rfl, ?_, set1 hE2 _, (hb.trans (hB.mono hb.size)).setCell (by simp <;> omega) _⟩
    refine Bool.eq_false_iff.2 fun h => ?_
    have := (sameM_iff a b).1 h x hx4
    rw [HD.out, HD'.out, HR.out] at this
    cases this
  · gi_wp2
    refine ⟨keeps_below hB, O, gain_below hB, hO, fun y hy hy4 => ?_, box_on hM hB (by omega), box_on hN hB (by omega), hE2, hb.trans (hB.mono hb.size)⟩
    rcases List.mem_append.1 hy with h | h
    · exact hall y h hy4
    · rw [List.mem_singleton.1 h, HD.out, HD'.out]
      exact HR.out
 case done =>
  rintro D ys O W hD hS ⟨hO, hall, hM, hN, hE, hb⟩ hK
  obtain ⟨e1, e2⟩ := cells1 hE
  have hk := HK.out
  rw [show sameM a b = true from (sameM_iff a b).2 fun x hx => hall x (by rw [hS]; simp; omega) hx] at hk
  subst hk
  clear hS hall
  gi_wp2
  have hK' := (KeepsOthers.setCell W ⟨w.heap.size + 1 + 1, 0, none⟩ (.bool true)).same D _ hK rfl
  have c1 := cells1 ((World.putObj_heap_other (o := .deferred none) (by omega : w.heap.size + 1 + 1 ≠ D)).trans (set1 hE (.bool true)))
  refine ⟨by simp, .inl ⟨_, _, rfl, run_takeDeferred hK', ?_⟩⟩
  refine ⟨.bool true, ?_, rfl, ?_⟩
  · simp [results, Try.f61, go_sem, c1.1]
  · exact (hb.setCell (by simp <;> omega) _).trans (belowK_b (w := w) (Nat.le_refl _) _ D _ _ (by omega) hK' rfl rfl)
 case stop =>
  rintro D j pre O W hD hSp ⟨rfl, hm, hE, hb⟩ hK
  have hk := HK.out
  rw [hm] at hk
  subst hk
  gi_wp2
  have c1 := cells1 ((World.putObj_heap_other (o := .deferred none) (by omega : w.heap.size + 1 + 1 ≠ D)).trans hE)
  refine ⟨by simp, .inl ⟨_, _, rfl, run_takeDeferred hK, ?_⟩⟩
  refine ⟨.bool false, ?_, rfl, ?_⟩
  · simp [results, Try.f61, go_sem, c1.1]
  · exact hb.trans (belowK_b (w := w) (Nat.le_refl _) _ D _ _ (by omega) hK rfl rfl)
end Ma
end Go.Proofs.Ytbbnbgllgomolaa
namespace Go.Proofs.Ytbbnbgllgomolaa
open Go.RowKit
namespace Ma
open Dp Dy
set_option maxHeartbeats 6400000 in
set_option maxRecDepth 100000 in
/-- headcountref20.GreatPart. -/
theorem GreatPart_any (w : World) (p : Pv) (hR : PRows w 0 w.heap.size p) (k : Bool) (hk : greatP p = k) :
  Calls Try.prog 13 #[.agg #[.bool p.M.S.s, .slice p.M.S.A p.M.S.n p.M.S.c, .int .i64 p.M.S.e, .bool p.M.W.s, .slice p.M.W.A p.M.W.n p.M.W.c, .int .i64 p.M.W.e, .bool p.M.C.s, .slice p.M.C.A p.M.C.n p.M.C.c, .int .i64 p.M.C.e, .bool p.M.A.s, .slice p.M.A.A p.M.A.n p.M.A.c, .int .i64 p.M.A.e, .bool p.h, .int .i64 p.mn, .int .i64 p.mx, .slice p.A p.n p.c]] w fun e w' => e = .returned (.bool k) ∧ Below w.heap.size w w' := by
 obtain ⟨w1, hw, bP, j1, S1⟩ := alloc_p w p
 obtain ⟨q, hq⟩ : ∃ q, greatM p.M = q := ⟨_, rfl⟩
 have HQ := Lib.hid hq
 have HK := Lib.hid hk
 clear hq hk
 go_enter Try.func13, Try.ntmps13
 obtain ⟨⟨q1_0, q1_1, q1_2, q1_3, q1_4, q1_5, q1_6, q1_7, q1_8, q1_9, q1_10, q1_11, q1_12, q1_13, q1_14, q1_15⟩, q1f⟩ := PBox.cell bP
 go_wp2_with fail
 refine (RGreat_any w1 p.M (PRows.on hR j1).M q HQ.out).mono ?_
 rintro e' v2 ⟨rfl, j3⟩
 clear q1_0 q1_1 q1_2 q1_3 q1_4 q1_5 q1_6 q1_7 q1_8 q1_9 q1_10 q1_11 q1_12 q1_13 q1_14 q1_15 q1f
 try clear hw
 obtain ⟨⟨q4_0, q4_1, q4_2, q4_3, q4_4, q4_5, q4_6, q4_7, q4_8, q4_9, q4_10, q4_11, q4_12, q4_13, q4_14, q4_15⟩, q4f⟩ := PBox.cell (box_later bP j3 S1)
 cases q
 rotate_left
 · skip
   have hk' : k = true := by rw [← HK.out, greatP, HQ.out]; rfl
   subst hk'
   clear HK HQ
   go_wp2
   go_ret
   exact ⟨rfl, (later j1 j3)⟩
 · skip
   by_cases hn : (70 : Int) < (p.n : Int)
   · skip
     have hk' : k = true := by rw [← HK.out, greatP, HQ.out, decide_eq_true (show 70 < p.n by omega)]; rfl
     subst hk'
     clear HK HQ
     go_wp2
     go_ret
     exact ⟨rfl, (later j1 j3)⟩
   · skip
     have hk' : k = false := by rw [← HK.out, greatP, HQ.out, decide_eq_false (show ¬ 70 < p.n by omega)]; rfl
     subst hk'
     clear HK HQ
     have hnb : decide ((70 : Int) < (p.n : Int)) = false := decide_eq_false hn
     clear hn
     go_wp2
     go_ret
     exact ⟨rfl, (later j1 j3)⟩
set_option maxHeartbeats 12800000 in
set_option maxRecDepth 100000 in
/-- past.SamePart. -/
theorem SamePart_any (w : World) (a b : Pv) (hA : PRows w 0 w.heap.size a) (hB : PRows w 0 w.heap.size b) (k : Bool) (hk : sameP a b = k) :
  Calls Try.prog 21 #[.agg #[.bool a.M.S.s, .slice a.M.S.A a.M.S.n a.M.S.c, .int .i64 a.M.S.e, .bool a.M.W.s, .slice a.M.W.A a.M.W.n a.M.W.c, .int .i64 a.M.W.e, .bool a.M.C.s, .slice a.M.C.A a.M.C.n a.M.C.c, .int .i64 a.M.C.e, .bool a.M.A.s, .slice a.M.A.A a.M.A.n a.M.A.c, .int .i64 a.M.A.e, .bool a.h, .int .i64 a.mn, .int .i64 a.mx, .slice a.A a.n a.c], .agg #[.bool b.M.S.s, .slice b.M.S.A b.M.S.n b.M.S.c, .int .i64 b.M.S.e, .bool b.M.W.s, .slice b.M.W.A b.M.W.n b.M.W.c, .int .i64 b.M.W.e, .bool b.M.C.s, .slice b.M.C.A b.M.C.n b.M.C.c, .int .i64 b.M.C.e, .bool b.M.A.s, .slice b.M.A.A b.M.A.n b.M.A.c, .int .i64 b.M.A.e, .bool b.h, .int .i64 b.mn, .int .i64 b.mx, .slice b.A b.n b.c]] w fun e w' => e = .returned (.bool k) ∧ Below w.heap.size w w' := by
 generalize hw : (w.alloc (.cells #[.bool a.M.S.s, .slice a.M.S.A a.M.S.n a.M.S.c, .int .i64 a.M.S.e, .bool a.M.W.s, .slice a.M.W.A a.M.W.n a.M.W.c, .int .i64 a.M.W.e, .bool a.M.C.s, .slice a.M.C.A a.M.C.n a.M.C.c, .int .i64 a.M.C.e, .bool a.M.A.s, .slice a.M.A.A a.M.A.n a.M.A.c, .int .i64 a.M.A.e, .bool a.h, .int .i64 a.mn, .int .i64 a.mx, .slice a.A a.n a.c] 31)).alloc (.cells #[.bool b.M.S.s, .slice b.M.S.A b.M.S.n b.M.S.c, .int .i64 b.M.S.e, .bool b.M.W.s, .slice b.M.W.A b.M.W.n b.M.W.c, .int .i64 b.M.W.e, .bool b.M.C.s, .slice b.M.C.A b.M.C.n b.M.C.c, .int .i64 b.M.C.e, .bool b.M.A.s, .slice b.M.A.A b.M.A.n b.M.A.c, .int .i64 b.M.A.e, .bool b.h, .int .i64 b.mn, .int .i64 b.mx, .slice b.A b.n b.c] 31) = w1
 obtain ⟨bA, bB, j1, lo1, hi1⟩ := boxes2 w _ _ hw
 replace bA : PBox w1 w.heap.size a := bA
 replace bB : PBox w1 (w.heap.size + 1) b := bB
 replace j1 : Below w.heap.size w w1 := j1
 have S1 : w.heap.size < w1.heap.size := by omega
 have S2 : w.heap.size + 1 < w1.heap.size := by omega
 obtain ⟨q, hq⟩ : ∃ q, sameM a.M b.M = q := ⟨_, rfl⟩
 obtain ⟨r, hr⟩ : ∃ q, Pa.Sm a.xs b.xs = q := ⟨_, rfl⟩
 have HQ := Lib.hid hq
 have HR := Lib.hid hr
 have HK := Lib.hid hk
 clear hq hr hk
 go_enter Try.func21, Try.ntmps21
 obtain ⟨⟨q11_0, q11_1, q11_2, q11_3, q11_4, q11_5, q11_6, q11_7, q11_8, q11_9, q11_10, q11_11, q11_12, q11_13, q11_14, q11_15⟩, q11f⟩ := PBox.cell bA
 obtain ⟨⟨q12_0, q12_1, q12_2, q12_3, q12_4, q12_5, q12_6, q12_7, q12_8, q12_9, q12_10, q12_11, q12_12, q12_13, q12_14, q12_15⟩, q12f⟩ := PBox.cell bB
 go_wp2_with fail
 refine (MSame_anyP w1 a.M b.M (PRows.on hA j1).M (PRows.on hB j1).M q HQ.out).mono ?_
 rintro e' v13 ⟨rfl, j14⟩
 clear q11_0 q11_1 q11_2 q11_3 q11_4 q11_5 q11_6 q11_7 q11_8 q11_9 q11_10 q11_11 q11_12 q11_13 q11_14 q11_15 q11f q12_0 q12_1 q12_2 q12_3 q12_4 q12_5 q12_6 q12_7 q12_8 q12_9 q12_10 q12_11 q12_12 q12_13 q12_14 q12_15 q12f
 try clear hw
 obtain ⟨⟨q15_0, q15_1, q15_2, q15_3, q15_4, q15_5, q15_6, q15_7, q15_8, q15_9, q15_10, q15_11, q15_12, q15_13, q15_14, q15_15⟩, q15f⟩ := PBox.cell (box_later bA j14 S1)
 obtain ⟨⟨q16_0, q16_1, q16_2, q16_3, q16_4, q16_5, q16_6, q16_7, q16_8, q16_9, q16_10, q16_11, q16_12, q16_13, q16_14, q16_15⟩, q16f⟩ := PBox.cell (box_later bB j14 S2)
 cases q
 · skip
   have hk' : k = false := by rw [← HK.out, sameP, HQ.out]; rfl
   subst hk'
   clear HK HQ HR
   go_wp2
   go_ret
   exact ⟨rfl, (later j1 j14)⟩
 · skip
   by_cases e1 : a.h = b.h
   rotate_left
   · skip
     have hk' : k = false := by
      rw [← HK.out, sameP, HQ.out, sameE, decide_eq_false e1]
      simp
     subst hk'
     have eb : (a.h == b.h) = false := by simpa using e1
     clear HK HQ HR
     go_wp2
     go_ret
     exact ⟨rfl, (later j1 j14)⟩
   · skip
     rw [e1] at q15_12
     replace e1 := Lib.hid e1
     by_cases e2 : a.mn = b.mn
     rotate_left
     · skip
       have hk' : k = false := by
        rw [← HK.out, sameP, HQ.out, sameE, decide_eq_false e2]
        simp
       subst hk'
       have eb : (a.mn == b.mn) = false := by simpa using e2
       clear HK HQ HR
       go_wp2
       go_ret
       exact ⟨rfl, (later j1 j14)⟩
     · skip
       rw [e2] at q15_13
       replace e2 := Lib.hid e2
       by_cases e3 : a.mx = b.mx
       rotate_left
       · skip
         have hk' : k = false := by
          rw [← HK.out, sameP, HQ.out, sameE, decide_eq_false e3]
          simp
         subst hk'
         have eb : (a.mx == b.mx) = false := by simpa using e3
         clear HK HQ HR
         go_wp2
         go_ret
         exact ⟨rfl, (later j1 j14)⟩
       · skip
         rw [e3] at q15_14
         replace e3 := Lib.hid e3
         have hk' : k = r := by
          rw [← HK.out, sameP, HQ.out, HR.out, sameE, e1.out, e2.out, e3.out]
          simp
         subst hk'
         have HRR := Lib.hid HR.out
         clear HK HQ HR e1 e2 e3
         go_wp2_with fail
         refine (Pa.Equal_any v13 0 v13.heap.size 0 v13.heap.size _ _ _ _ _ _ _ _ (PRows.on hA (later j1 j14)).L (PRows.on hB (later j1 j14)).L k HRR.out).mono ?_
         rintro e' v_ ⟨rfl, m_, rfl⟩
         have jd : Below w.heap.size w (v13.drewN m_) := below_drewN (later j1 j14) m_
         cases k
         · skip
           go_wp2
           go_ret
           exact ⟨rfl, jd⟩
         · skip
           go_wp2
           go_ret
           exact ⟨rfl, jd⟩
end Ma
end Go.Proofs.Ytbbnbgllgomolaa
namespace Go.Proofs.Ytbbnbgllgomolaa
open Go.RowKit
namespace Ma
open Dp Dy
theorem wp_append_rawC {P : Program} {o : Oper} {a : Act} {w : World} {K : Act → World → Prop} {Q : Exit → Act → World → Prop} (s x : Operand) (t : TypeId)
  (ho : o.op = .call { callee := .builtin .append, args := #[s, x], argTypes := #[t, t] })
  (base : Nat) (e : TypeId) (i : TypeInfo) (z : Value) (size bytes : Nat) (ht : P.underlying t = some (.slice e)) (hi : P.info? e = some i) (hz : i.zero = some z)
  (hsize : i.size = size) (hby : i.bytes = bytes) (hzs : z.cells.size = size) (hsz : 0 < size)
  (v : Value) (n : Nat) (xs : List Value) (hs : a.eval s = v) (hown : w.ownsRow base e size v n xs)
  (lo hi' : Nat) (A : Option Addr) (m c : Nat) (news : List Value) (hx : a.eval x = .slice A m c) (hr : Raw w lo hi' A (m * size) news) (h1 : ∀ u ∈ news, u.oneCell' = true)
  (h63 : n + m ≤ maxLen) (hbytes : (n + m) * bytes ≤ 140737488355328) (hbase : base ≤ w.heap.size)
  (h : ∀ A' c' w', w'.ownsRow base e size (.slice A' (n + m) c') (n + m) (xs ++ news) → w.grownBy w' v.ownBlock → ((Value.slice A' (n + m) c').ownBlock = v.ownBlock ∨ (Value.slice A' (n + m) c').ownBlock = some w.heap.size) →
   K (a.put o.dst (.slice A' (n + m) c')) w') : Oper.wp P o a w K Q := by
 obtain ⟨A', c', w', hr, h2, h3, h5⟩ := run_append_raw (P := P) w base t o.type e i z size bytes ht hi hz hsize hby hzs hsz v n xs hown lo hi' A m c news hr h1 h63 hbytes hbase
 unfold Oper.wp execOp
 simp only [ho, resolve, invoke, builtin, Sem.run_bind, Sem.run_pure, Result.andThen_ok, List.map_toArray, List.map_cons, List.map_nil, hs, hx, hr]
 exact h A' c' w' h2 h3 h5
theorem ints_grownL {w w' : World} {lo : Nat} {row : Option Nat} {k : IntKind} {A : Option Addr} {n : Nat} {xs : List Int} (h : Ints w lo w.heap.size k A n xs) (hg : w.grownBy w' row) (hr : ∀ a, A = some a → 0 < n → row ≠ some a.block) : Ints w' lo w'.heap.size k A n xs := by
 refine ⟨h.len, h.wf, h.big, fun h0 => ?_⟩
 obtain ⟨b, off, e, h1, h2, hc⟩ := h.row h0
 have hb := hg.block b h2 (fun k => hr _ e h0 k.symm)
 exact ⟨b, off, e, h1, Nat.lt_of_lt_of_le h2 hg.size, fun j hj => ⟨(World.cell?_of_block hb).trans (hc j hj).1, (World.frozen?_of_block hb).trans (hc j hj).2⟩⟩
theorem prows_grownL {w w' : World} {lo : Nat} {row : Option Nat} {f : Fv} (h : PRows w lo w.heap.size f.P) (hg : w.grownBy w' row) (hr : f.off row) : PRows w' lo w'.heap.size f.P :=
 ⟨⟨ints_grownL h.M.S hg (hr.1 0 (by decide)), ints_grownL h.M.W hg (hr.1 1 (by decide)), ints_grownL h.M.C hg (hr.1 2 (by decide)), ints_grownL h.M.A hg (hr.1 3 (by decide))⟩, ints_grownL h.L hg hr.2⟩
/-- Copies, one by one. -/
def TwinF (fs gs : List Fv) : Prop := gs.length = fs.length ∧ ∀ j (h1 : j < fs.length) (h2 : j < gs.length), gs[j].e = fs[j].e ∧ TwinP fs[j].P gs[j].P
theorem infoF : (Try.prog.info? 68).map (fun i => (i.zero, i.size, i.bytes)) = some (some (.agg #[.int .i64 0, .bool false, .slice none 0 0, .int .i64 0, .bool false, .slice none 0 0, .int .i64 0, .bool false, .slice none 0 0, .int .i64 0, .bool false, .slice none 0 0, .int .i64 0, .bool false, .int .i64 0, .int .i64 0, .slice none 0 0]), 17, 216) := by kernel_rfl
end Ma
end Go.Proofs.Ytbbnbgllgomolaa
namespace Go.Proofs.Ytbbnbgllgomolaa
open Go.RowKit
namespace Ma
open Dp Dy
/-- What may be appended: its cells are read. -/
structure Cells (w : World) (A : Option Addr) (m : Nat) (cs : List Value) : Prop where
 len : cs.length = m
 nil_ : A = none → m = 0
 at_ : ∀ ad, A = some ad → ∀ j u, cs[j]? = some u → w.cell? (ad.add j) = some u
theorem Cells.on {w w' : World} {A : Option Addr} {m : Nat} {cs : List Value} (h : Cells w A m cs) (hk : ∀ p u, w.cell? p = some u → w'.cell? p = some u) : Cells w' A m cs := ⟨h.len, h.nil_, fun ad e j u hu => hk _ _ (h.at_ ad e j u hu)⟩
theorem flatF_one' : ∀ (l : List Fv), ∀ u ∈ flatF l, u.oneCell' = true
 | [], u, h => absurd h (by simp [flatF])
 | f :: l, u, h => by
  rcases List.mem_append.1 h with h | h
  · exact cells17_one f u h
  · exact flatF_one' l u h
theorem fcells_at {w : World} {b o : Nat} {f : Fv} (h : FCells w b o f) : ∀ k, k < 17 → w.cell? ⟨b, o + k, none⟩ = (cells17 f)[k]? := fun k hk => by
 have h1 := h.range
 obtain ⟨v, hv⟩ : ∃ v, (cells17 f)[k]? = some v := ⟨_, List.getElem?_eq_getElem (by simpa [cells17] using hk)⟩
 rw [hv]
 exact h1 k v hv
theorem LFs.cells {w : World} {lo hi : Nat} {A : Option Addr} {n : Nat} {fs : List Fv} (h : LFs w lo hi A n fs) : Cells w A (n * 17) (flatF fs) := by
 refine ⟨by rw [flatF_len, h.len], fun e => ?_, fun ad e j u hu => ?_⟩
 · rcases Nat.eq_zero_or_pos n with h0 | h0
   · rw [h0]
   · obtain ⟨b, off, e', _⟩ := h.row h0
     rw [e] at e'
     cases e'
 · have hj : j < n * 17 := by
     have h1 := flatF_len fs
     rw [h.len] at h1
     rcases Nat.lt_or_ge j (flatF fs).length with h' | h'
     · omega
     · rw [List.getElem?_eq_none h'] at hu
       cases hu
   obtain ⟨b, off, e', _, _, hc⟩ := h.row (by omega)
   rw [e] at e'
   injection e' with e'
   subst e'
   have hadd : (⟨b, off, none⟩ : Addr).add j = ⟨b, off + j, none⟩ := by unfold Addr.add; split <;> simp_all
   have hq : j / 17 < fs.length := by have := h.len; omega
   have hr : j % 17 < 17 := Nat.mod_lt _ (by decide)
   have hjj : j = j / 17 * 17 + j % 17 := by omega
   have h1 := fcells_at (hc (j / 17) hq) (j % 17) hr
   have h2 := flatF_get fs (j / 17) (j % 17) hq hr
   rw [hadd]
   have e1 : off + j = off + j / 17 * 17 + j % 17 := by omega
   rw [e1, h1, ← h2, ← hjj]
   exact hu
section
variable {P : Program} (w : World)
theorem run_append_cells (base : Nat) (t ty e : TypeId) (i : TypeInfo) (z : Value) (size bytes : Nat) (ht : P.underlying t = some (.slice e)) (hi : P.info? e = some i) (hz : i.zero = some z)
  (hsize : i.size = size) (hby : i.bytes = bytes) (hzs : z.cells.size = size) (hsz : 0 < size)
  (v : Value) (n : Nat) (xs : List Value) (hown : w.ownsRow base e size v n xs)
  (A : Option Addr) (m c : Nat) (news : List Value) (hr : Cells w A (m * size) news) (h1 : ∀ u ∈ news, u.oneCell' = true)
  (h63 : n + m ≤ maxLen) (hbytes : (n + m) * bytes ≤ 140737488355328) (hbase : base ≤ w.heap.size) :
  ∃ A' c' w', (Builtin.append_ #[t, t] ty #[v, .slice A m c]).run P w = .ok (.slice A' (n + m) c') w' ∧ w'.ownsRow base e size (.slice A' (n + m) c') (n + m) (xs ++ news) ∧ w.grownBy w' v.ownBlock ∧
   ((Value.slice A' (n + m) c').ownBlock = v.ownBlock ∨ (Value.slice A' (n + m) c').ownBlock = some w.heap.size) := by
 rcases A with _ | ad
 · have hm : m = 0 := by
     rcases Nat.mul_eq_zero.1 (hr.nil_ rfl) with h0 | h0 <;> omega
   subst hm
   have hn : news = [] := List.eq_nil_of_length_eq_zero (by simpa using hr.len)
   subst hn
   have hrun := run_append_of_nil (P := P) w base t ty e i size ht hi v n xs hown c
   obtain ⟨A', c', rfl, _⟩ := own_shape hown
   exact ⟨A', c', w, hrun, by simpa using hown, World.grownBy.refl w _, .inl rfl⟩
 · obtain ⟨v', w', hrun, h2, h3, _, h5⟩ := run_append_own_at (P := P) w base t ty e i z size bytes ht hi hz hsize hby hzs hsz v n xs hown ad m c news hr.len (hr.at_ ad rfl) h1 h63 hbytes hbase
   obtain ⟨A', c', rfl, _⟩ := own_shape h2
   exact ⟨A', c', w', hrun, h2, h3, h5⟩
variable {w}
/-- The same, as an operation of a walk. -/
theorem wpList_append_cells {ops : Array Oper} {rest : List Oper} {o : Oper} {a : Act} {Q : Exit → Act → World → Prop} (hgd : o.guard = none) (s x : Operand) (t : TypeId)
  (ho : o.op = .call { callee := .builtin .append, args := #[s, x], argTypes := #[t, t] })
  (base : Nat) (e : TypeId) (i : TypeInfo) (z : Value) (size bytes : Nat) (ht : P.underlying t = some (.slice e)) (hi : P.info? e = some i) (hz : i.zero = some z)
  (hsize : i.size = size) (hby : i.bytes = bytes) (hzs : z.cells.size = size) (hsz : 0 < size)
  (v : Value) (n : Nat) (xs : List Value) (hs : a.eval s = v) (hown : w.ownsRow base e size v n xs)
  (A : Option Addr) (m c : Nat) (news : List Value) (hx : a.eval x = .slice A m c) (hr : Cells w A (m * size) news) (h1 : ∀ u ∈ news, u.oneCell' = true)
  (h63 : n + m ≤ maxLen) (hbytes : (n + m) * bytes ≤ 140737488355328) (hbase : base ≤ w.heap.size)
  (h : ∀ A' c' w', w'.ownsRow base e size (.slice A' (n + m) c') (n + m) (xs ++ news) → w.grownBy w' v.ownBlock → ((Value.slice A' (n + m) c').ownBlock = v.ownBlock ∨ (Value.slice A' (n + m) c').ownBlock = some w.heap.size) →
   wpList P ops Q rest (a.put o.dst (.slice A' (n + m) c')) w') :
  wpList P ops Q (o :: rest) a w := by
 refine wpList_plain hgd fun K hK => ?_
 obtain ⟨A', c', w', hr, h2, h3, h5⟩ := run_append_cells (P := P) w base t o.type e i z size bytes ht hi hz hsize hby hzs hsz v n xs hown A m c news hr h1 h63 hbytes hbase
 unfold Oper.wp execOp
 simp only [ho, resolve, invoke, builtin, Sem.run_bind, Sem.run_pure, Result.andThen_ok, List.map_toArray, List.map_cons, List.map_nil, hs, hx, hr]
 exact hK _ _ (h A' c' w' h2 h3 h5)
end
/-- A whole list has been appended onto an empty own one. -/
theorem ownF_all {w w2 : World} {A A3 : Option Addr} {n c3 : Nat} {fs : List Fv} (hL : LFs w 0 w.heap.size A n fs) (hb : Below w.heap.size w w2) (hown : w2.ownsRow w.heap.size 68 17 (.slice A3 n c3) n (flatF fs)) : OwnF w2 w.heap.size (.slice A3 n c3) n fs := by
 have hr : ∀ f ∈ fs, PRows w2 0 w.heap.size f.P := fun f hf => by
  obtain ⟨j, hj, rfl⟩ := List.mem_iff_getElem.1 hf
  exact (hL.rows j hj).below hb (Nat.le_refl _)
 exact ⟨hown, hL.len, fun f hf => (hr f hf).more (Nat.le_refl _) hb.size, fun f hf => prows_off (hr f hf) fun k hk => .inr (hown.lt k hk).1⟩
set_option maxHeartbeats 12800000 in
set_option maxRecDepth 100000 in
/-- slices.Clone. -/
theorem CloneF_any (w : World) (A : Option Addr) (n c : Nat) (fs : List Fv) (hL : LFs w 0 w.heap.size A n fs) (hn : n ≤ 1028) :
  Calls Try.prog 55 #[.slice A n c] w fun e w' => ∃ (A' : Option Addr) (c' : Nat), e = .returned (.slice A' n c') ∧ Below w.heap.size w w' ∧ OwnF w' w.heap.size (.slice A' n c') n fs := by
 obtain ⟨i0, hi0, hz0, hz1, hz2⟩ := info_parts infoF
 rcases A with _ | ad
 · have hn0 : n = 0 := by
     rcases Nat.eq_zero_or_pos n with h0 | h0
     · exact h0
     · obtain ⟨b, off, e, _⟩ := hL.row h0
       cases e
   subst hn0
   have hf0 : fs = [] := List.length_eq_zero_iff.1 hL.len
   subst hf0
   have hnil := Lib.run_eql_slice_nil (P := Try.prog) w 22 68 none 0 c 0 0 Try.underlying22
   go_enter Try.func55, Try.ntmps55
   go_wp2
   go_ret
   exact ⟨none, 0, rfl, Below.refl _ _, OwnF.nil_ _ _⟩
 · have hCl := (hL.below ((Below.refl w.heap.size w).alloc (Nat.le_refl _) (.cells #[] 68)) (Nat.le_refl _)).cells
   have hnil := Lib.run_eql_slice_nil (P := Try.prog) w 22 68 (some ad) n c 0 0 Try.underlying22
   go_enter Try.func55, Try.ntmps55
   go_wp2_with (first
    | (at_builtin; go_loud (refine wpList_append_cells rfl (.tmp 5) (.tmp 6) 22 rfl w.heap.size 68 i0 _ 17 216 Try.underlying22 hi0 hz0 hz1 hz2 rfl (by decide) _ 0 [] rfl (Pa.own_emptyg w _ w.heap.size _ 17 rfl (Nat.le_refl _)) _ n c (flatF fs) rfl hCl (flatF_one' _) ?c2 ?c3 ?c4 ?_)))
   case c2 => unfold maxLen; omega
   case c3 => omega
   case c4 => simp
   intro A3 c3 w2 hown hg3 _
   have hb2 : Below w.heap.size w w2 := ((Below.refl w.heap.size w).alloc (Nat.le_refl _) _).grown hg3 (by simp) (fun q hq => by simp [Value.ownBlock] at hq; omega)
   try simp only [Nat.zero_add, List.nil_append] at hown
   have hO := ownF_all hL hb2 hown
   clear hCl hown hg3
   go_wp2
   go_ret
   exact ⟨A3, c3, rfl, hb2, hO⟩
end Ma
end Go.Proofs.Ytbbnbgllgomolaa
namespace Go.Proofs.Ytbbnbgllgomolaa
open Go.RowKit
namespace Ma
open Dp Dy
def setL : List Value → Nat → List Value → List Value
 | xs, _, [] => xs
 | xs, j, v :: r => setL (xs.set j v) (j + 1) r
theorem setL_app (l : List Value) : ∀ (vs xs : List Value) (o : Nat), setL (l ++ xs) (l.length + o) vs = l ++ setL xs o vs
 | [], _, _ => rfl
 | v :: r, xs, o => by
  show setL ((l ++ xs).set (l.length + o) v) (l.length + o + 1) r = l ++ setL (xs.set o v) (o + 1) r
  rw [List.set_append_right _ _ (Nat.le_add_right _ _), Nat.add_sub_cancel_left, Nat.add_assoc, setL_app l r]
theorem own_setCells {base : Nat} {e : TypeId} {size g n cap : Nat} : ∀ (vs : List Value) (j : Nat) (w : World) (xs : List Value), w.ownsRow base e size (.slice (some ⟨g, 0, none⟩) n cap) n xs → (w.setCells g j vs).ownsRow base e size (.slice (some ⟨g, 0, none⟩) n cap) n (setL xs j vs)
 | [], _, _, _, h => h
 | v :: r, j, _w, _xs, h => own_setCells r (j + 1) _ _ (World.ownsRow.stored h j v).1
theorem below_setCells {B g : Nat} {w0 : World} (hg : B ≤ g) : ∀ (vs : List Value) (j : Nat) (w : World), Below B w0 w → Below B w0 (w.setCells g j vs)
 | [], _, _, h => h
 | v :: r, j, _w, h => below_setCells hg r (j + 1) _ (h.setCell hg v)
theorem other_setCells {g k : Nat} (hk : k ≠ g) : ∀ (vs : List Value) (j : Nat) (w : World), (w.setCells g j vs).heap[k]? = w.heap[k]?
 | [], _, _ => rfl
 | _v :: r, j, _w => (other_setCells hk r (j + 1) _).trans (Below.heap_setCell _ _ _ _ hk)
theorem size_setCellsK {g : Nat} : ∀ (vs : List Value) (j : Nat) (w : World), (w.setCells g j vs).heap.size = w.heap.size
 | [], _, _ => rfl
 | v :: r, j, w => (size_setCellsK r (j + 1) _).trans (by simp [World.setCell])
def cells16 (p : Pv) : List Value := [.bool p.M.S.s, .slice p.M.S.A p.M.S.n p.M.S.c, .int .i64 p.M.S.e, .bool p.M.W.s, .slice p.M.W.A p.M.W.n p.M.W.c, .int .i64 p.M.W.e, .bool p.M.C.s, .slice p.M.C.A p.M.C.n p.M.C.c, .int .i64 p.M.C.e, .bool p.M.A.s, .slice p.M.A.A p.M.A.n p.M.A.c, .int .i64 p.M.A.e, .bool p.h, .int .i64 p.mn, .int .i64 p.mx, .slice p.A p.n p.c]
theorem setL_head (a : Fv) (q : Pv) (t : List Value) : setL (cells17 a ++ t) 1 (cells16 q) = cells17 ⟨a.e, q⟩ ++ t := by
 simp [setL, cells17, cells16]
theorem flatF_part : ∀ (l : List Fv) (i : Nat) (q : Pv) (h : i < l.length), flatF (l.set i ⟨l[i].e, q⟩) = setL (flatF l) (i * 17 + 1) (cells16 q)
 | [], _, _, h => absurd h (Nat.not_lt_zero _)
 | a :: l, 0, q, _ => (setL_head a q (flatF l)).symm
 | a :: l, i + 1, q, h => by
  have hi : i < l.length := by simpa using h
  have ih := flatF_part l i q hi
  have e : (i + 1) * 17 + 1 = (cells17 a).length + (i * 17 + 1) := by simp [cells17]; omega
  show cells17 a ++ flatF (l.set i ⟨l[i].e, q⟩) = setL (cells17 a ++ flatF l) ((i + 1) * 17 + 1) (cells16 q)
  rw [e, setL_app, ih]
theorem OwnF.put {w : World} {base g n c : Nat} {fs : List Fv} (h : OwnF w base (.slice (some ⟨g, 0, none⟩) n c) n fs) {i : Nat} (hi : i < fs.length) (q : Pv) (hq : PRows w 0 w.heap.size q) (ho : ∀ e, Fv.off ⟨e, q⟩ (some g)) :
  OwnF (w.setCells g (i * 17 + 1) (cells16 q)) base (.slice (some ⟨g, 0, none⟩) n c) n (fs.set i ⟨fs[i].e, q⟩) := by
 have hk : ∀ {f : Fv}, PRows w 0 w.heap.size f.P → f.off (some g) → PRows (w.setCells g (i * 17 + 1) (cells16 q)) 0 (w.setCells g (i * 17 + 1) (cells16 q)).heap.size f.P := fun hr hf =>
  prows_grown hr ⟨(below_setCells (Nat.zero_le _) _ _ _ (Below.refl 0 w)).os, (below_setCells (Nat.zero_le _) _ _ _ (Below.refl 0 w)).tape, (below_setCells (Nat.zero_le _) _ _ _ (Below.refl 0 w)).output, Nat.le_of_eq (size_setCellsK _ _ _).symm, fun k _ hk => other_setCells (fun e => hk (by rw [e])) _ _ _⟩ hf
 refine ⟨by rw [flatF_part _ _ _ hi]; exact own_setCells _ _ _ _ h.own, by simp [h.len], fun f hf => ?_, fun f hf => ?_⟩
 · rcases List.mem_or_eq_of_mem_set hf with hf | rfl
   · exact hk (h.rows f hf) (h.off f hf)
   · exact hk (f := ⟨fs[i].e, q⟩) hq (ho _)
 · rcases List.mem_or_eq_of_mem_set hf with hf | rfl
   · exact h.off f hf
   · exact ho _
theorem OwnF.addr {w : World} {base n c : Nat} {A : Option Addr} {fs : List Fv} (h : OwnF w base (.slice A n c) n fs) (hn : 0 < n) : ∃ g, A = some ⟨g, 0, none⟩ ∧ base ≤ g ∧ g < w.heap.size := by
 rcases h.own.2 with ⟨_, e0⟩ | ⟨g, cap, cur, e, hb, hg, _⟩
 · omega
 · injection e with e1 e2 e3
   exact ⟨g, e1, hb, (Array.getElem?_eq_some_iff.1 hg).1⟩
end Ma
end Go.Proofs.Ytbbnbgllgomolaa
namespace Go.Proofs.Ytbbnbgllgomolaa
open Go.RowKit
namespace Pa
set_option maxHeartbeats 1600000 in
theorem Clone_anyQ (w : World) (lo hi : Nat) (A : Option Addr) (n c : Nat) (xs : List Int) (hX : Ints w lo hi .u32 A n xs) (hhi : hi ≤ w.heap.size) (hn : n ≤ 1000000) :
  Calls Try.prog 57 #[.slice A n c] w fun e w' => ∃ A' c', e = .returned (.slice A' n c') ∧ n ≤ c' ∧ Below w.heap.size w w' ∧ w'.ownsRow w.heap.size 70 1 (.slice A' n c') n (xs.map (Value.int .u32)) := by
 obtain ⟨i0, hi0, hz0, hz1, hz2⟩ := info_parts infoU32
 have HL := Lib.hid hX.len
 have hbig := hX.big
 rcases A with _ | a
 · by_cases hn : n = 0
   · subst hn
     have := hX.zero rfl
     subst this
     have hnil := Lib.run_eql_slice_nil (P := Try.prog) w 23 70 none 0 c 0 0 Try.underlying23
     go_enter Try.func57, Try.ntmps57
     go_wp2
     go_ret
     exact ⟨none, 0, rfl, Nat.le_refl _, Below.refl _ _, World.ownsRow_nil _ _ _ _⟩
   · obtain ⟨_, _, e, _⟩ := hX.row (by omega)
     cases e
 · have hnil := Lib.run_eql_slice_nil (P := Try.prog) w 23 70 (some a) n c 0 0 Try.underlying23
   go_enter Try.func57, Try.ntmps57
   go_wp2_with (first
    | (at_builtin; refine wpList_append_raw _ rfl (.tmp 5) (.tmp 6) 23 rfl w.heap.size 70 i0 _ 1 4 Try.underlying23 hi0 hz0 hz1 hz2 rfl (by decide) _ _ _ rfl (own_empty w w.heap.size _ 1 (Nat.le_refl _)) _ _ _ n _ _ rfl (hX.alloc hhi _).raw ?c1 ?c2 ?c3 ?c4 ?_))
   case c1 => exact u32_one _
   case c2 => unfold maxLen; omega
   case c3 => omega
   case c4 => simp
   intro A2 c2 w2 hown2 hgrow2 _
   have hb2 : Below w.heap.size w w2 := ((Below.refl _ w).alloc (Nat.le_refl _) _).grown hgrow2 (by simp) (fun q hq => by simp [Value.ownBlock] at hq; omega)
   have hc2 := own_cap hown2
   clear hgrow2
   go_wp2
   go_ret
   exact ⟨A2, c2, by simp, hc2, hb2, hown2⟩
set_option maxHeartbeats 1600000 in
theorem dyadTwin_anyQ (w : World) (s : Bool) (A : Option Addr) (n c : Nat) (xs : List Int) (e : Int) (hX : Ints w 0 w.heap.size .u32 A n xs) (hn : n ≤ 1000000) :
  Calls Try.prog 95 #[.agg #[.bool s, .slice A n c, .int .i64 e]] w fun r w' => ∃ A' c', r = .returned (.agg #[.bool s, .slice A' n c', .int .i64 e]) ∧ n ≤ c' ∧ Below w.heap.size w w' ∧ w.heap.size < w'.heap.size ∧ Ints w' (w.heap.size + 2) w'.heap.size .u32 A' n xs := by
 have hxw := Lib.hid hX.wf
 have hbig := hX.big
 have hX2 := (hX.alloc (Nat.le_refl _) (.cells #[.bool s, .slice A n c, .int .i64 e] 25)).alloc (by simp) (.cells #[.bool false, .slice none 0 0, .int .i64 0] 25)
 go_enter Try.func95, Try.ntmps95
 go_wp2_with fail
 refine (Clone_anyQ _ _ _ A n c xs hX2 (by simp; omega) hn).mono ?_
 rintro e w1 ⟨A2, c2, rfl, hc2, hb1, hown1⟩
 (try simp at hown1)
 have hD := Ints.of_own hown1 hxw.out hbig
 have hs1 := hb1.size
 simp at hs1
 have G1 := heapKeep hb1 (by simp; omega) (heapAll (.cells #[.bool false, .slice none 0 0, .int .i64 0] 25) (heap_newP w (.cells #[.bool s, .slice A n c, .int .i64 e] 25) _ rfl))
 have G2 := heapKeep hb1 (by simp) (heap_newP (w.alloc (.cells #[.bool s, .slice A n c, .int .i64 e] 25)) (.cells #[.bool false, .slice none 0 0, .int .i64 0] 25) (w.heap.size + 1) (by simp))
 obtain ⟨⟨k1, k2, k3⟩, k4, k5, k6⟩ := boxP3 G1
 obtain ⟨⟨p1, p2, p3⟩, p4, p5, p6⟩ := boxP3 G2
 have hbb := (((Below.refl w.heap.size w).alloc (Nat.le_refl _) (.cells #[.bool s, .slice A n c, .int .i64 e] 25)).alloc (by simp) (.cells #[.bool false, .slice none 0 0, .int .i64 0] 25)).trans (hb1.mono (by simp; omega))
 clear hb1 hown1 G1 G2
 go_wp2
 refine bodyPost_ret (v := .agg #[.bool s, .slice A2 n c2, .int .i64 e]) (by simp [results, Try.results95, go_sem, p1, p2, p3]) rfl ⟨A2, c2, rfl, hc2, ?_, ?_, ?_⟩
 · repeat (refine Below.setCell ?_ (by simp; try omega) _)
   exact hbb
 · simp [World.setCell]
   omega
 · refine Ints.more (lo := w.heap.size + 2) (hi := w1.heap.size) ?_ (Nat.le_refl _) (by simp [World.setCell])
   repeat (refine ints_far ?_ (by simp; try omega) _)
   exact hD
end Pa
namespace Ma
open Dp Dy
attribute [local go_sem] Oper.semAt_some
theorem put_getQ {m : Mv} {x y : Nat} {d : Dv} (hx : x < 4) (hy : y < 4) : (m.put x d).get y = if y = x then d else m.get y := by
 have hx' : x = 0 ∨ x = 1 ∨ x = 2 ∨ x = 3 := by omega
 have hy' : y = 0 ∨ y = 1 ∨ y = 2 ∨ y = 3 := by omega
 rcases hx' with rfl | rfl | rfl | rfl <;> rcases hy' with rfl | rfl | rfl | rfl <;> rfl
theorem keeps_allQ {w : World} {g : Nat} (m : Mv) : KeepsOthers w ((((((((((((w.setCell ⟨g, 0, none⟩ (.bool m.S.s)).setCell ⟨g, 1, none⟩ (.slice m.S.A m.S.n m.S.c)).setCell ⟨g, 2, none⟩ (.int .i64 m.S.e)).setCell ⟨g, 3, none⟩ (.bool m.W.s)).setCell ⟨g, 4, none⟩ (.slice m.W.A m.W.n m.W.c)).setCell ⟨g, 5, none⟩ (.int .i64 m.W.e)).setCell ⟨g, 6, none⟩ (.bool m.C.s)).setCell ⟨g, 7, none⟩ (.slice m.C.A m.C.n m.C.c)).setCell ⟨g, 8, none⟩ (.int .i64 m.C.e)).setCell ⟨g, 9, none⟩ (.bool m.A.s)).setCell ⟨g, 10, none⟩ (.slice m.A.A m.A.n m.A.c)).setCell ⟨g, 11, none⟩ (.int .i64 m.A.e)) :=
 ((((((((((((KeepsOthers.refl _).trans (KeepsOthers.setCell _ _ _)).trans (KeepsOthers.setCell _ _ _)).trans (KeepsOthers.setCell _ _ _)).trans (KeepsOthers.setCell _ _ _)).trans (KeepsOthers.setCell _ _ _)).trans (KeepsOthers.setCell _ _ _)).trans (KeepsOthers.setCell _ _ _)).trans (KeepsOthers.setCell _ _ _)).trans (KeepsOthers.setCell _ _ _)).trans (KeepsOthers.setCell _ _ _)).trans (KeepsOthers.setCell _ _ _)).trans (KeepsOthers.setCell _ _ _)
theorem rows_allQ {w : World} {g lo hi : Nat} {m' : Mv} (h : MRows w lo hi m') (hg : g < lo ∨ hi ≤ g) (m : Mv) : MRows ((((((((((((w.setCell ⟨g, 0, none⟩ (.bool m.S.s)).setCell ⟨g, 1, none⟩ (.slice m.S.A m.S.n m.S.c)).setCell ⟨g, 2, none⟩ (.int .i64 m.S.e)).setCell ⟨g, 3, none⟩ (.bool m.W.s)).setCell ⟨g, 4, none⟩ (.slice m.W.A m.W.n m.W.c)).setCell ⟨g, 5, none⟩ (.int .i64 m.W.e)).setCell ⟨g, 6, none⟩ (.bool m.C.s)).setCell ⟨g, 7, none⟩ (.slice m.C.A m.C.n m.C.c)).setCell ⟨g, 8, none⟩ (.int .i64 m.C.e)).setCell ⟨g, 9, none⟩ (.bool m.A.s)).setCell ⟨g, 10, none⟩ (.slice m.A.A m.A.n m.A.c)).setCell ⟨g, 11, none⟩ (.int .i64 m.A.e)) lo hi m' :=
 ⟨ints_far (ints_far (ints_far (ints_far (ints_far (ints_far (ints_far (ints_far (ints_far (ints_far (ints_far (ints_far (show Ints _ _ _ _ _ _ _ from h.S) hg _) hg _) hg _) hg _) hg _) hg _) hg _) hg _) hg _) hg _) hg _) hg _, ints_far (ints_far (ints_far (ints_far (ints_far (ints_far (ints_far (ints_far (ints_far (ints_far (ints_far (ints_far (show Ints _ _ _ _ _ _ _ from h.W) hg _) hg _) hg _) hg _) hg _) hg _) hg _) hg _) hg _) hg _) hg _) hg _, ints_far (ints_far (ints_far (ints_far (ints_far (ints_far (ints_far (ints_far (ints_far (ints_far (ints_far (ints_far (show Ints _ _ _ _ _ _ _ from h.C) hg _) hg _) hg _) hg _) hg _) hg _) hg _) hg _) hg _) hg _) hg _) hg _, ints_far (ints_far (ints_far (ints_far (ints_far (ints_far (ints_far (ints_far (ints_far (ints_far (ints_far (ints_far (show Ints _ _ _ _ _ _ _ from h.A) hg _) hg _) hg _) hg _) hg _) hg _) hg _) hg _) hg _) hg _) hg _) hg _⟩
theorem ints_ownQ {W W' : World} {row : Option Nat} {lo hi : Nat} {k : IntKind} {A : Option Addr} {n : Nat} {xs : List Int} (h : Ints W lo hi k A n xs) (hg : W.grownBy W' row) (hr : ∀ r, row = some r → (∃ o : Obj, W.heap[r]? = some o ∧ o.isCells = false) ∨ r < lo) : Ints W' lo hi k A n xs :=
 ⟨h.len, h.wf, h.big, fun h0 => by
  obtain ⟨b, off, e, h1, h2, hc⟩ := h.row h0
  have hlt := World.block_lt_of_cell? W _ (hc 0 h0).1
  have h3 : W'.heap[b]? = W.heap[b]? := hg.block b hlt fun e' => by
   rcases hr b e'.symm with ⟨o, h4, h5⟩ | h4
   · have := (hc 0 h0).1
     rw [World.cell?] at this
     simp only [h4] at this
     cases o <;> simp_all [Obj.isCells]
   · omega
  exact ⟨b, off, e, h1, h2, fun j hj => ⟨by rw [World.cell?_of_block h3]; exact (hc j hj).1, by rw [World.frozen?_of_block h3]; exact (hc j hj).2⟩⟩⟩
theorem grown_putDQ (w : World) (D : Nat) : w.grownBy (w.putObj D (.deferred none)) (some D) := ⟨rfl, rfl, rfl, by simp, fun k _ hk => World.putObj_heap_other (fun e => hk (by rw [e]))⟩
structure TwIQ (w : World) (B : Nat) (m : Mv) (pre : List Nat) (O : Nat → Prop) (W : World) (m' : Mv) : Prop where
 own : O w.heap.size
 box : MBox W w.heap.size m'
 res : MBox W (w.heap.size + 1) ZM
 done : ∀ j, j ∈ pre → j < 4 → TwinV (m.get j) (m'.get j) ∧ Ints W B W.heap.size .u32 (m'.get j).A (m'.get j).n (m'.get j).xs
 rest : ∀ j, j ∉ pre → j < 4 → m'.get j = m.get j
 bel : Below w.heap.size w W
set_option maxHeartbeats 25600000 in
set_option maxRecDepth 100000 in
theorem MTwin_anyP (w : World) (m : Mv) (hR : MRows w 0 w.heap.size m) (hn : ∀ x, x < 4 → (m.get x).n ≤ 1000000) :
  Calls Try.prog 56 #[.agg #[.bool m.S.s, .slice m.S.A m.S.n m.S.c, .int .i64 m.S.e, .bool m.W.s, .slice m.W.A m.W.n m.W.c, .int .i64 m.W.e, .bool m.C.s, .slice m.C.A m.C.n m.C.c, .int .i64 m.C.e, .bool m.A.s, .slice m.A.A m.A.n m.A.c, .int .i64 m.A.e]] w fun e w' => ∃ m', e = .returned (.agg #[.bool m'.S.s, .slice m'.S.A m'.S.n m'.S.c, .int .i64 m'.S.e, .bool m'.W.s, .slice m'.W.A m'.W.n m'.W.c, .int .i64 m'.W.e, .bool m'.C.s, .slice m'.C.A m'.C.n m'.C.c, .int .i64 m'.C.e, .bool m'.A.s, .slice m'.A.A m'.A.n m'.A.c, .int .i64 m'.A.e]) ∧ (∀ x, x < 4 → TwinV (m.get x) (m'.get x)) ∧ Below w.heap.size w w' ∧ MRows w' w.heap.size w'.heap.size m' := by
 refine (callsIn_wide (n := 5)).1 ?_
 refine callsIn_of_wp_marks Try.func56 rfl trivial ?_ rfl
 simp only [Try.ntmps56, List.size_toArray, List.length_cons, List.length_nil, Nat.reduceAdd, Nat.reduceSub, Array.replicate_succ, Array.replicate_zero, List.push_toArray, List.append_toArray, List.nil_append, List.cons_append]
 gi_wp2_with fail
 refine ⟨trivial, (callsIn_wide.2 (parts_any _ _ _)).mono ?_⟩
 rintro e w2 ⟨rfl, rfl⟩
 gi_wp2_with fail
 obtain ⟨W0, hW0⟩ : ∃ W0, (((w.alloc (.cells #[.bool m.S.s, .slice m.S.A m.S.n m.S.c, .int .i64 m.S.e, .bool m.W.s, .slice m.W.A m.W.n m.W.c, .int .i64 m.W.e, .bool m.C.s, .slice m.C.A m.C.n m.C.c, .int .i64 m.C.e, .bool m.A.s, .slice m.A.A m.A.n m.A.c, .int .i64 m.A.e] 27)).alloc (.cells #[.bool false, .slice none 0 0, .int .i64 0, .bool false, .slice none 0 0, .int .i64 0, .bool false, .slice none 0 0, .int .i64 0, .bool false, .slice none 0 0, .int .i64 0] 27)).alloc (.cells #[.pointer (some ⟨w.heap.size, 0, none⟩)] 134)).alloc (.cells #[.pointer (some ⟨w.heap.size, 0, none⟩)] 134) = W0 := ⟨_, rfl⟩
 obtain ⟨⟨hM0, hE0, hS1, hS2⟩, hB0, hlo, hhi⟩ := boxes4 w _ _ _ _ hW0
 rw [hW0]
 clear hW0
 refine wpIn_rangeFunc_sep2 (F := Fence.wide) rfl (by decide) (gf := 125) (lb := #[.pointer (some ⟨w.heap.size + 1 + 1, 0, none⟩), .pointer (some ⟨w.heap.size + 1 + 1 + 1, 0, none⟩)]) rfl trivial (enters_of Try.func125 (by kernel_rfl) rfl)
  (parts_seq _ _ _ w.heap.size w.heap.size W0 ⟨hS1, hS2⟩) (by omega) (fun _ => rfl)
  (fun pre O W => W0.heap.size ≤ W.heap.size ∧ ∃ m', TwIQ w W0.heap.size m pre O W m')
  (fun _ _ _ _ => False)
  (fun O s A B row hs hg hr => by
   obtain ⟨hsz, m', h⟩ := hs
   exact ⟨Nat.le_trans hsz hg.size, m', h.own, heap_own h.box hg (fun r e => (hr r e).2), heap_own h.res hg (fun r e => (hr r e).2), fun j h1 h2 => ⟨(h.done j h1 h2).1, (ints_ownQ (h.done j h1 h2).2 hg (fun r e => .inl (hr r e).2)).more (Nat.le_refl _) hg.size⟩, h.rest, h.bel.grown hg h.bel.size (fun k e => by have := (hr k e).1; omega)⟩)
  (fun j O s A B row hs hg hr => hs)
  (fun s O A B row hs hg hr => by
   obtain ⟨hsz, m', h⟩ := hs
   exact ⟨Nat.le_trans hsz hg.size, m', h.own, heap_loose h.box hg hr (by omega), heap_loose h.res hg hr (by omega), fun j h1 h2 => ⟨(h.done j h1 h2).1, (ints_ownQ (h.done j h1 h2).2 hg (fun r e => .inr (by have := hr r e; omega))).more (Nat.le_refl _) hg.size⟩, h.rest, below_loose h.bel (Nat.le_refl _) hg hr (by omega)⟩)
  (fun j s O A B row hs hg hr => hs)
  (fun k => k = w.heap.size) (fun k hk e => by omega) (fun k e => by omega) ⟨Nat.le_refl _, m, rfl, hM0, hE0, (fun x hx => absurd hx (List.not_mem_nil)), fun _ _ _ => rfl, hB0⟩
  (fun x a' W => a' = { tmps := #[.agg #[.bool m.S.s, .slice m.S.A m.S.n m.S.c, .int .i64 m.S.e, .bool m.W.s, .slice m.W.A m.W.n m.W.c, .int .i64 m.W.e, .bool m.C.s, .slice m.C.A m.C.n m.C.c, .int .i64 m.C.e, .bool m.A.s, .slice m.A.A m.A.n m.A.c, .int .i64 m.A.e], .pointer (some ⟨w.heap.size, 0, none⟩), .pointer (some ⟨w.heap.size + 1, 0, none⟩), .pointer (some ⟨w.heap.size, 3 * x, none⟩),
   .func (.func 125) #[] #[.pointer (some ⟨w.heap.size + 1 + 1, 0, none⟩), .pointer (some ⟨w.heap.size + 1 + 1 + 1, 0, none⟩)], .pointer (some ⟨w.heap.size, 3 * x, none⟩), .pointer (some ⟨w.heap.size, 3 * x, none⟩), undef, undef, undef, undef, undef, undef, undef], defers := [] })
  (fun x a' _ _ _ _ h _ _ => h) ?assign ?body ?done ?stop
 case assign =>
  intro l pre x O W K hgx hsW hi hK
  unfold encM
  gi_wp2
  exact hK _ _ (KeepsFrom.refl _ _) (Gain.refl _ _) hi rfl
 case body =>
  rintro l pre x O a' W ⟨hx4, hpre⟩ hsW ⟨hsz, m', h⟩ rfl _
  have hnin : x ∉ pre := fun hin => by
   rw [hpre] at hin
   exact Nat.lt_irrefl x (List.mem_range.1 hin)
  have hmx := h.rest x hnin hx4
  have hrow : Ints W 0 W.heap.size .u32 (m.get x).A (m.get x).n (m.get x).xs := ((hR.get x).below h.bel (Nat.le_refl _)).more (Nat.le_refl _) h.bel.size
  have hn' := hn x hx4
  have hcm := MBox.at_ h.box hx4
  rw [hmx] at hcm
  generalize hd : m.get x = d at hcm hrow hn' hmx
  have HD := Lib.hid hd
  have HMX := Lib.hid hmx
  clear hd hmx
  obtain ⟨⟨k1, k2, k3⟩, k4, k5, k6⟩ := hcm
  gi_wp2_with fail
  refine ⟨trivial, (CallsIn.inRound l (callsIn_wide.2 (Pa.dyadTwin_anyQ W d.s d.A d.n d.c d.xs d.e hrow hn'))).mono ?_⟩
  rintro e W2 ⟨A', c', rfl, hc', hB, hlt, hI⟩
  have hM2 := box_on h.box hB (by omega)
  have hcm2 := MBox.at_ (m := m') hM2 hx4
  rw [HMX.out] at hcm2
  obtain ⟨⟨j1, j2, j3⟩, j4, j5, j6⟩ := hcm2
  clear k1 k2 k3 k4 k5 k6
  gi_wp2
  have hb2 := h.bel.trans (hB.mono h.bel.size)
  have hs2 := h.bel.size
  have hs3 := hB.size
  refine ⟨(keeps_below hB).trans (((KeepsOthers.setCell _ _ _).trans (KeepsOthers.setCell _ _ _)).trans (KeepsOthers.setCell _ _ _) |>.from _), O, (gain_below hB).trans (((gain_set h.own _).trans (gain_set h.own _)).trans (gain_set h.own _)), by simp [World.setCell]; omega, m'.put x ⟨d.s, A', d.n, c', d.e, d.xs⟩, h.own, MBox.put hM2 hx4 ⟨d.s, A', d.n, c', d.e, d.xs⟩, ?_, fun j hj hj4 => ?_, fun j hj hj4 => ?_, ((hb2.setCell (Nat.le_refl _) _).setCell (Nat.le_refl _) _).setCell (Nat.le_refl _) _⟩
  · exact (Below.heap_setCell _ _ _ _ (by simp)).trans ((Below.heap_setCell _ _ _ _ (by simp)).trans ((Below.heap_setCell _ _ _ _ (by simp)).trans (box_on h.res hB (by omega))))
  · rw [put_getQ hx4 hj4]
    have hsz3 : (((W2.setCell ⟨w.heap.size, 3 * x, none⟩ (.bool d.s)).setCell ⟨w.heap.size, 3 * x + 1, none⟩ (.slice A' d.n c')).setCell ⟨w.heap.size, 3 * x + 2, none⟩ (.int .i64 d.e)).heap.size = W2.heap.size := by simp [World.setCell]
    by_cases e : j = x
    · rw [if_pos e, e, HD.out]
      refine ⟨⟨rfl, rfl, rfl, rfl, hc'⟩, ?_⟩
      exact (ints_far (ints_far (ints_far (hI.more (by omega) (Nat.le_refl _)) (.inl (by show w.heap.size < W0.heap.size; omega)) _) (.inl (by show w.heap.size < W0.heap.size; omega)) _) (.inl (by show w.heap.size < W0.heap.size; omega)) _).more (Nat.le_refl _) (by rw [hsz3]; exact Nat.le_refl _)
    · rw [if_neg e]
      have hjp : j ∈ pre := by
       rcases List.mem_append.1 hj with h1 | h1
       · exact h1
       · exact absurd (List.mem_singleton.1 h1) e
      refine ⟨(h.done j hjp hj4).1, ?_⟩
      exact (ints_far (ints_far (ints_far ((h.done j hjp hj4).2.below hB (Nat.le_refl _)) (.inl (by show w.heap.size < W0.heap.size; omega)) _) (.inl (by show w.heap.size < W0.heap.size; omega)) _) (.inl (by show w.heap.size < W0.heap.size; omega)) _).more (Nat.le_refl _) (by rw [hsz3]; omega)
  · have h1 : j ∉ pre := fun h1 => hj (List.mem_append_left _ h1)
    have e : j ≠ x := fun e => hj (by rw [e]; exact List.mem_append_right _ (List.mem_singleton.2 rfl))
    rw [put_getQ hx4 hj4, if_neg e]
    exact h.rest j h1 hj4
 case done =>
  rintro D ys O W hD hS ⟨hsz, m', h⟩ hK
  obtain ⟨⟨k0, k1, k2, k3, k4, k5, k6, k7, k8, k9, k10, k11⟩, kf⟩ := MBox.cells h.box
  obtain ⟨⟨z0, z1, z2, z3, z4, z5, z6, z7, z8, z9, z10, z11⟩, zf⟩ := MBox.cells h.res
  have hall : ∀ x, x < 4 → TwinV (m.get x) (m'.get x) ∧ Ints W W0.heap.size W.heap.size .u32 (m'.get x).A (m'.get x).n (m'.get x).xs := fun x hx => h.done x (by rw [hS]; simp; omega) hx
  have hbel := h.bel
  have hres := h.res
  clear h hS
  gi_wp2
  have hK' := (keeps_allQ (w := W) (g := w.heap.size + 1) m').same D _ hK rfl
  have hR' : MRows W W0.heap.size W.heap.size m' := ⟨(hall 0 (by decide)).2, (hall 1 (by decide)).2, (hall 2 (by decide)).2, (hall 3 (by decide)).2⟩
  have hX := MBox.all hres m'
  have hY := below_all hbel (show w.heap.size ≤ w.heap.size + 1 by omega) m'
  have hZ := rows_allQ hR' (g := w.heap.size + 1) (.inl (by omega)) m'
  have hs := size_all (w := W) (g := w.heap.size + 1) m'
  clear k0 k1 k2 k3 k4 k5 k6 k7 k8 k9 k10 k11 kf z0 z1 z2 z3 z4 z5 z6 z7 z8 z9 z10 z11 zf
  generalize ((((((((((((W.setCell ⟨w.heap.size + 1, 0, none⟩ (.bool m'.S.s)).setCell ⟨w.heap.size + 1, 1, none⟩ (.slice m'.S.A m'.S.n m'.S.c)).setCell ⟨w.heap.size + 1, 2, none⟩ (.int .i64 m'.S.e)).setCell ⟨w.heap.size + 1, 3, none⟩ (.bool m'.W.s)).setCell ⟨w.heap.size + 1, 4, none⟩ (.slice m'.W.A m'.W.n m'.W.c)).setCell ⟨w.heap.size + 1, 5, none⟩ (.int .i64 m'.W.e)).setCell ⟨w.heap.size + 1, 6, none⟩ (.bool m'.C.s)).setCell ⟨w.heap.size + 1, 7, none⟩ (.slice m'.C.A m'.C.n m'.C.c)).setCell ⟨w.heap.size + 1, 8, none⟩ (.int .i64 m'.C.e)).setCell ⟨w.heap.size + 1, 9, none⟩ (.bool m'.A.s)).setCell ⟨w.heap.size + 1, 10, none⟩ (.slice m'.A.A m'.A.n m'.A.c)).setCell ⟨w.heap.size + 1, 11, none⟩ (.int .i64 m'.A.e)) = V at *
  have hX2 : MBox (V.putObj D (.deferred none)) (w.heap.size + 1) m' := (World.putObj_heap_other (o := .deferred none) (by omega : w.heap.size + 1 ≠ D)).trans hX
  obtain ⟨⟨k0, k1, k2, k3, k4, k5, k6, k7, k8, k9, k10, k11⟩, kf⟩ := MBox.cells hX2
  refine ⟨by simp, .inl ⟨_, _, rfl, run_takeDeferred hK', ?_⟩⟩
  refine ⟨.agg #[.bool m'.S.s, .slice m'.S.A m'.S.n m'.S.c, .int .i64 m'.S.e, .bool m'.W.s, .slice m'.W.A m'.W.n m'.W.c, .int .i64 m'.W.e, .bool m'.C.s, .slice m'.C.A m'.C.n m'.C.c, .int .i64 m'.C.e, .bool m'.A.s, .slice m'.A.A m'.A.n m'.A.c, .int .i64 m'.A.e], ?_, m', rfl, ?_⟩
  · simp [results, Try.f56, go_sem, k0, k1, k2, k3, k4, k5, k6, k7, k8, k9, k10, k11]
  · refine ⟨fun x hx => (hall x hx).1, hY.trans (belowK_b (w := w) (Nat.le_refl _) _ D _ _ (by omega) hK' rfl rfl), ?_⟩
    have hp : ∀ k, k ≠ D → (V.putObj D (.deferred none)).heap[k]? = V.heap[k]? := fun k hk => World.putObj_heap_other hk
    have hdD : D < V.heap.size := lt_of_heap hK'
    have rr : ∀ x, x < 4 → Ints (V.putObj D (.deferred none)) W0.heap.size W.heap.size .u32 (m'.get x).A (m'.get x).n (m'.get x).xs := fun x _ => ints_ownQ (hZ.get x) (grown_putDQ V D) (fun r e => by
     injection e with e
     exact .inl ⟨_, e ▸ hK', rfl⟩)
    have hsz2 : (V.putObj D (.deferred none)).heap.size = V.heap.size := by simp
    have hs' : V.heap.size = W.heap.size := hs
    exact MRows.more ⟨rr 0 (by decide), rr 1 (by decide), rr 2 (by decide), rr 3 (by decide)⟩ (by omega) (by omega)
 case stop =>
  rintro D j pre O W hD hSp hf hK
  exact hf.elim
end Ma
end Go.Proofs.Ytbbnbgllgomolaa