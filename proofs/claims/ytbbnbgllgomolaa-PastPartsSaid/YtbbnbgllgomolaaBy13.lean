/- Copies of parts and of lists of them: plain laws, and what a store into another block leaves alone. -/
/- What is frozen, got, and there before: what is answered, said as lists; no program in sight. -/
/- Tags that may be: least.Check and headcountref10.MayLeast, each by a walk. -/
/- Edges and parts that may be: walks (printed by a program of mine). -/
import Derived.Test.YtbbnbgllgomolaaBy12
import Derived.Test.YtbbnbgllgomolaaBy11
import Derived.Test.YtbbnbgllgomolaaBy10
import Derived.Test.YtbbnbgllgomolaaProg
import Derived.Test.YtbbnbgllgomolaaBy01
import Derived.Test.YtbbnbgllgomolaaBy09
namespace Go.Proofs.Ytbbnbgllgomolaa
open Go.RowKit
namespace Ma
open Dp Dy
theorem greatF_not {n : Nat} {fs : List Fv} (h : greatF n fs = false) : n ≤ 1028 ∧ (40 < n → 1024 ≤ n) ∧ ∀ j (h : j < fs.length), greatP fs[j].P = false := by
 unfold greatF at h
 rw [Bool.or_eq_false_iff, Bool.or_eq_false_iff, Bool.and_eq_false_iff] at h
 obtain ⟨⟨h1, h2⟩, h3⟩ := h
 simp only [decide_eq_false_iff_not] at h1 h2
 refine ⟨by omega, fun h => by omega, fun j hj => ?_⟩
 have := List.any_eq_false.1 h3 _ (List.getElem_mem hj)
 cases e : greatP fs[j].P
 · rfl
 · rw [e] at this
   simp at this
theorem greatP_not {p : Pv} (h : greatP p = false) : greatM p.M = false ∧ p.n ≤ 70 := by
 unfold greatP at h
 rw [Bool.or_eq_false_iff] at h
 exact ⟨h.1, by have := h.2; simp at this; omega⟩
theorem small_part {w : World} {lo hi : Nat} {p : Pv} (hR : PRows w lo hi p) (h : greatP p = false) : (∀ x, x < 4 → (p.M.get x).n ≤ 1000000) ∧ p.n ≤ 1000000 := by
 obtain ⟨h1, h2⟩ := greatP_not h
 refine ⟨fun x hx => ?_, by omega⟩
 have k1 := (great_not h1 x hx).1
 have k2 := (hR.M.get x).len
 omega
theorem small_list {w : World} {lo hi n : Nat} {A : Option Addr} {fs : List Fv} (hL : LFs w lo hi A n fs) (h : greatF n fs = false) : ∀ j (h : j < fs.length), (∀ x, x < 4 → (fs[j].P.M.get x).n ≤ 1000000) ∧ fs[j].P.n ≤ 1000000 := fun j hj =>
 small_part (hL.rows j hj) ((greatF_not h).2.2 j hj)
theorem twinP_small {p q : Pv} (h : TwinP p q) (hs : (∀ x, x < 4 → (p.M.get x).n ≤ 1000000) ∧ p.n ≤ 1000000) : (∀ x, x < 4 → (q.M.get x).n ≤ 1000000) ∧ q.n ≤ 1000000 :=
 ⟨fun x hx => by rw [(h.1 x hx).2.1]; exact hs.1 x hx, by rw [h.2.2.2.2.1]; exact hs.2⟩
theorem twinF_small {fs gs : List Fv} (h : TwinF fs gs) (hs : ∀ j (h : j < fs.length), (∀ x, x < 4 → (fs[j].P.M.get x).n ≤ 1000000) ∧ fs[j].P.n ≤ 1000000) : ∀ j (h : j < gs.length), (∀ x, x < 4 → (gs[j].P.M.get x).n ≤ 1000000) ∧ gs[j].P.n ≤ 1000000 := fun j hj =>
 have h1 : j < fs.length := by rw [← h.1]; exact hj
 twinP_small (h.2 j h1 hj).2 (hs j h1)
theorem twin_sameL {a u b : Mv} (h : ∀ x, x < 4 → TwinV (a.get x) (u.get x)) : sameM u b = sameM a b := by
 have k : ∀ x, x < 4 → ∀ d, sameV (u.get x) d = sameV (a.get x) d := fun x hx d => by
  unfold sameV
  rw [(h x hx).1, (h x hx).2.2.1, (h x hx).2.2.2.1]
 have k0 := k 0 (by decide) b.S
 have k1 := k 1 (by decide) b.W
 have k2 := k 2 (by decide) b.C
 have k3 := k 3 (by decide) b.A
 simp only [Mv.get] at k0 k1 k2 k3
 unfold sameM
 rw [k0, k1, k2, k3]
theorem twinP_left {p q r : Pv} (h : TwinP p q) : sameP q r = sameP p r := by
 unfold sameP sameE
 rw [twin_sameL h.1, h.2.1, h.2.2.1, h.2.2.2.1, h.2.2.2.2.2]
theorem twinP_same {p q : Pv} (h : TwinP p q) : sameP q p = true := by
 unfold sameP sameE
 rw [twin_same h.1, h.2.1, h.2.2.1, h.2.2.2.1, h.2.2.2.2.2, Pa.Sm_refl]
 simp
theorem twinP_trans {p q r : Pv} (h : TwinP p q) (k : TwinP q r) : TwinP p r := by
 obtain ⟨h0, h1, h2, h3, h4, h5⟩ := h
 obtain ⟨k0, k1, k2, k3, k4, k5⟩ := k
 exact ⟨fun x hx => by
  obtain ⟨a1, a2, a3, a4, _⟩ := h0 x hx
  obtain ⟨b1, b2, b3, b4, b5⟩ := k0 x hx
  exact ⟨b1.trans a1, b2.trans a2, b3.trans a3, b4.trans a4, b5⟩, k1.trans h1, k2.trans h2, k3.trans h3, k4.trans h4, k5.trans h5⟩
theorem twinF_trans {fs gs hs : List Fv} (h : TwinF fs gs) (k : TwinF gs hs) : TwinF fs hs := ⟨k.1.trans h.1, fun j h1 h2 => by
 have h3 : j < gs.length := by rw [h.1]; exact h1
 exact ⟨(k.2 j h3 h2).1.trans (h.2 j h1 h3).1, twinP_trans (h.2 j h1 h3).2 (k.2 j h3 h2).2⟩⟩
theorem twinF_same {fs gs : List Fv} (h : TwinF fs gs) : sameF gs fs = true := sameF_yes h.1 fun j h1 h2 => ⟨(h.2 j h2 h1).1, twinP_same (h.2 j h2 h1).2⟩
theorem ints_far {w w' : World} {lo hi g n : Nat} {A : Option Addr} {k : IntKind} {xs : List Int} (h : Ints w lo hi k A n xs) (ho : ∀ a, A = some a → 0 < n → a.block ≠ g) (hf : ∀ j, j ≠ g → w'.heap[j]? = w.heap[j]?) : Ints w' lo hi k A n xs := by
 refine ⟨h.len, h.wf, h.big, fun h0 => ?_⟩
 obtain ⟨b, off, e, h1, h2, hc⟩ := h.row h0
 have hb := hf b (ho _ e h0)
 exact ⟨b, off, e, h1, h2, fun j hj => ⟨(World.cell?_of_block hb).trans (hc j hj).1, (World.frozen?_of_block hb).trans (hc j hj).2⟩⟩
theorem prows_far {w w' : World} {lo hi g : Nat} {p : Pv} (h : PRows w lo hi p) (ho : offP p g) (hf : ∀ j, j ≠ g → w'.heap[j]? = w.heap[j]?) : PRows w' lo hi p :=
 ⟨⟨ints_far h.M.S (ho.1 0 (by decide)) hf, ints_far h.M.W (ho.1 1 (by decide)) hf, ints_far h.M.C (ho.1 2 (by decide)) hf, ints_far h.M.A (ho.1 3 (by decide)) hf⟩, ints_far h.L ho.2 hf⟩
theorem ints_offG {w : World} {lo hi g n : Nat} {A : Option Addr} {k : IntKind} {xs : List Int} (h : Ints w lo hi k A n xs) (hg : g < lo ∨ hi ≤ g) : ∀ a, A = some a → 0 < n → a.block ≠ g := fun a e h0 hk => by
 obtain ⟨b, off, e', h1, h2, _⟩ := h.row h0
 rw [e'] at e
 injection e with e
 subst e
 simp only at hk
 omega
theorem offP_of {w : World} {lo hi g : Nat} {p : Pv} (h : PRows w lo hi p) (hg : g < lo ∨ hi ≤ g) : offP p g := ⟨fun x _ => ints_offG (h.M.get x) hg, ints_offG h.L hg⟩
theorem grown_far {w w' : World} {g : Nat} (hb : ∀ w0 B, Below B w0 w → B ≤ g → Below B w0 w') (hf : ∀ j, j ≠ g → w'.heap[j]? = w.heap[j]?) (hs : w.heap.size ≤ w'.heap.size) : w.grownBy w' (some g) :=
 have k := hb w 0 (Below.refl 0 w) (Nat.zero_le _)
 ⟨k.os, k.tape, k.output, hs, fun j _ hj => hf j fun e => hj (by rw [e])⟩
theorem OwnF.far {w w' : World} {base g n : Nat} {v : Value} {fs : List Fv} (h : OwnF w base v n fs) (hb : ∀ w0 B, Below B w0 w → B ≤ g → Below B w0 w') (hf : ∀ j, j ≠ g → w'.heap[j]? = w.heap[j]?) (hs : w.heap.size ≤ w'.heap.size)
  (hv : v.ownBlock ≠ some g) (ho : ∀ f ∈ fs, offP f.P g) : OwnF w' base v n fs :=
 ⟨h.own.kept (grown_far hb hf hs) (.inr hv), h.len, fun f hf' => (prows_far (h.rows f hf') (ho f hf') hf).more (Nat.le_refl _) hs, h.off⟩
theorem OwnF.base {w : World} {base b' n : Nat} {v : Value} {fs : List Fv} (h : OwnF w base v n fs) (hb : b' ≤ base) : OwnF w b' v n fs := ⟨⟨h.own.1, h.own.2.imp id fun ⟨g, cap, cur, e, h1, h2⟩ => ⟨g, cap, cur, e, Nat.le_trans hb h1, h2⟩⟩, h.len, h.rows, h.off⟩
theorem run_load_op {P : Program} {op : Oper} {e : Operand → Value} {w : World} (ty : TypeId) (x : Operand) (ho : op.op = .load ty x) (b o : Nat) (hx : e x = .pointer (some ⟨b, o, none⟩)) (cs : List Value) (d : TypeDesc) (hc : w.rangeAt b o cs)
  (hu : P.underlying ty = some d) (hd : d.isRow = true) (hi : (P.info? ty).map (·.size) = some cs.length) : (execOp e op).run P w = .ok (.value (.agg cs.toArray)) w := by
 unfold execOp
 simp only [ho, hx, Instr.loadAt, Instr.sureAddr, Sem.run_bind, Sem.run_pure, Result.andThen_ok, run_loadVar_mid w b o ty cs d hc hu hd hi]
/-- A whole load, guarded: one step of a walk. -/
theorem wpList_load_midG {P : Program} {ops : Array Oper} {rest : List Oper} {op : Oper} {a : Act} {w : World} {Q : Exit → Act → World → Prop} (hw : Region.wanted op (yielded ops a.tmps) = true) (ty : TypeId) (x : Operand) (ho : op.op = .load ty x)
  (b o : Nat) (hx : a.eval x = .pointer (some ⟨b, o, none⟩)) (cs : List Value) (d : TypeDesc) (hc : w.rangeAt b o cs)
  (hu : P.underlying ty = some d) (hd : d.isRow = true) (hi : (P.info? ty).map (·.size) = some cs.length)
  (h : wpList P ops Q rest (a.put op.dst (.agg cs.toArray)) w) : wpList P ops Q (op :: rest) a w := by
 unfold wpList
 rw [if_pos hw]
 exact .inl (wp_load_mid ty x ho b o hx cs d hc hu hd hi h)
theorem PBox.range {w : World} {g : Nat} {p : Pv} (h : PBox w g p) : w.rangeAt g 0 (cells16 p) := fun j v hj => by
 rw [Nat.zero_add]
 unfold PBox at h
 simp only [World.cell?, h]
 simpa [cells16] using hj
theorem PBox.there {w : World} {g : Nat} {p : Pv} (h : PBox w g p) : w.there g 0 16 := fun j hj =>
 ⟨by rw [h.range j _ (List.getElem?_eq_getElem (by simpa [cells16] using hj))]; rfl, (PBox.cell h).2 _⟩
theorem part_into {w : World} {g : Nat} {p0 : Pv} (h : PBox w g p0) (p : Pv) : ∃ U, w.setCells g 0 (cells16 p) = U ∧ PBox U g p ∧ (∀ w0 B, Below B w0 w → B ≤ g → Below B w0 U) ∧ (∀ j, j ≠ g → U.heap[j]? = w.heap[j]?) ∧ U.heap.size ≤ w.heap.size ∧ w.heap.size ≤ U.heap.size := part_to h p
theorem copied {w w' : World} {g lo hi : Nat} {fs : List Fv} (h : ∀ f ∈ fs, PRows w lo hi f.P) (hg : g < lo ∨ hi ≤ g) (hf : ∀ j, j ≠ g → w'.heap[j]? = w.heap[j]?) : ∀ f ∈ fs, PRows w' lo hi f.P := fun f hm => prows_far (h f hm) (offP_of (h f hm) hg) hf
end Ma
end Go.Proofs.Ytbbnbgllgomolaa
namespace Go.Proofs.Ytbbnbgllgomolaa
open Go.RowKit
namespace Ma
open Dp Dy
/-- What is answered by freezing, with a code. -/
def frozenF (k : Int) (fs : List Fv) (z : Int) (p : Pv) : List Fv := if k = 0 then fs ++ [⟨z, p⟩] else []
/-- What is answered by getting. -/
def gotF (k : Int) (fs : List Fv) (z : Int) : Pv := if k = 0 then (match fs[aheadF fs z]? with
 | some f => f.P
 | none => ZPv) else ZPv
/-- What is answered as there before. -/
def beforeF (k : Int) (fs : List Fv) (z : Int) : List Fv := if k = 0 then fs.take (aheadF fs z) else []
/-- An epoch's part, looked for from the left. -/
def ofF : List Fv → Int → Option Pv
 | [], _ => none
 | f :: l, z => if f.e = z then some f.P else ofF l z
theorem twinF_nil : TwinF [] [] := ⟨rfl, fun _ h => absurd h (Nat.not_lt_zero _)⟩
theorem frozenF_no {k : Int} (h : k ≠ 0) (fs : List Fv) (z : Int) (p : Pv) : TwinF (frozenF k fs z p) [] := by
 unfold frozenF
 rw [if_neg h]
 exact twinF_nil
theorem beforeF_no {k : Int} (h : k ≠ 0) (fs : List Fv) (z : Int) : TwinF (beforeF k fs z) [] := by
 unfold beforeF
 rw [if_neg h]
 exact twinF_nil
theorem twinZ : TwinP ZPv ZPv := ⟨four (p := fun x => TwinV (ZPv.M.get x) (ZPv.M.get x)) ⟨rfl, rfl, rfl, rfl, Nat.le_refl _⟩ ⟨rfl, rfl, rfl, rfl, Nat.le_refl _⟩ ⟨rfl, rfl, rfl, rfl, Nat.le_refl _⟩ ⟨rfl, rfl, rfl, rfl, Nat.le_refl _⟩, rfl, rfl, rfl, rfl, rfl⟩
theorem rowsZ (w : World) (lo hi : Nat) : PRows w lo hi ZPv := ⟨⟨Ints.nil_ .., Ints.nil_ .., Ints.nil_ .., Ints.nil_ ..⟩, Ints.nil_ ..⟩
theorem gotF_no {k : Int} (h : k ≠ 0) (fs : List Fv) (z : Int) : TwinP (gotF k fs z) ZPv := by
 unfold gotF
 rw [if_neg h]
 exact twinZ
theorem gotF_yes {fs : List Fv} {z : Int} {i : Nat} (hi : aheadF fs z = i) (h : i < fs.length) {q : Pv} (hq : TwinP fs[i].P q) : TwinP (gotF 0 fs z) q := by
 unfold gotF
 rw [if_pos rfl, hi, List.getElem?_eq_getElem h]
 exact hq
theorem twinF_push {fs gs : List Fv} (h : TwinF fs gs) {z : Int} {p q : Pv} (hq : TwinP p q) : TwinF (fs ++ [⟨z, p⟩]) (gs ++ [⟨z, q⟩]) := by
 have hl := h.1
 refine ⟨by simp [h.1], fun j h1 h2 => ?_⟩
 by_cases e : j < fs.length
 · rw [List.getElem_append_left e, List.getElem_append_left (by omega)]
   exact h.2 j e (by omega)
 · have hj : j = fs.length := by simp at h1; omega
   subst hj
   rw [List.getElem_append_right (by omega), List.getElem_append_right (by omega)]
   simp only [hl, Nat.sub_self, List.getElem_cons_zero]
   first | exact ⟨rfl, hq⟩ | exact ⟨trivial, hq⟩
theorem frozenF_yes {fs gs : List Fv} (h : TwinF fs gs) {z : Int} {p q : Pv} (hq : TwinP p q) : TwinF (frozenF 0 fs z p) (gs ++ [⟨z, q⟩]) := by
 unfold frozenF
 rw [if_pos rfl]
 exact twinF_push h hq
theorem ofF_none : ∀ {fs : List Fv} {a z : Int}, mayF a fs = true → z ≤ a → ofF fs z = none
 | [], _, _, _, _ => rfl
 | f :: l, a, z, hm, hz => by
  simp only [mayF, Bool.and_eq_true, decide_eq_true_eq] at hm
  obtain ⟨⟨h1, _⟩, _, h4⟩ := hm
  unfold ofF
  rw [if_neg (by omega)]
  exact ofF_none h4 (by omega)
/-- Where they rise, what is looked for stands behind those of earlier epochs, or nowhere. -/
theorem ofF_is : ∀ {fs : List Fv} {a z : Int}, mayF a fs = true → ofF fs z = (match fs[aheadF fs z]? with
  | some f => if f.e = z then some f.P else none
  | none => none)
 | [], _, _, _ => rfl
 | f :: l, a, z, hm => by
  have hm' := hm
  simp only [mayF, Bool.and_eq_true, decide_eq_true_eq] at hm
  obtain ⟨_, _, h4⟩ := hm
  by_cases hlt : f.e < z
  · have e : aheadF (f :: l) z = aheadF l z + 1 := by
      show (if f.e < z then aheadF l z + 1 else 0) = _
      rw [if_pos hlt]
    rw [e, List.getElem?_cons_succ]
    show (if f.e = z then some f.P else ofF l z) = _
    rw [if_neg (by omega)]
    exact ofF_is h4
  · have e : aheadF (f :: l) z = 0 := by
      show (if f.e < z then aheadF l z + 1 else 0) = _
      rw [if_neg hlt]
    rw [e, List.getElem?_cons_zero]
    show (if f.e = z then some f.P else ofF l z) = if f.e = z then some f.P else none
    by_cases he : f.e = z
    · rw [if_pos he, if_pos he]
    · rw [if_neg he, if_neg he]
      exact ofF_none h4 (by omega)
theorem filter_take : ∀ {fs : List Fv} {a z : Int}, mayF a fs = true → fs.filter (fun f => decide (f.e < z)) = fs.take (aheadF fs z)
 | [], _, _, _ => rfl
 | f :: l, a, z, hm => by
  have hm' := hm
  simp only [mayF, Bool.and_eq_true, decide_eq_true_eq] at hm
  obtain ⟨_, _, h4⟩ := hm
  by_cases hlt : f.e < z
  · have e : aheadF (f :: l) z = aheadF l z + 1 := by
      show (if f.e < z then aheadF l z + 1 else 0) = _
      rw [if_pos hlt]
    rw [e, List.take_succ_cons, List.filter_cons_of_pos (by simpa using hlt), filter_take h4]
  · have e : aheadF (f :: l) z = 0 := by
      show (if f.e < z then aheadF l z + 1 else 0) = _
      rw [if_neg hlt]
    rw [e, List.take_zero, List.filter_eq_nil_iff.2]
    intro x hx
    obtain ⟨j, hj, rfl⟩ := List.mem_iff_getElem.1 hx
    have := aheadF_ge hm' (z := z) j hj (by rw [e]; exact Nat.zero_le _)
    simp
    omega
/-- A code of getting, by the looking from the left. -/
theorem getF_of {n : Nat} {fs : List Fv} {z : Int} (h : askF n fs z = 0) : getF n fs z = (if (ofF fs z).isSome then 0 else 6) ∧ gotF (getF n fs z) fs z = (ofF fs z).getD ZPv := by
 have hm := (askF_zero h).2.1
 rw [ofF_is hm]
 unfold getF gotF
 rw [if_neg (by rw [h]; simp)]
 cases hx : fs[aheadF fs z]? with
 | none => simp
 | some f =>
  by_cases he : f.e = z
  · simp [he]
  · simp [he]
theorem ahead_last {n : Nat} {fs : List Fv} {a z : Int} (hm : mayF a fs = true) (hn : fs.length = n) : aheadF fs z < n ↔ 0 < n ∧ ∀ h : n - 1 < fs.length, z ≤ fs[n - 1].e := by
 have hl := aheadF_le fs z
 constructor
 · intro h
   exact ⟨by omega, fun hh => aheadF_ge hm (n - 1) hh (by omega)⟩
 · rintro ⟨h0, h⟩
   have hh : n - 1 < fs.length := by omega
   have h1 := h hh
   rcases Nat.lt_or_ge (aheadF fs z) n with h2 | h2
   · exact h2
   · have := aheadF_lt (z := z) (n - 1) hh (by omega)
     omega
theorem LFs.take {w : World} {lo hi : Nat} {A : Option Addr} {n : Nat} {fs : List Fv} (h : LFs w lo hi A n fs) {i : Nat} (hi' : i ≤ n) : LFs w lo hi A i (fs.take i) := by
 have hl := h.len
 have hb := h.big
 refine ⟨by simp; omega, by omega, fun h0 => ?_, fun j hj => ?_⟩
 · obtain ⟨b, off, e, h1, h2, hc⟩ := h.row (by omega)
   exact ⟨b, off, e, h1, h2, fun j hj => by
    rw [List.getElem_take]
    exact hc j (by simp at hj; omega)⟩
 · rw [List.getElem_take]
   exact h.rows j (by simp at hj; omega)
theorem small_take {fs : List Fv} (hs : ∀ j (h : j < fs.length), (∀ x, x < 4 → (fs[j].P.M.get x).n ≤ 1000000) ∧ fs[j].P.n ≤ 1000000) (i : Nat) : ∀ j (h : j < (fs.take i).length), (∀ x, x < 4 → ((fs.take i)[j].P.M.get x).n ≤ 1000000) ∧ (fs.take i)[j].P.n ≤ 1000000 := fun j hj => by
 rw [List.getElem_take]
 exact hs j (by simp at hj; omega)
theorem FCells.part {w : World} {b o : Nat} {f : Fv} (h : FCells w b o f) : w.rangeAt b (o + 1) (cells16 f.P) := fun j v hj => by
 have k := h.range (j + 1) v hj
 rw [show o + 1 + j = o + (j + 1) by omega]
 exact k
/-- Twins, told apart by nothing. -/
theorem twinP_codes {p q : Pv} (h : TwinP p q) : mayP q = mayP p := by
 unfold mayP
 rw [twin_bad h.1, h.2.1, h.2.2.1, h.2.2.2.1, h.2.2.2.2.2]
theorem mayF_twin : ∀ {fs gs : List Fv} {a : Int}, TwinF fs gs → mayF a gs = mayF a fs
 | [], [], _, _ => rfl
 | [], _ :: _, _, h => absurd h.1 (by simp)
 | _ :: _, [], _, h => absurd h.1 (by simp)
 | f :: fs, g :: gs, a, h => by
  have ht : TwinF fs gs := ⟨by have := h.1; simpa using this, fun j h1 h2 => by
   have := h.2 (j + 1) (by simpa using h1) (by simpa using h2)
   simpa using this⟩
  have h0 := h.2 0 (by simp) (by simp)
  simp only [List.getElem_cons_zero] at h0
  simp only [mayF]
  rw [h0.1, twinP_codes h0.2, mayF_twin ht]
theorem aheadF_twin : ∀ {fs gs : List Fv} {z : Int}, TwinF fs gs → aheadF gs z = aheadF fs z
 | [], [], _, _ => rfl
 | [], _ :: _, _, h => absurd h.1 (by simp)
 | _ :: _, [], _, h => absurd h.1 (by simp)
 | f :: fs, g :: gs, z, h => by
  have ht : TwinF fs gs := ⟨by have := h.1; simpa using this, fun j h1 h2 => by
   have := h.2 (j + 1) (by simpa using h1) (by simpa using h2)
   simpa using this⟩
  have h0 := h.2 0 (by simp) (by simp)
  simp only [List.getElem_cons_zero] at h0
  simp only [aheadF]
  rw [h0.1, aheadF_twin ht]
theorem checkF_twin {n : Nat} {fs gs : List Fv} (h : TwinF fs gs) : checkF n gs = checkF n fs := by
 unfold checkF
 rw [mayF_twin h]
theorem askF_twin {n : Nat} {fs gs : List Fv} {z : Int} (h : TwinF fs gs) : askF n gs z = askF n fs z := by
 unfold askF
 rw [checkF_twin h]
theorem freezeF_twin {n : Nat} {fs gs : List Fv} {z : Int} {p q : Pv} (h : TwinF fs gs) (hq : TwinP p q) : freezeF n gs z q = freezeF n fs z p := by
 unfold freezeF
 rw [askF_twin h, twinP_codes hq, aheadF_twin h]
theorem getF_twin {n : Nat} {fs gs : List Fv} {z : Int} (h : TwinF fs gs) : getF n gs z = getF n fs z := by
 unfold getF
 rw [askF_twin h, aheadF_twin h]
 by_cases hl : aheadF fs z < fs.length
 · have hg : aheadF fs z < gs.length := by rw [h.1]; exact hl
   rw [List.getElem?_eq_getElem hl, List.getElem?_eq_getElem hg]
   simp only
   rw [(h.2 _ hl hg).1]
 · have hl' := h.1
   rw [List.getElem?_eq_none (show gs.length ≤ aheadF fs z by omega), List.getElem?_eq_none (show fs.length ≤ aheadF fs z by omega)]
theorem twinF_take {fs gs : List Fv} (h : TwinF fs gs) (i : Nat) : TwinF (fs.take i) (gs.take i) := by
 have hl := h.1
 refine ⟨by simp [h.1], fun j h1 h2 => ?_⟩
 simp at h1 h2
 rw [List.getElem_take, List.getElem_take]
 exact h.2 j (by omega) (by omega)
theorem frozenF_twin {k z : Int} {fs gs : List Fv} {p q : Pv} (h : TwinF fs gs) (hq : TwinP p q) : TwinF (frozenF k fs z p) (frozenF k gs z q) := by
 unfold frozenF
 split
 · exact twinF_push h hq
 · exact twinF_nil
theorem beforeF_twin {k z : Int} {fs gs : List Fv} (h : TwinF fs gs) : TwinF (beforeF k fs z) (beforeF k gs z) := by
 unfold beforeF
 rw [aheadF_twin h]
 split
 · exact twinF_take h _
 · exact twinF_nil
theorem gotF_twin {k z : Int} {fs gs : List Fv} (h : TwinF fs gs) : TwinP (gotF k fs z) (gotF k gs z) := by
 unfold gotF
 rw [aheadF_twin h]
 split
 · by_cases hl : aheadF fs z < fs.length
   · have hg : aheadF fs z < gs.length := by rw [h.1]; exact hl
     rw [List.getElem?_eq_getElem hl, List.getElem?_eq_getElem hg]
     exact (h.2 _ hl hg).2
   · rw [List.getElem?_eq_none (by omega), List.getElem?_eq_none (by rw [h.1]; omega)]
     exact twinZ
 · exact twinZ
theorem twinP_rsame {p q : Pv} (h : TwinP p q) : sameP p q = true := by
 have k : ∀ x, x < 4 → sameV (p.M.get x) (q.M.get x) = true := fun x hx => by
  unfold sameV
  rw [(h.1 x hx).1, (h.1 x hx).2.2.1, (h.1 x hx).2.2.2.1]
  exact Pa.Dy.same_refl _
 have k0 := k 0 (by decide)
 have k1 := k 1 (by decide)
 have k2 := k 2 (by decide)
 have k3 := k 3 (by decide)
 simp only [Mv.get] at k0 k1 k2 k3
 unfold sameP sameE sameM
 rw [k0, k1, k2, k3, h.2.1, h.2.2.1, h.2.2.2.1, h.2.2.2.2.2, Pa.Sm_refl]
 simp
/-- Two copies of the same are the same. -/
theorem sameP_two {p q r : Pv} (h : TwinP p q) (k : TwinP p r) : sameP q r = true := by
 rw [twinP_left h]
 exact twinP_rsame k
theorem sameF_two {fs gs hs : List Fv} (h : TwinF fs gs) (k : TwinF fs hs) : sameF gs hs = true := by
 refine sameF_yes (h.1.trans k.1.symm) fun j h1 h2 => ?_
 have h3 : j < fs.length := by rw [← h.1]; exact h1
 have a := h.2 j h3 h1
 have b := k.2 j h3 h2
 exact ⟨a.1.trans b.1.symm, sameP_two a.2 b.2⟩
end Ma
end Go.Proofs.Ytbbnbgllgomolaa
namespace Go.Proofs.Ytbbnbgllgomolaa
open Go.RowKit
namespace Least
theorem ret_int {k : IntKind} {a b : Int} (h : a = b) : Ending.returned (.int k a) = .returned (.int k b) := by rw [h]
theorem ret_bool {a b : Bool} (h : a = b) : Ending.returned (.bool a) = .returned (.bool b) := by rw [h]
theorem below_get {xs : List Int} {A : Option Addr} {n : Nat} {w : World} {lo hi : Nat} (h : Ints w lo hi .u32 A n xs) (hn : 0 < n) :
  ∃ b off, A = some ⟨b, off, none⟩ ∧ ∀ j, j < n → w.cell? ⟨b, off + j, none⟩ = some (.int .u32 (xs[j]?.getD 0)) := by
 obtain ⟨b, off, e, _, _, hc⟩ := h.row hn
 exact ⟨b, off, e, fun j hj => (hc j hj).1⟩
set_option maxHeartbeats 400000 in
/-- least.Check. -/
theorem Check_any (w : World) (lo hi : Nat) (A : Option Addr) (n c : Nat) (xs : List Int) (h : Ints w lo hi .u32 A n xs) (code : Int) (hcode : checkCode xs = code) :
  Calls Try.prog 70 #[.slice A n c] w fun e w' => e = .returned (.int .i64 code) ∧ ∃ m, w' = w.drewN m := by
 have hlen := h.len
 have Hl := Lib.hid h.len
 have hbig := h.big
 have Hc := Lib.hid hcode
 clear hcode
 by_cases h8 : 8 < n
 · have hf : code = 4 := by rw [← Hc.out]; unfold checkCode; rw [if_pos (by omega)]
   have Hf := Lib.hid hf
   clear hf hlen
   go_enter Try.func70, Try.ntmps70
   go_wp2
   go_ret
   exact ⟨ret_int (by rw [Hf.out]), 0, rfl⟩
 · clear hlen
   go_enter Try.func70, Try.ntmps70
   go_wp2
   go_loopw [3] (fun i wr => ∃ k : Nat, 1 ≤ k ∧ i = .int .i64 k ∧ (k ≤ n ∨ k = 1) ∧ Hid (risesTo xs k = true) ∧ ∃ m, wr = w.drewN m) (fun i _ => n - (intOf i).toNat)
   case atStart => exact ⟨1, by omega, rfl, by omega, (by simp [Hid, risesTo]), 0, rfl⟩
   case round =>
    obtain ⟨k, hk, rfl, hk1, hr, m, rfl⟩ := hrel
    by_cases hlt : k < n
    · obtain ⟨b, off, rfl, hcell⟩ := below_get h (by omega)
      have g1 : w.cell? ⟨b, off + k, none⟩ = some (.int .u32 (xs[k]?.getD 0)) := hcell _ (by omega)
      have g2 : w.cell? ⟨b, off + (k - 1), none⟩ = some (.int .u32 (xs[k-1]?.getD 0)) := hcell _ (by omega)
      clear hcell
      go_wp2
      go_quiet (fail)
      go_wp2
      · have hle : xs[k]?.getD 0 ≤ xs[k - 1]?.getD 0 := by assumption
        have hf : code = 8 := by
         have hl := Hl.out
         rw [← Hc.out]; unfold checkCode rises
         rw [if_neg (by omega), risesTo_false (k := k + 1) (by simp [risesTo]; omega) (by omega)]
         rfl
        go_ret
        exact ⟨ret_int (by rw [hf]), m + nq, by simp⟩
      · have hgt : xs[k - 1]?.getD 0 < xs[k]?.getD 0 := by assumption
        go_roundw
        case rel => exact ⟨k + 1, by omega, by go_num, by omega, (by have := hr.out; simp [Hid, risesTo, this, hgt]), m + nq, by simp⟩
        case measure => simp [intOf]; omega
    · have hf : code = 0 := by
        have hl := Hl.out
        have hr := hr.out
        rw [← Hc.out]; unfold checkCode rises
        rw [if_neg (by omega)]
        rcases hk1 with hk1 | hk1
        · rw [show xs.length = k by omega, hr]; rfl
        · subst hk1
          have : xs.length = 0 ∨ xs.length = 1 := by omega
          rcases this with e | e <;> simp [e, risesTo]
      have Hf := Lib.hid hf
      clear hf
      go_wp2
      go_ret
      exact ⟨ret_int (by rw [Hf.out]), m, rfl⟩
set_option maxHeartbeats 400000 in
/-- headcountref10.MayLeast. -/
theorem MayLeast_any (w : World) (lo hi : Nat) (A : Option Addr) (n c : Nat) (xs : List Int) (h : Ints w lo hi .u32 A n xs) (r : Bool) (hcode : decide (checkCode xs = 0) = r) :
  Calls Try.prog 99 #[.slice A n c] w fun e w' => e = .returned (.bool r) ∧ ∃ m, w' = w.drewN m := by
 have Hl := Lib.hid h.len
 have hbig := h.big
 have Hc := Lib.hid hcode
 clear hcode
 go_enter Try.func99, Try.ntmps99
 go_wp2
 go_loopw [3] (fun i wr => ∃ k : Nat, 1 ≤ k ∧ i = .int .i64 k ∧ (k ≤ n ∨ k = 1) ∧ Hid (risesTo xs k = true) ∧ ∃ m, wr = w.drewN m) (fun i _ => n - (intOf i).toNat)
 case atStart => exact ⟨1, by omega, rfl, by omega, (by simp [Hid, risesTo]), 0, rfl⟩
 case round =>
  obtain ⟨k, hk, rfl, hk1, hr, m, rfl⟩ := hrel
  by_cases hlt : k < n
  · obtain ⟨b, off, rfl, hcell⟩ := below_get h (by omega)
    have g1 : w.cell? ⟨b, off + k, none⟩ = some (.int .u32 (xs[k]?.getD 0)) := hcell _ (by omega)
    have g2 : w.cell? ⟨b, off + (k - 1), none⟩ = some (.int .u32 (xs[k-1]?.getD 0)) := hcell _ (by omega)
    clear hcell
    go_wp2
    go_quiet (fail)
    go_wp2
    · have hle : xs[k]?.getD 0 ≤ xs[k - 1]?.getD 0 := by assumption
      have hf : r = false := by
       have hl := Hl.out
       rw [← Hc.out]; unfold checkCode rises
       rw [risesTo_false (k := k + 1) (n := xs.length) (by simp [risesTo]; omega) (by omega)]
       split <;> simp
      go_ret
      exact ⟨ret_bool (by rw [hf]), m + nq, by simp⟩
    · have hgt : xs[k - 1]?.getD 0 < xs[k]?.getD 0 := by assumption
      go_roundw
      case rel => exact ⟨k + 1, by omega, by go_num, by omega, (by have := hr.out; simp [Hid, risesTo, this, hgt]), m + nq, by simp⟩
      case measure => simp [intOf]; omega
  · have hf : r = decide (n ≤ 8) := by
      have hl := Hl.out
      have hr := hr.out
      have h2 : rises xs = true := by
       unfold rises
       rcases hk1 with hk1 | hk1
       · rw [show xs.length = k by omega, hr]
       · subst hk1
         have : xs.length = 0 ∨ xs.length = 1 := by omega
         rcases this with e | e <;> simp [e, risesTo]
      rw [← Hc.out]; unfold checkCode
      rw [h2, hl]
      by_cases h9 : 8 < n
      · simp [h9]
      · simp [h9]; omega
    have Hf := Lib.hid hf
    clear hf
    go_wp2
    go_ret
    refine ⟨ret_bool ?_, m, rfl⟩
    rw [Hf.out]
    simp; omega
end Least
end Go.Proofs.Ytbbnbgllgomolaa
namespace Go.Proofs.Ytbbnbgllgomolaa
open Go.RowKit
namespace Ma
open Dp Dy
theorem mayE_true (mn mx : Int) : mayE true mn mx = decide (-2147483647 ≤ mn ∧ mn ≤ 2147483647 ∧ -2147483647 ≤ mx ∧ mx ≤ 2147483647 ∧ mn ≤ mx) := rfl
theorem mayE_false (mn mx : Int) : mayE false mn mx = decide (mn = 0 ∧ mx = 0) := rfl
set_option maxHeartbeats 1600000 in
/-- edge.value. -/
theorem value_any (w : World) (x : Int) (b : Bool) (hb : decide (-2147483647 ≤ x ∧ x ≤ 2147483647) = b) :
  Calls Try.prog 100 #[.int .i64 x] w fun e w' => e = .returned (.bool b) ∧ Below w.heap.size w w' := by
 by_cases h1 : (-2147483647 : Int) ≤ x
 · by_cases h2 : x ≤ 2147483647
   · have hb' : b = true := by rw [← hb]; exact decide_eq_true ⟨h1, h2⟩
     subst hb'
     clear hb
     go_enter Try.func100, Try.ntmps100
     go_wp2
     go_ret
     exact ⟨rfl, Below.refl _ _⟩
   · have hb' : b = false := by rw [← hb]; exact decide_eq_false fun h => h2 h.2
     subst hb'
     have d2 : decide (x ≤ 2147483647) = false := decide_eq_false h2
     clear hb
     go_enter Try.func100, Try.ntmps100
     go_wp2
     go_ret
     exact ⟨rfl, Below.refl _ _⟩
 · have hb' : b = false := by rw [← hb]; exact decide_eq_false fun h => h1 h.1
   subst hb'
   have d1 : decide ((-2147483647 : Int) ≤ x) = false := decide_eq_false h1
   clear hb
   go_enter Try.func100, Try.ntmps100
   go_wp2
   go_ret
   exact ⟨rfl, Below.refl _ _⟩
set_option maxHeartbeats 1600000 in
/-- headcountref17.Value. -/
theorem rvalue_any (w : World) (x : Int) (b : Bool) (hb : decide (-2147483647 ≤ x ∧ x ≤ 2147483647) = b) :
  Calls Try.prog 126 #[.int .i64 x] w fun e w' => e = .returned (.bool b) ∧ Below w.heap.size w w' := by
 by_cases h1 : (-2147483647 : Int) ≤ x
 · by_cases h2 : x ≤ 2147483647
   · have hb' : b = true := by rw [← hb]; exact decide_eq_true ⟨h1, h2⟩
     subst hb'
     clear hb
     go_enter Try.func126, Try.ntmps126
     go_wp2
     go_ret
     exact ⟨rfl, Below.refl _ _⟩
   · have hb' : b = false := by rw [← hb]; exact decide_eq_false fun h => h2 h.2
     subst hb'
     have d2 : decide (x ≤ 2147483647) = false := decide_eq_false h2
     clear hb
     go_enter Try.func126, Try.ntmps126
     go_wp2
     go_ret
     exact ⟨rfl, Below.refl _ _⟩
 · have hb' : b = false := by rw [← hb]; exact decide_eq_false fun h => h1 h.1
   subst hb'
   have d1 : decide ((-2147483647 : Int) ≤ x) = false := decide_eq_false h1
   clear hb
   go_enter Try.func126, Try.ntmps126
   go_wp2
   go_ret
   exact ⟨rfl, Below.refl _ _⟩
set_option maxHeartbeats 3200000 in
set_option maxRecDepth 100000 in
/-- edge.Check. -/
theorem edgeCheck_any (w : World) (h : Bool) (mn mx : Int) (k : Bool) (hk : mayE h mn mx = k) :
  Calls Try.prog 69 #[.agg #[.bool h, .int .i64 mn, .int .i64 mx]] w fun e w' => e = .returned (.int .i64 (if k then 0 else 8)) ∧ Below w.heap.size w w' := by
 have fin := (Below.refl w.heap.size w).alloc (Nat.le_refl _) (.cells #[.bool h, .int .i64 mn, .int .i64 mx] 29)
 have B1 := heap_alloc_last w (.cells #[.bool h, .int .i64 mn, .int .i64 mx] 29)
 have S1 : w.heap.size < (w.alloc (.cells #[.bool h, .int .i64 mn, .int .i64 mx] 29)).heap.size := by simp
 generalize hw : w.alloc (.cells #[.bool h, .int .i64 mn, .int .i64 mx] 29) = w1 at *
 obtain ⟨⟨p1, p2, p3⟩, p4, p5, p6⟩ := boxD B1
 have HK := Lib.hid hk
 clear hk
 cases h
 · by_cases e1 : mn = 0
   · subst e1
     by_cases e2 : mx = 0
     · subst e2
       have hk' : k = true := by rw [← HK.out, mayE_false]; rfl
       subst hk'
       clear HK
       go_enter Try.func69, Try.ntmps69
       go_wp2
       go_ret
       exact ⟨rfl, fin⟩
     · have hk' : k = false := by rw [← HK.out, mayE_false]; exact decide_eq_false fun h => e2 h.2
       subst hk'
       have n2 : (mx == 0) = false := by simpa using e2
       have n3 : (0 == mx) = false := by simpa using Ne.symm e2
       clear HK
       go_enter Try.func69, Try.ntmps69
       go_wp2
       go_ret
       exact ⟨rfl, fin⟩
   · have hk' : k = false := by rw [← HK.out, mayE_false]; exact decide_eq_false fun h => e1 h.1
     subst hk'
     have n2 : (mn == 0) = false := by simpa using e1
     have n3 : (0 == mn) = false := by simpa using Ne.symm e1
     clear HK
     go_enter Try.func69, Try.ntmps69
     go_wp2
     go_ret
     exact ⟨rfl, fin⟩
 · obtain ⟨b1, hb1⟩ : ∃ b, decide (-2147483647 ≤ mn ∧ mn ≤ 2147483647) = b := ⟨_, rfl⟩
   obtain ⟨b2, hb2⟩ : ∃ b, decide (-2147483647 ≤ mx ∧ mx ≤ 2147483647) = b := ⟨_, rfl⟩
   have HB1 := Lib.hid hb1
   have HB2 := Lib.hid hb2
   clear hb1 hb2
   go_enter Try.func69, Try.ntmps69
   go_wp2_with fail
   refine (value_any w1 mn b1 HB1.out).mono ?_
   rintro e v1 ⟨rfl, j1⟩
   clear p1 p2 p3 p4 p5 p6
   have B2 := (j1.block _ S1).trans B1
   have fin1 := fin.trans (j1.mono (by omega))
   have S2 := j1.size
   obtain ⟨⟨p1, p2, p3⟩, p4, p5, p6⟩ := boxD B2
   cases b1
   · have hk' : k = false := by rw [← HK.out, mayE_true]; exact decide_eq_false fun h => of_decide_eq_false HB1.out ⟨h.1, h.2.1⟩
     subst hk'
     clear HK HB1 HB2
     go_wp2
     go_ret
     exact ⟨rfl, fin1⟩
   · go_wp2_with fail
     refine (value_any v1 mx b2 HB2.out).mono ?_
     rintro e v2 ⟨rfl, j2⟩
     clear p1 p2 p3 p4 p5 p6
     have B3 := (j2.block _ (by omega)).trans B2
     have fin2 := fin1.trans (j2.mono (by omega))
     obtain ⟨⟨p1, p2, p3⟩, p4, p5, p6⟩ := boxD B3
     cases b2
     · have hk' : k = false := by rw [← HK.out, mayE_true]; exact decide_eq_false fun h => of_decide_eq_false HB2.out ⟨h.2.2.1, h.2.2.2.1⟩
       subst hk'
       clear HK HB1 HB2
       go_wp2
       go_ret
       exact ⟨rfl, fin2⟩
     · by_cases hlt : mn ≤ mx
       · have hk' : k = true := by
           rw [← HK.out, mayE_true]
           have a1 := of_decide_eq_true HB1.out
           have a2 := of_decide_eq_true HB2.out
           exact decide_eq_true ⟨a1.1, a1.2, a2.1, a2.2, hlt⟩
         subst hk'
         have d1 : decide (mx < mn) = false := decide_eq_false (by omega)
         have d2 : decide (mn ≤ mx) = true := decide_eq_true hlt
         clear HK HB1 HB2
         go_wp2
         go_ret
         exact ⟨rfl, fin2⟩
       · have hk' : k = false := by rw [← HK.out, mayE_true]; exact decide_eq_false fun h => hlt h.2.2.2.2
         subst hk'
         have d1 : decide (mx < mn) = true := decide_eq_true (by omega)
         have d2 : decide (mn ≤ mx) = false := decide_eq_false hlt
         clear HK HB1 HB2
         go_wp2
         go_ret
         exact ⟨rfl, fin2⟩
set_option maxHeartbeats 3200000 in
set_option maxRecDepth 100000 in
/-- headcountref17.May. -/
theorem edgeMay_any (w : World) (h : Bool) (mn mx : Int) (k : Bool) (hk : mayE h mn mx = k) :
  Calls Try.prog 98 #[.agg #[.bool h, .int .i64 mn, .int .i64 mx]] w fun e w' => e = .returned (.bool k) ∧ Below w.heap.size w w' := by
 have fin := (Below.refl w.heap.size w).alloc (Nat.le_refl _) (.cells #[.bool h, .int .i64 mn, .int .i64 mx] 29)
 have B1 := heap_alloc_last w (.cells #[.bool h, .int .i64 mn, .int .i64 mx] 29)
 have S1 : w.heap.size < (w.alloc (.cells #[.bool h, .int .i64 mn, .int .i64 mx] 29)).heap.size := by simp
 generalize hw : w.alloc (.cells #[.bool h, .int .i64 mn, .int .i64 mx] 29) = w1 at *
 obtain ⟨⟨p1, p2, p3⟩, p4, p5, p6⟩ := boxD B1
 have HK := Lib.hid hk
 clear hk
 cases h
 · by_cases e1 : mn = 0
   · subst e1
     by_cases e2 : mx = 0
     · subst e2
       have hk' : k = true := by rw [← HK.out, mayE_false]; rfl
       subst hk'
       clear HK
       go_enter Try.func98, Try.ntmps98
       go_wp2
       go_ret
       exact ⟨rfl, fin⟩
     · have hk' : k = false := by rw [← HK.out, mayE_false]; exact decide_eq_false fun h => e2 h.2
       subst hk'
       have n2 : (mx == 0) = false := by simpa using e2
       have n3 : (0 == mx) = false := by simpa using Ne.symm e2
       clear HK
       go_enter Try.func98, Try.ntmps98
       go_wp2
       go_ret
       exact ⟨rfl, fin⟩
   · have hk' : k = false := by rw [← HK.out, mayE_false]; exact decide_eq_false fun h => e1 h.1
     subst hk'
     have n2 : (mn == 0) = false := by simpa using e1
     have n3 : (0 == mn) = false := by simpa using Ne.symm e1
     clear HK
     go_enter Try.func98, Try.ntmps98
     go_wp2
     go_ret
     exact ⟨rfl, fin⟩
 · obtain ⟨b1, hb1⟩ : ∃ b, decide (-2147483647 ≤ mn ∧ mn ≤ 2147483647) = b := ⟨_, rfl⟩
   obtain ⟨b2, hb2⟩ : ∃ b, decide (-2147483647 ≤ mx ∧ mx ≤ 2147483647) = b := ⟨_, rfl⟩
   have HB1 := Lib.hid hb1
   have HB2 := Lib.hid hb2
   clear hb1 hb2
   go_enter Try.func98, Try.ntmps98
   go_wp2_with fail
   refine (rvalue_any w1 mn b1 HB1.out).mono ?_
   rintro e v1 ⟨rfl, j1⟩
   clear p1 p2 p3 p4 p5 p6
   have B2 := (j1.block _ S1).trans B1
   have fin1 := fin.trans (j1.mono (by omega))
   have S2 := j1.size
   obtain ⟨⟨p1, p2, p3⟩, p4, p5, p6⟩ := boxD B2
   cases b1
   · have hk' : k = false := by rw [← HK.out, mayE_true]; exact decide_eq_false fun h => of_decide_eq_false HB1.out ⟨h.1, h.2.1⟩
     subst hk'
     clear HK HB1 HB2
     go_wp2
     go_ret
     exact ⟨rfl, fin1⟩
   · go_wp2_with fail
     refine (rvalue_any v1 mx b2 HB2.out).mono ?_
     rintro e v2 ⟨rfl, j2⟩
     clear p1 p2 p3 p4 p5 p6
     have B3 := (j2.block _ (by omega)).trans B2
     have fin2 := fin1.trans (j2.mono (by omega))
     obtain ⟨⟨p1, p2, p3⟩, p4, p5, p6⟩ := boxD B3
     cases b2
     · have hk' : k = false := by rw [← HK.out, mayE_true]; exact decide_eq_false fun h => of_decide_eq_false HB2.out ⟨h.2.2.1, h.2.2.2.1⟩
       subst hk'
       clear HK HB1 HB2
       go_wp2
       go_ret
       exact ⟨rfl, fin2⟩
     · by_cases hlt : mn ≤ mx
       · have hk' : k = true := by
           rw [← HK.out, mayE_true]
           have a1 := of_decide_eq_true HB1.out
           have a2 := of_decide_eq_true HB2.out
           exact decide_eq_true ⟨a1.1, a1.2, a2.1, a2.2, hlt⟩
         subst hk'
         have d1 : decide (mx < mn) = false := decide_eq_false (by omega)
         have d2 : decide (mn ≤ mx) = true := decide_eq_true hlt
         clear HK HB1 HB2
         go_wp2
         go_ret
         exact ⟨rfl, fin2⟩
       · have hk' : k = false := by rw [← HK.out, mayE_true]; exact decide_eq_false fun h => hlt h.2.2.2.2
         subst hk'
         have d1 : decide (mx < mn) = true := decide_eq_true (by omega)
         have d2 : decide (mn ≤ mx) = false := decide_eq_false hlt
         clear HK HB1 HB2
         go_wp2
         go_ret
         exact ⟨rfl, fin2⟩
set_option maxHeartbeats 6400000 in
set_option maxRecDepth 100000 in
/-- past.CheckPart. -/
theorem CheckPart_any (w : World) (p : Pv) (hR : PRows w 0 w.heap.size p) (k : Bool) (hk : mayP p = k) :
  Calls Try.prog 32 #[.agg #[.bool p.M.S.s, .slice p.M.S.A p.M.S.n p.M.S.c, .int .i64 p.M.S.e, .bool p.M.W.s, .slice p.M.W.A p.M.W.n p.M.W.c, .int .i64 p.M.W.e, .bool p.M.C.s, .slice p.M.C.A p.M.C.n p.M.C.c, .int .i64 p.M.C.e, .bool p.M.A.s, .slice p.M.A.A p.M.A.n p.M.A.c, .int .i64 p.M.A.e, .bool p.h, .int .i64 p.mn, .int .i64 p.mx, .slice p.A p.n p.c]] w fun e w' => e = .returned (.int .i64 (if k then 0 else 8)) ∧ Below w.heap.size w w' := by
 obtain ⟨w1, hw, bP, j1, S1⟩ := alloc_p w p
 obtain ⟨q, hq⟩ : ∃ q, badS [p.M] = q := ⟨_, rfl⟩
 obtain ⟨r, hr⟩ : ∃ q, mayE p.h p.mn p.mx = q := ⟨_, rfl⟩
 have HQ := Lib.hid hq
 have HR := Lib.hid hr
 have HK := Lib.hid hk
 clear hq hr hk
 go_enter Try.func32, Try.ntmps32
 obtain ⟨⟨q1_0, q1_1, q1_2, q1_3, q1_4, q1_5, q1_6, q1_7, q1_8, q1_9, q1_10, q1_11, q1_12, q1_13, q1_14, q1_15⟩, q1f⟩ := PBox.cell bP
 go_wp2_with fail
 refine (PCheck_any w1 p.M (PRows.on hR j1).M q HQ.out).mono ?_
 rintro e' v2 ⟨rfl, j3⟩
 clear q1_0 q1_1 q1_2 q1_3 q1_4 q1_5 q1_6 q1_7 q1_8 q1_9 q1_10 q1_11 q1_12 q1_13 q1_14 q1_15 q1f
 try clear hw
 obtain ⟨⟨q4_0, q4_1, q4_2, q4_3, q4_4, q4_5, q4_6, q4_7, q4_8, q4_9, q4_10, q4_11, q4_12, q4_13, q4_14, q4_15⟩, q4f⟩ := PBox.cell (box_later bP j3 S1)
 cases q
 rotate_left
 · skip
   have hk' : k = false := by rw [← HK.out, mayP, HQ.out]; rfl
   subst hk'
   clear HK HQ HR
   go_wp2
   go_ret
   exact ⟨rfl, (later j1 j3)⟩
 · skip
   go_wp2_with fail
   refine (edgeCheck_any v2 p.h p.mn p.mx r HR.out).mono ?_
   rintro e' v5 ⟨rfl, j6⟩
   clear q4_0 q4_1 q4_2 q4_3 q4_4 q4_5 q4_6 q4_7 q4_8 q4_9 q4_10 q4_11 q4_12 q4_13 q4_14 q4_15 q4f
   try clear hw
   obtain ⟨⟨q7_0, q7_1, q7_2, q7_3, q7_4, q7_5, q7_6, q7_7, q7_8, q7_9, q7_10, q7_11, q7_12, q7_13, q7_14, q7_15⟩, q7f⟩ := PBox.cell (box_later bP (later j3 j6) S1)
   cases r
   · skip
     have hk' : k = false := by rw [← HK.out, mayP, HQ.out, HR.out]; rfl
     subst hk'
     clear HK HQ HR
     go_wp2
     go_ret
     exact ⟨rfl, (later j1 (later j3 j6))⟩
   · skip
     obtain ⟨cd, hcd⟩ : ∃ c, Least.checkCode p.xs = c := ⟨_, rfl⟩
     have HC := Lib.hid hcd
     clear hcd
     go_wp2_with fail
     refine (Least.Check_any v5 0 v5.heap.size p.A p.n p.c p.xs (PRows.on hR (later j1 (later j3 j6))).L cd HC.out).mono ?_
     rintro e' v_ ⟨rfl, m_, rfl⟩
     have jd : Below w.heap.size w (v5.drewN m_) := below_drewN (later j1 (later j3 j6)) m_
     by_cases h0 : cd = 0
     · subst h0
       have hk' : k = true := by rw [← HK.out, mayP, HQ.out, HR.out, HC.out]; rfl
       subst hk'
       clear HK HQ HR HC
       go_wp2
       go_ret
       exact ⟨rfl, jd⟩
     · have hk' : k = false := by rw [← HK.out, mayP, HQ.out, HR.out, HC.out, decide_eq_false h0]; rfl
       subst hk'
       have n0 : (cd != 0) = true := by simpa using h0
       clear HK HQ HR HC
       go_wp2
       go_ret
       exact ⟨rfl, jd⟩
set_option maxHeartbeats 6400000 in
set_option maxRecDepth 100000 in
/-- headcountref20.MayPart. -/
theorem MayPart_any (w : World) (p : Pv) (hR : PRows w 0 w.heap.size p) (k : Bool) (hk : mayP p = k) :
  Calls Try.prog 65 #[.agg #[.bool p.M.S.s, .slice p.M.S.A p.M.S.n p.M.S.c, .int .i64 p.M.S.e, .bool p.M.W.s, .slice p.M.W.A p.M.W.n p.M.W.c, .int .i64 p.M.W.e, .bool p.M.C.s, .slice p.M.C.A p.M.C.n p.M.C.c, .int .i64 p.M.C.e, .bool p.M.A.s, .slice p.M.A.A p.M.A.n p.M.A.c, .int .i64 p.M.A.e, .bool p.h, .int .i64 p.mn, .int .i64 p.mx, .slice p.A p.n p.c]] w fun e w' => e = .returned (.bool k) ∧ Below w.heap.size w w' := by
 obtain ⟨w1, hw, bP, j1, S1⟩ := alloc_p w p
 obtain ⟨q, hq⟩ : ∃ q, badS [p.M] = q := ⟨_, rfl⟩
 obtain ⟨r, hr⟩ : ∃ q, mayE p.h p.mn p.mx = q := ⟨_, rfl⟩
 have HQ := Lib.hid hq
 have HR := Lib.hid hr
 have HK := Lib.hid hk
 clear hq hr hk
 go_enter Try.func65, Try.ntmps65
 obtain ⟨⟨q8_0, q8_1, q8_2, q8_3, q8_4, q8_5, q8_6, q8_7, q8_8, q8_9, q8_10, q8_11, q8_12, q8_13, q8_14, q8_15⟩, q8f⟩ := PBox.cell bP
 go_wp2_with fail
 refine (RMayS_any w1 p.M (PRows.on hR j1).M q HQ.out).mono ?_
 rintro e' v9 ⟨rfl, j10⟩
 clear q8_0 q8_1 q8_2 q8_3 q8_4 q8_5 q8_6 q8_7 q8_8 q8_9 q8_10 q8_11 q8_12 q8_13 q8_14 q8_15 q8f
 try clear hw
 obtain ⟨⟨q11_0, q11_1, q11_2, q11_3, q11_4, q11_5, q11_6, q11_7, q11_8, q11_9, q11_10, q11_11, q11_12, q11_13, q11_14, q11_15⟩, q11f⟩ := PBox.cell (box_later bP j10 S1)
 cases q
 rotate_left
 · skip
   have hk' : k = false := by rw [← HK.out, mayP, HQ.out]; rfl
   subst hk'
   clear HK HQ HR
   go_wp2
   go_ret
   exact ⟨rfl, (later j1 j10)⟩
 · skip
   go_wp2_with fail
   refine (edgeMay_any v9 p.h p.mn p.mx r HR.out).mono ?_
   rintro e' v12 ⟨rfl, j13⟩
   clear q11_0 q11_1 q11_2 q11_3 q11_4 q11_5 q11_6 q11_7 q11_8 q11_9 q11_10 q11_11 q11_12 q11_13 q11_14 q11_15 q11f
   try clear hw
   obtain ⟨⟨q14_0, q14_1, q14_2, q14_3, q14_4, q14_5, q14_6, q14_7, q14_8, q14_9, q14_10, q14_11, q14_12, q14_13, q14_14, q14_15⟩, q14f⟩ := PBox.cell (box_later bP (later j10 j13) S1)
   cases r
   · skip
     have hk' : k = false := by rw [← HK.out, mayP, HQ.out, HR.out]; rfl
     subst hk'
     clear HK HQ HR
     go_wp2
     go_ret
     exact ⟨rfl, (later j1 (later j10 j13))⟩
   · skip
     have hk2 : decide (Least.checkCode p.xs = 0) = k := by rw [← HK.out, mayP, HQ.out, HR.out]; simp
     have HC := Lib.hid hk2
     clear hk2 HK HQ HR
     go_wp2_with fail
     refine (Least.MayLeast_any v12 0 v12.heap.size p.A p.n p.c p.xs (PRows.on hR (later j1 (later j10 j13))).L k HC.out).mono ?_
     rintro e' v_ ⟨rfl, m_, rfl⟩
     have jd : Below w.heap.size w (v12.drewN m_) := below_drewN (later j1 (later j10 j13)) m_
     cases k
     · skip
       go_wp2
       go_ret
       exact ⟨rfl, jd⟩
     · skip
       go_wp2
       go_ret
       exact ⟨rfl, jd⟩
set_option maxHeartbeats 6400000 in
set_option maxRecDepth 100000 in
/-- headcountref20.CheckPart. -/
theorem RCheckPart_any (w : World) (p : Pv) (hR : PRows w 0 w.heap.size p) (k : Bool) (hk : mayP p = k) :
  Calls Try.prog 33 #[.agg #[.bool p.M.S.s, .slice p.M.S.A p.M.S.n p.M.S.c, .int .i64 p.M.S.e, .bool p.M.W.s, .slice p.M.W.A p.M.W.n p.M.W.c, .int .i64 p.M.W.e, .bool p.M.C.s, .slice p.M.C.A p.M.C.n p.M.C.c, .int .i64 p.M.C.e, .bool p.M.A.s, .slice p.M.A.A p.M.A.n p.M.A.c, .int .i64 p.M.A.e, .bool p.h, .int .i64 p.mn, .int .i64 p.mx, .slice p.A p.n p.c]] w fun e w' => e = .returned (.int .i64 (if k then 0 else 8)) ∧ Below w.heap.size w w' := by
 obtain ⟨w1, hw, bP, j1, S1⟩ := alloc_p w p
 have HK := Lib.hid hk
 clear hk
 go_enter Try.func33, Try.ntmps33
 obtain ⟨⟨q15_0, q15_1, q15_2, q15_3, q15_4, q15_5, q15_6, q15_7, q15_8, q15_9, q15_10, q15_11, q15_12, q15_13, q15_14, q15_15⟩, q15f⟩ := PBox.cell bP
 go_wp2_with fail
 refine (MayPart_any w1 p (PRows.on hR j1) k HK.out).mono ?_
 rintro e' v16 ⟨rfl, j17⟩
 clear q15_0 q15_1 q15_2 q15_3 q15_4 q15_5 q15_6 q15_7 q15_8 q15_9 q15_10 q15_11 q15_12 q15_13 q15_14 q15_15 q15f
 try clear hw
 cases k
 · skip
   go_wp2
   go_ret
   exact ⟨rfl, (later j1 j17)⟩
 · skip
   go_wp2
   go_ret
   exact ⟨rfl, (later j1 j17)⟩
end Ma
end Go.Proofs.Ytbbnbgllgomolaa