/- A number is added to one under way: a walk. -/
/- The ratio package's long numbers: widen, below (printed by a program of mine out of the dyad package's). -/
/- A region that draws its order, some of whose operations turn what others read: they wait for them. No program in sight. -/
/- A number of another sign is added to one under way: a walk. -/
/- The ratio package's long numbers: length, one, next. -/
/- A range over a function whose iterator keeps state of its own in a cell, and makes memory between two rounds: the rounds say which blocks are theirs. -/
/- RangeSep's law once more: a round that leaves the loop says, too, which blocks are its own. -/
/- A region that draws its order, in the round of a range over a function, under the wide fence: the plain walk's orders serve. No program in sight. -/
import Derived.Deep.RegionLawGrows
import Derived.Deep.AppendLies
import Derived.Test.YtbbnbgllgomolaaBz01
import Derived.Deep.RegionHeld3
import Derived.Deep.MidRow
import Derived.ScopeJumps
import Derived.RangeFuncNested
import Derived.RangeFuncBound
import Derived.RangeFuncCalls
import Derived.RangeFuncLeaves
import Derived.RangeFuncBox
import Derived.Shelf.Abstract
import Derived.Shelf.RegionOpen
import Derived.OwnWalkIn
import Derived.TacticsInMore
import Derived.LoopNIn
import Derived.LoopIn
import Derived.RegionIn
namespace Go.Proofs.Ytbbnbgllgomolaa
open Go.RowKit
namespace Dy
open Dp
/-- Nothing that was there has changed but block g. -/
structure OnlyAt (g : Nat) (w w' : World) : Prop where
 os : w'.os = w.os
 tape : w'.tape = w.tape
 output : w'.output = w.output
 size : w.heap.size ≤ w'.heap.size
 block : ∀ k, k < w.heap.size → k ≠ g → w'.heap[k]? = w.heap[k]?
theorem OnlyAt.refl (g : Nat) (w : World) : OnlyAt g w w := ⟨rfl, rfl, rfl, Nat.le_refl _, fun _ _ _ => rfl⟩
theorem OnlyAt.trans {g : Nat} {a b c : World} (h : OnlyAt g a b) (k : OnlyAt g b c) : OnlyAt g a c :=
 ⟨k.os.trans h.os, k.tape.trans h.tape, k.output.trans h.output, Nat.le_trans h.size k.size, fun j hj hg => (k.block j (Nat.lt_of_lt_of_le hj h.size) hg).trans (h.block j hj hg)⟩
theorem OnlyAt.alloc {g : Nat} {a w : World} (h : OnlyAt g a w) (o : Obj) : OnlyAt g a (w.alloc o) :=
 ⟨h.os, h.tape, h.output, by have := h.size; simp; omega, fun k hk hg => (Below.heap_alloc _ _ _ (Nat.lt_of_lt_of_le hk h.size)).trans (h.block k hk hg)⟩
theorem OnlyAt.setCell {g o : Nat} {a w : World} (h : OnlyAt g a w) (u : Value) : OnlyAt g a (w.setCell ⟨g, o, none⟩ u) :=
 ⟨h.os, h.tape, h.output, by have := h.size; simp [World.setCell]; omega, fun k hk hg => (Below.heap_setCell _ _ _ _ hg).trans (h.block k hk hg)⟩
theorem OnlyAt.setFar {g k : Nat} {a w : World} (h : OnlyAt g a w) (hk : a.heap.size ≤ k) (o : Nat) (u : Value) : OnlyAt g a (w.setCell ⟨k, o, none⟩ u) :=
 ⟨h.os, h.tape, h.output, by have := h.size; simp [World.setCell]; omega, fun j hj hg => (Below.heap_setCell _ _ _ _ (by show j ≠ k; omega)).trans (h.block j hj hg)⟩
theorem OnlyAt.drewN {g : Nat} {a w : World} (h : OnlyAt g a w) (m : Nat) : OnlyAt g a (w.drewN m) := ⟨h.os, h.tape, h.output, h.size, h.block⟩
theorem OnlyAt.drew {g : Nat} {a w : World} (h : OnlyAt g a w) : OnlyAt g a w.drew := ⟨h.os, h.tape, h.output, h.size, h.block⟩
theorem OnlyAt.below {g B : Nat} {a w w' : World} (h : OnlyAt g w w') (hB : Below B a w) (hg : B ≤ g) (hs : B ≤ w.heap.size) : Below B a w' :=
 ⟨h.os.trans hB.os, h.tape.trans hB.tape, h.output.trans hB.output, Nat.le_trans hB.size h.size, fun k hk => (h.block k (by omega) (by omega)).trans (hB.block k hk)⟩
/-- A dyad under way in a block of its own. -/
structure Sum (w : World) (g : Nat) (s : Bool) (L : Value) (ex : Int) (ws : List Int) : Prop where
 blk : w.heap[g]? = some (.cells (#[.bool s, L, .int .i64 ex] ++ rowU ws) 162 (0, 0))
 len : ws.length = 74
 dig : Dig 4294967296 ws
theorem sum_at (s : Bool) (L : Value) (ex : Int) (ws : List Int) (j : Nat) : (#[.bool s, L, .int .i64 ex] ++ rowU ws)[3 + j]? = (rowU ws)[j]? := by
 rw [Array.getElem?_append_right (by simp)]
 congr 1
 simp
theorem sum_set (s : Bool) (L : Value) (ex : Int) (ws : List Int) (j : Nat) (v : Int) : (#[.bool s, L, .int .i64 ex] ++ rowU ws).setIfInBounds (3 + j) (.int .u32 v) = #[.bool s, L, .int .i64 ex] ++ rowU (ws.set j v) := by
 simp only [rowU, List.map_set]
 apply Array.ext'
 simp [show 3 + j = j + 1 + 1 + 1 by omega]
theorem Sum.row {w : World} {g : Nat} {s : Bool} {L : Value} {ex : Int} {ws : List Int} (h : Sum w g s L ex ws) : Row w g 3 ws :=
 ⟨fun j hj => by rw [cell_of_row w g _ _ _ _ h.blk, sum_at]; exact rowU_get ws (by rw [h.len]; exact hj), fun j _ => frozen_of_row w g _ _ _ h.blk, h.len, h.dig⟩
theorem Sum.free {w : World} {g : Nat} {s : Bool} {L : Value} {ex : Int} {ws : List Int} (h : Sum w g s L ex ws) (j : Nat) : w.frozen? ⟨g, j, none⟩ = false := frozen_of_row w g j _ _ h.blk
theorem Sum.set {w : World} {g : Nat} {s : Bool} {L : Value} {ex : Int} {ws : List Int} (h : Sum w g s L ex ws) (j d : Nat) (hd : d < 4294967296) : Sum (w.setCell ⟨g, 3 + j, none⟩ (.int .u32 d)) g s L ex (ws.set j d) :=
 ⟨by rw [heap_setCell_same w g _ _ _ _ h.blk, sum_set], by rw [List.length_set, h.len], dig_set h.dig j d hd⟩
theorem Sum.of_heap {w w' : World} {g : Nat} {s : Bool} {L : Value} {ex : Int} {ws : List Int} (h : Sum w g s L ex ws) (hh : w'.heap[g]? = w.heap[g]?) : Sum w' g s L ex ws := ⟨hh.trans h.blk, h.len, h.dig⟩
theorem Wide.of_heap {w w' : World} {g : Nat} {ws : List Int} (h : Wide w g ws) (hh : w'.heap[g]? = w.heap[g]?) : Wide w' g ws := ⟨hh.trans h.blk, h.len, h.dig⟩
end Dy
end Go.Proofs.Ytbbnbgllgomolaa
namespace Go.Proofs.Ytbbnbgllgomolaa
open Go.RowKit
namespace Dy
open Dp
/-- A row of 76 limbs in a block of its own. -/
structure WideR (w : World) (g : Nat) (ws : List Int) : Prop where
 blk : w.heap[g]? = some (.cells (rowU ws) 114 (0, 0))
 len : ws.length = 76
 dig : Dig 4294967296 ws
theorem WideR.cell {w : World} {g : Nat} {ws : List Int} (h : WideR w g ws) {j : Nat} (hj : j < 76) : w.cell? ⟨g, j, none⟩ = some (.int .u32 (ws[j]?.getD 0)) := by
 rw [cell_of_row w g j _ _ _ h.blk]
 exact rowU_get ws (by rw [h.len]; exact hj)
theorem WideR.free {w : World} {g : Nat} {ws : List Int} (h : WideR w g ws) (j : Nat) : w.frozen? ⟨g, j, none⟩ = false := frozen_of_row w g j _ _ h.blk
theorem WideR.set {w : World} {g : Nat} {ws : List Int} (h : WideR w g ws) (j d : Nat) (hd : d < 4294967296) : WideR (w.setCell ⟨g, j, none⟩ (.int .u32 d)) g (ws.set j d) :=
 ⟨by rw [heap_setCell_same w g j _ _ _ h.blk, rowU_set], by rw [List.length_set, h.len], dig_set h.dig j d hd⟩
def zero76 : List Int := List.replicate 76 0
theorem Try.info114 : (Try.prog.info? 114).map (fun i => (i.zero, i.size)) = some (some (.agg (rowU zero76)), 76) := by kernel_rfl
/-- 76 limbs that lie from offset o of block g on. -/
structure RowR (w : World) (g o : Nat) (ws : List Int) : Prop where
 cell : ∀ j, j < 76 → w.cell? ⟨g, o + j, none⟩ = some (.int .u32 (ws[j]?.getD 0))
 free : ∀ j, j < 76 → w.frozen? ⟨g, o + j, none⟩ = false
 len : ws.length = 76
 dig : Dig 4294967296 ws
theorem RowR.drewN {w : World} {g o : Nat} {ws : List Int} (h : RowR w g o ws) (m : Nat) : RowR (w.drewN m) g o ws := ⟨h.cell, h.free, h.len, h.dig⟩
theorem RowR.keep {w w' : World} {g o : Nat} {ws : List Int} (h : RowR w g o ws) (hk : ∀ j, j < 76 → w'.cell? ⟨g, o + j, none⟩ = w.cell? ⟨g, o + j, none⟩ ∧ w'.frozen? ⟨g, o + j, none⟩ = w.frozen? ⟨g, o + j, none⟩) : RowR w' g o ws :=
 ⟨fun j hj => (hk j hj).1.trans (h.cell j hj), fun j hj => (hk j hj).2.trans (h.free j hj), h.len, h.dig⟩
theorem WideR.row {w : World} {g : Nat} {ws : List Int} (h : WideR w g ws) : RowR w g 0 ws :=
 ⟨fun j hj => by rw [Nat.zero_add]; exact h.cell hj, fun j _ => by rw [Nat.zero_add]; exact h.free j, h.len, h.dig⟩
end Dy
end Go.Proofs.Ytbbnbgllgomolaa
namespace Go.Proofs.Ytbbnbgllgomolaa
open Go.RowKit
section
variable {P : Program} {ops : Array Oper} {os : List Oper} {Q : Exit → Act → World → Prop} {md : Region.Mode} {S : World → Prop} {E : List Nat}
/-- Whatever order is picked, S holds behind each operation but those of E. -/
def wpAnyE (P : Program) (md : Region.Mode) (ops : Array Oper) (Q : Exit → Act → World → Prop) (S : World → Prop) (E : List Nat) : Nat → Array Bool → Act → World → Prop
 | 0, L, a, w => Region.ready md ops L = [] ∧ Q .normal a w
 | n + 1, L, a, w => (Region.ready md ops L = [] → Q .normal a w) ∧ ∀ i ∈ Region.ready md ops L, wpOp P ops Q i (fun a' w' => (E.contains i = false → S w → S w') ∧ wpAnyE P md ops Q S E n (L.setIfInBounds i true) a' w') a w
theorem any_of_E : ∀ (n : Nat) (L : Array Bool) (a : Act) (w : World), wpAnyE P md ops Q S E n L a w → wpAny P md ops Q n L a w
 | 0, _, _, _, h => h
 | n + 1, _, _, _, h => ⟨h.1, fun i hi => wpOp_mono (fun a' w' h' => any_of_E n _ a' w' h'.2) (h.2 i hi)⟩
/-- Number k waits for number i. -/
def waitsE (md : Region.Mode) (ops : Array Oper) (k i : Nat) : Bool := match ops[k]? with
 | none => true
 | some o => o.after.any fun e => Region.binds md e && e.on == i
theorem not_readyE {L : Array Bool} {i k : Nat} (hw : waitsE md ops k i = true) (hi : i ∈ Region.ready md ops L) : k ∉ Region.ready md ops L := fun hk => by
 obtain ⟨_, o, ho, hall⟩ := mem_ready.1 hk
 have h0 := (mem_ready.1 hi).1
 unfold waitsE at hw
 rw [ho] at hw
 simp only [Array.any_eq_true, Bool.and_eq_true, beq_iff_eq] at hw
 obtain ⟨j, hj, hb, he⟩ := hw
 have h1 := hall _ (Array.getElem_mem hj) hb
 rw [he] at h1
 rcases Nat.lt_or_ge i L.size with h' | h'
 · simp [h'] at h0 h1
   rw [h0] at h1
   cases h1
 · simp [Array.getElem?_eq_none h'] at h1
theorem not_afterE {L : Array Bool} {i j : Nat} {oj : Oper} (hoj : ops[j]? = some oj) (hr : i ∈ Region.ready md ops L) (hj : j ∈ Region.ready md ops L) : ∀ e ∈ oj.after, Region.binds md e = true → e.on ≠ i := fun e he hb heq => by
 refine not_readyE (k := j) (md := md) (ops := ops) ?_ hr hj
 unfold waitsE
 rw [hoj]
 obtain ⟨m, hm, hme⟩ := Array.getElem_of_mem he
 simp only [Array.any_eq_true, Bool.and_eq_true, beq_iff_eq]
 exact ⟨m, hm, by rw [hme]; exact hb, by rw [hme]; exact heq⟩
theorem firstE {i : Nat} {oi : Oper} {v : Value} (hi : ops[i]? = some oi) (hsel : ∀ (j : Nat) (o : Oper) cs b, ops[j]? = some o → o.op ≠ .select cs b)
  (hw : ∀ k, E.contains k = true → waitsE md ops k i = true)
  (hQ : ∀ c a w, Q (.panic c) (a.put oi.dst v) w → Q (.panic c) a w) :
  ∀ (n : Nat) (L : Array Bool) (a : Act) (w : World),
   (∀ j oj, ops[j]? = some oj → j ≠ i → L.getD j true = false → (∀ e ∈ oj.after, Region.binds md e = true → e.on ≠ i) → oi.apart ops oj = true) →
   i ∈ Region.ready md ops L → YieldsIf P ops S oi v a → S w → wpAnyE P md ops Q S E n (L.setIfInBounds i true) (a.put oi.dst v) w → wpAnyE P md ops Q S E (n + 1) L a w := by
 intro n
 induction n with
 | zero =>
  intro L a w _ hr hy hS H
  refine ⟨fun h => (by rw [h] at hr; cases hr), fun j hj => ?_⟩
  by_cases hji : j = i
  · subst hji
    exact hy.wpOp hi hS ⟨fun _ h => h, H⟩
  · have := ready_mono hj hji
    rw [H.1] at this
    cases this
 | succ n ih =>
  intro L a w hfree hr hy hS H
  refine ⟨fun h => (by rw [h] at hr; cases hr), fun j hj => ?_⟩
  by_cases hji : j = i
  · subst hji
    exact hy.wpOp hi hS ⟨fun _ h => h, H⟩
  · have h1 := H.2 j (ready_mono hj hji)
    obtain ⟨hjun, oj, hoj, hall⟩ := mem_ready.1 hj
    have hnot := not_afterE hoj hr hj
    have h2 := wpOp_putIf hoj (hfree j oj hoj hji hjun hnot) (fun cs b => hsel i oi cs b hi) (fun cs b => hsel j oj cs b hoj) hQ hy h1
    have hjk : E.contains j = false := by
     cases hc : E.contains j
     · rfl
     · exact absurd hj (not_readyE (hw j hc) hr)
    refine wpOp_mono (fun a' w' h3 => ⟨h3.2.1, ih (L.setIfInBounds j true) a' w' (fun m om hm hmi hun hno => ?_) (ready_mono hr (Ne.symm hji)) h3.1 (h3.2.1 hjk hS) ?_⟩) h2
    · refine hfree m om hm hmi ?_ hno
      by_cases hjm : j = m
      · subst hjm
        exact hjun
      · rw [getD_set_ne true hjm] at hun
        exact hun
    · rw [Array.setIfInBounds_comm _ _ hji]
      exact h3.2.2
theorem firstT {i : Nat} {oi : Oper} {v : Value} (hi : ops[i]? = some oi) (hsel : ∀ (j : Nat) (o : Oper) cs b, ops[j]? = some o → o.op ≠ .select cs b)
  (hQ : ∀ c a w, Q (.panic c) (a.put oi.dst v) w → Q (.panic c) a w) :
  ∀ (n : Nat) (L : Array Bool) (a : Act) (w : World),
   (∀ j oj, ops[j]? = some oj → j ≠ i → L.getD j true = false → (∀ e ∈ oj.after, Region.binds md e = true → e.on ≠ i) → oi.apart ops oj = true) →
   i ∈ Region.ready md ops L → YieldsIf P ops (fun _ => True) oi v a → wpAnyE P md ops Q S E n (L.setIfInBounds i true) (a.put oi.dst v) w → wpAnyE P md ops Q S E (n + 1) L a w := by
 intro n
 induction n with
 | zero =>
  intro L a w _ hr hy H
  refine ⟨fun h => (by rw [h] at hr; cases hr), fun j hj => ?_⟩
  by_cases hji : j = i
  · subst hji
    exact hy.wpOp hi trivial ⟨fun _ h => h, H⟩
  · have := ready_mono hj hji
    rw [H.1] at this
    cases this
 | succ n ih =>
  intro L a w hfree hr hy H
  refine ⟨fun h => (by rw [h] at hr; cases hr), fun j hj => ?_⟩
  by_cases hji : j = i
  · subst hji
    exact hy.wpOp hi trivial ⟨fun _ h => h, H⟩
  · have h1 := H.2 j (ready_mono hj hji)
    obtain ⟨hjun, oj, hoj, hall⟩ := mem_ready.1 hj
    have hnot := not_afterE hoj hr hj
    have h2 := wpOp_putIf hoj (hfree j oj hoj hji hjun hnot) (fun cs b => hsel i oi cs b hi) (fun cs b => hsel j oj cs b hoj) hQ hy h1
    refine wpOp_mono (fun a' w' h3 => ⟨h3.2.1, ih (L.setIfInBounds j true) a' w' (fun m om hm hmi hun hno => ?_) (ready_mono hr (Ne.symm hji)) h3.1 ?_⟩) h2
    · refine hfree m om hm hmi ?_ hno
      by_cases hjm : j = m
      · subst hjm
        exact hjun
      · rw [getD_set_ne true hjm] at hun
        exact hun
    · rw [Array.setIfInBounds_comm _ _ hji]
      exact h3.2.2
/-- A read: it may be taken first. -/
theorem readE {i n : Nat} {oi : Oper} {v : Value} {listed L : Array Bool} {a : Act} {w : World} (hi : os[i]? = some oi) (hL : listed.setIfInBounds i true = L)
  (hs : Region.noSelect os.toArray = true) (hf : (Region.free md os.toArray listed i && E.all fun k => waitsE md os.toArray k i) = true) (hr : (Region.ready md os.toArray listed).contains i = true)
  (hQ : ∀ c a w, Q (.panic c) (a.put oi.dst v) w → Q (.panic c) a w) (hS : S w) (hw : Region.wanted oi (yielded os.toArray a.tmps) = true) (hy : ∀ w, S w → (execOp a.eval oi).run P w = .ok (.value v) w)
  (h : wpAnyE P md os.toArray Q S E n L (a.put oi.dst v) w) : wpAnyE P md os.toArray Q S E (n + 1) listed a w := by
 rw [Bool.and_eq_true] at hf
 have hi' : os.toArray[i]? = some oi := by simpa using hi
 exact firstE hi' (Region.noSelect_spec hs) (fun k hk => List.all_eq_true.1 hf.2 k (by simpa using hk)) hQ n listed a w (Region.free_spec hi' hf.1) (by simpa using hr) (Or.inl ⟨hw, hy⟩) hS (hL ▸ h)
/-- What yields one value in whatever world: it may be taken first. -/
theorem pureE {i n : Nat} {oi : Oper} {v : Value} {listed L : Array Bool} {a : Act} {w : World} (hi : os[i]? = some oi) (hL : listed.setIfInBounds i true = L)
  (hs : Region.noSelect os.toArray = true) (hf : Region.free md os.toArray listed i = true) (hr : (Region.ready md os.toArray listed).contains i = true)
  (hQ : ∀ c a w, Q (.panic c) (a.put oi.dst v) w → Q (.panic c) a w) (hw : Region.wanted oi (yielded os.toArray a.tmps) = true) (hy : ∀ w, (execOp a.eval oi).run P w = .ok (.value v) w)
  (h : wpAnyE P md os.toArray Q S E n L (a.put oi.dst v) w) : wpAnyE P md os.toArray Q S E (n + 1) listed a w := by
 have hi' : os.toArray[i]? = some oi := by simpa using hi
 exact firstT hi' (Region.noSelect_spec hs) hQ n listed a w (Region.free_spec hi' hf) (by simpa using hr) (Or.inl ⟨hw, fun w _ => hy w⟩) (hL ▸ h)
/-- pureE with what goes by itself. -/
theorem zE (i : Nat) (L : Array Bool) (v : Value) {n : Nat} {oi : Oper} {listed : Array Bool} {a : Act} {w : World} (hi : os[i]? = some oi) (hy : ∀ w, (execOp a.eval oi).run P w = .ok (.value v) w)
  (h : wpAnyE P md os.toArray Q S E n L (a.put oi.dst v) w) (hL : listed.setIfInBounds i true = L := by rfl)
  (hs : Region.noSelect os.toArray = true := by kernel_rfl) (hf : Region.free md os.toArray listed i = true := by kernel_rfl) (hr : (Region.ready md os.toArray listed).contains i = true := by kernel_rfl)
  (hQ : ∀ c a w, Q (.panic c) (a.put oi.dst v) w → Q (.panic c) a w := by exact fun _ _ _ h => h) (hw : Region.wanted oi (yielded os.toArray a.tmps) = true := by rfl) : wpAnyE P md os.toArray Q S E (n + 1) listed a w := pureE hi hL hs hf hr hQ hw hy h
/-- The same, what follows under a name. -/
theorem stepK {i n : Nat} {oi : Oper} {listed L : Array Bool} {a : Act} {w : World} (hi : os[i]? = some oi) (hL : listed.setIfInBounds i true = L)
  (hr : Region.ready md os.toArray listed = [i]) (hw : Region.wanted oi (yielded os.toArray a.tmps) = true)
  (h : ∀ K' : Act → World → Prop, Shut (∀ a w', ((E.contains i = false → S w → S w') ∧ wpAnyE P md os.toArray Q S E n L a w') → K' a w') → Oper.wp P oi a w K' Q) :
  wpAnyE P md os.toArray Q S E (n + 1) listed a w := by
 subst hL
 refine ⟨fun h0 => (by rw [hr] at h0; cases h0), fun j hj => ?_⟩
 rw [hr] at hj
 obtain rfl := List.mem_singleton.1 hj
 refine wpOp_step (by simpa using hi) (fun K' hK => ?_)
 rw [if_pos hw]
 exact h K' hK
theorem doneE {L : Array Bool} {a : Act} {w : World} (hr : Region.ready md ops L = []) (h : Q .normal a w) : ∀ n, wpAnyE P md ops Q S E n L a w
 | 0 => ⟨hr, h⟩
 | _ + 1 => ⟨fun _ => h, by rw [hr]; simp⟩
theorem region_E (S : World → Prop) (E : List Nat) {id m : Nat} {L : Array Bool} {a : Act} {w : World} (hm : P.follows .mixedOrders = true) (hsz : os.length = m) (hL : Array.replicate m false = L)
  (h : wpAnyE P .any os.toArray Q S E m L a w.drew) : (Code.region id os.toArray true).wp P Q a w := by
 subst hsz
 subst hL
 exact wp_region_any hm (any_of_E _ _ _ _ h)
end
end Go.Proofs.Ytbbnbgllgomolaa
namespace Go.Proofs.Ytbbnbgllgomolaa
open Go.RowKit
namespace Dy
open Dp
theorem OnlyAt.setCells {g : Nat} {a : World} {b : Nat} (hb : b = g ∨ a.heap.size ≤ b) : ∀ (vs : List Value) (o : Nat) {w : World}, OnlyAt g a w → OnlyAt g a (w.setCells b o vs)
 | [], _, _, h => h
 | v :: r, o, w, h => by
  rw [World.setCells]
  refine OnlyAt.setCells hb r (o + 1) ?_
  rcases hb with rfl | hb
  · exact h.setCell v
  · exact h.setFar hb o v
theorem Sum.sign {w : World} {g : Nat} {s : Bool} {L : Value} {ex : Int} {ws : List Int} (h : Sum w g s L ex ws) (t : Bool) : Sum (w.setCell ⟨g, 0, none⟩ (.bool t)) g t L ex ws :=
 ⟨by rw [heap_setCell_same w g _ _ _ _ h.blk]; congr 2; apply Array.ext'; simp, h.len, h.dig⟩
end Dy
end Go.Proofs.Ytbbnbgllgomolaa
namespace Go.Proofs.Ytbbnbgllgomolaa
open Go.RowKit
namespace Dy
open Dp
theorem WideR.of_heap {w w' : World} {g : Nat} {ws : List Int} (h : WideR w g ws) (hh : w'.heap[g]? = w.heap[g]?) : WideR w' g ws := ⟨hh.trans h.blk, h.len, h.dig⟩
theorem WideR.lt {w : World} {g : Nat} {ws : List Int} (h : WideR w g ws) : g < w.heap.size := (Array.getElem?_eq_some_iff.1 h.blk).1
end Dy
end Go.Proofs.Ytbbnbgllgomolaa
namespace Go.Proofs.Ytbbnbgllgomolaa
open Go.RowKit
/-- But for the blocks of O, cells that lay in W lie in W' as they lay; what O' has and O has not is new. -/
structure Gain (O O' : Nat → Prop) (W W' : World) : Prop where
 size : W.heap.size ≤ W'.heap.size
 same : ∀ k cs t z, ¬ O k → W.heap[k]? = some (.cells cs t z) → W'.heap[k]? = some (.cells cs t z)
 new : ∀ k, O' k → O k ∨ (W.heap.size ≤ k ∧ k < W'.heap.size)
theorem Gain.refl (O : Nat → Prop) (W : World) : Gain O O W W := ⟨Nat.le_refl _, fun _ _ _ _ _ h => h, fun _ h => .inl h⟩
theorem Gain.trans {O O' O'' : Nat → Prop} {A B C : World} (h : Gain O O' A B) (k : Gain O' O'' B C) : Gain O O'' A C where
 size := Nat.le_trans h.size k.size
 same i cs t z hi hA := by
  refine k.same i cs t z (fun hO => ?_) (h.same i cs t z hi hA)
  rcases h.new i hO with h1 | h1
  · exact hi h1
  · have := (Array.getElem?_eq_some_iff.1 hA).1
    omega
 new i hi := by
  rcases k.new i hi with h1 | h1
  · rcases h.new i h1 with h2 | h2
    · exact .inl h2
    · exact .inr ⟨h2.1, Nat.lt_of_lt_of_le h2.2 k.size⟩
  · exact .inr ⟨Nat.le_trans h.size h1.1, h1.2⟩
theorem Gain.put (O : Nat → Prop) {W : World} {l : Nat} {o : Obj} (o' : Obj) (hl : W.heap[l]? = some o) (ho : o.isCells = false) : Gain O O W (W.putObj l o') where
 size := by simp
 same k cs t z _ hk := (World.putObj_heap_other (fun e => by subst e; rw [hl] at hk; cases hk; cases ho)).trans hk
 new _ h := .inl h
/-- J stands whatever is laid anew, and whatever becomes of block g. -/
def Loose {β : Type} (g : Nat) (J : β → (Nat → Prop) → World → Prop) : Prop := ∀ s O W W' row, J s O W → W.grownBy W' row → (∀ r, row = some r → r = g) → J s O W'
/-- The two blocks of a loop's own. -/
def Book (D : Nat) (r : Loop) (W : World) : Prop := W.heap[D + 1]? = some (.loop r) ∧ W.heap[D]? = some (.deferred (some []))
theorem Book.lt {D : Nat} {r : Loop} {W : World} (h : Book D r W) : D + 1 < W.heap.size := (Array.getElem?_eq_some_iff.1 h.1).1
theorem Book.grown {D : Nat} {r : Loop} {W W' : World} {row : Option Nat} (h : Book D r W) (hg : W.grownBy W' row) (hr : ∀ k, row = some k → k < D) : Book D r W' := by
 have hl := h.lt
 exact ⟨(hg.block _ hl (fun e => by have := hr _ e.symm; omega)).trans h.1, (hg.block _ (by omega) (fun e => by have := hr _ e.symm; omega)).trans h.2⟩
theorem Book.put {D : Nat} {r : Loop} {W : World} (h : Book D r W) (r' : Loop) : Book D r' (W.putObj (D + 1) (.loop r')) :=
 ⟨World.putObj_heap_same h.lt, (World.putObj_heap_other (by omega)).trans h.2⟩
theorem Book.keeps {D : Nat} {r : Loop} {W W' : World} (h : Book D r W) (hk : KeepsFrom D W W') : Book D r W' :=
 ⟨hk.same _ _ (by omega) h.1 rfl, hk.same _ _ (Nat.le_refl _) h.2 rfl⟩
variable {F : Fence} {n : Nat} {P : Program}
/-- The end of a round: the record is turned, all else stands. -/
theorem round_end {D : Nat} {r : Loop} {W : World} (h : Book D r W) (jump : Option Code) :
  (Instr.endRound (D + 1) jump).run P W = .ok (.bool jump.isNone) (W.putObj (D + 1) (.loop { r with state := if jump.isNone then .ready else .done, pending := jump })) := run_endRound jump h.1
end Go.Proofs.Ytbbnbgllgomolaa
namespace Go.Proofs.Ytbbnbgllgomolaa
open Go.RowKit
/-- What an iterator gives that writes block g between two rounds: the blocks of Prot are none of the rounds' own. -/
def SeqSep2 {α : Type} (G : List α → α → Prop) (F : Fence) (n : Nat) (P : Program) (f : Nat) (lb : Array Value) (encs : α → Array Value) (S Sp : List α → Prop) (N : Nat) (Prot : Nat → Prop) (g : Nat) (w : World) : Prop :=
 ∀ (l : Nat) (J Jx : List α → (Nat → Prop) → World → Prop) (O0 : Nat → Prop) (W : World), Below w.heap.size w W → Loose g J → Loose g Jx → (∀ k, Prot k → ¬ O0 k) → (∀ k, O0 k → k < W.heap.size) →
  (∀ pre x O W1, G pre x → J pre O W1 → pre.length < N → YieldAt F (n - 1) P l (encs x) W1 fun e W' =>
   (e = .returned (.bool true) ∧ ∃ O', J (pre ++ [x]) O' W' ∧ Gain O O' W1 W') ∨ (e = .returned (.bool false) ∧ ∃ O', Jx (pre ++ [x]) O' W' ∧ Gain O O' W1 W')) →
  J [] O0 W →
  CallsIn F n P f (#[.func (.yield l) #[] #[]] ++ lb) W fun e W' => (∃ v, e = .returned v) ∧ ((∃ xs O, S xs ∧ J xs O W') ∨ (∃ pre O, Sp pre ∧ Jx pre O W'))
/-- How a round's body may be left. -/
def sepPost2 {α : Type} (B : Nat) (I : List α → (Nat → Prop) → World → Prop) (Ix : Code → List α → (Nat → Prop) → World → Prop) (xs : List α) (O : Nat → Prop) (W : World) : Exit → Act → World → Prop
 | .normal, _, W' => KeepsFrom B W W' ∧ ∃ O', Gain O O' W W' ∧ I xs O' W'
 | .ret, _, W' => KeepsFrom B W W' ∧ ∃ O', Gain O O' W W' ∧ Ix .ret xs O' W'
 | .exit id, _, W' => KeepsFrom B W W' ∧ ∃ O', Gain O O' W W' ∧ Ix (.exit id) xs O' W'
 | .goto t, _, W' => KeepsFrom B W W' ∧ ∃ O', Gain O O' W W' ∧ Ix (.goto t) xs O' W'
 | .panic _, _, _ => False
 | .outgrown, _, _ => False
variable {F : Fence} {n : Nat} {P : Program}
theorem wpIn_rangeFunc_sep2 {α : Type} {gop : Operand} {ps : Array Tmp} {assign body : Code} {Q : Exit → Act → World → Prop} {a : Act} {w : World}
  (hro : F.round = none) (h1 : 1 ≤ n) {gf : Nat} {lb : Array Value} (hg : a.eval gop = .func (.func gf) #[] lb) (hFg : F.fn gf) (eg : ∀ args w, (callFunc gf args).run P w = .ok (.enter gf args) w)
  {encs : α → Array Value} {S Sp : List α → Prop} {N : Nat} {Prot : Nat → Prop} {g : Nat} {G : List α → α → Prop} (hseq : SeqSep2 G F (n - 1) P gf lb encs S Sp N Prot g w) (hgl : g < w.heap.size) (hps : ∀ x, (encs x).size = ps.size)
  (I : List α → (Nat → Prop) → World → Prop) (Ix : Code → List α → (Nat → Prop) → World → Prop) (hI : ∀ O, OwnFrom w.heap.size (fun s W => I s O W)) (hIx : ∀ c O, OwnFrom w.heap.size (fun s W => Ix c s O W)) (hIg : Loose g I) (hIxg : ∀ c, Loose g (Ix c))
  (O0 : Nat → Prop) (hO0 : ∀ k, Prot k → ¬ O0 k) (hOl : ∀ k, O0 k → k < w.heap.size) (h0 : I [] O0 w) (Ax : α → Act → World → Prop) (hAx : ∀ x a', OwnFrom w.heap.size (fun (_ : Unit) W => Ax x a' W))
  (hassign : ∀ (l : Nat) (pre : List α) (x : α) (O : Nat → Prop) (W : World) (K : Act → World → Prop), G pre x → w.heap.size < W.heap.size → I pre O W → (∀ a' W', KeepsFrom w.heap.size W W' → Gain O O W W' → I pre O W' → Ax x a' W' → K a' W') →
   assign.wpIn (F.inRound l) (n - 1 - 1) P (Exit.then K (fun _ _ _ => False)) { tmps := (ps.zip (encs x)).foldl (fun t (p, v) => t.setIfInBounds p v) a.tmps, defers := [] } W)
  (hbody : ∀ (l : Nat) (pre : List α) (x : α) (O : Nat → Prop) (a' : Act) (W : World), G pre x → w.heap.size < W.heap.size → I pre O W → Ax x a' W → pre.length < N → body.wpIn (F.inRound l) (n - 1 - 1) P (sepPost2 w.heap.size I Ix (pre ++ [x]) O W) a' W)
  (hdone : ∀ (D : Nat) (xs : List α) (O : Nat → Prop) (W : World), w.heap.size ≤ D → S xs → I xs O W → W.heap[D]? = some (.deferred (some [])) → Q .normal { a with defers := { target := .collected D, args := #[] } :: a.defers } W)
  (hstop : ∀ (D : Nat) (c : Code) (pre : List α) (O : Nat → Prop) (W : World), w.heap.size ≤ D → Sp pre → Ix c pre O W → W.heap[D]? = some (.deferred (some [])) → c.wpIn F n P Q { a with defers := { target := .collected D, args := #[] } :: a.defers } W) :
  (Code.rangeFunc gop ps assign body).wpIn F n P Q a w := by
 refine wpIn_rangeFunc fun fn hfn => ?_
 rw [hro]
 obtain ⟨D, hD⟩ : ∃ D, w.heap.size = D := ⟨_, rfl⟩
 obtain ⟨rec, hrec⟩ : ∃ rec : LoopState → Option Code → Loop, rec = fun st pe => { state := st, pending := pe, fn, tmps := a.tmps, params := ps, assign, body, defers := D } := ⟨_, rfl⟩
 obtain ⟨W1, hW1⟩ : ∃ W1, (w.alloc (.deferred (some []))).alloc (.loop (rec .ready none)) = W1 := ⟨_, rfl⟩
 have hbk : Book D (rec .ready none) W1 := by
  refine ⟨?_, ?_⟩
  · have := World.alloc_heap_new (w.alloc (.deferred (some []))) (.loop (rec .ready none))
    rw [World.size_alloc, hD, hW1] at this
    exact this
  · rw [← hW1, ← hD]
    exact (Below.heap_alloc _ _ _ (by simp)).trans (World.alloc_heap_new w _)
 have hI1 : I [] O0 W1 := by
  rw [← hW1]
  exact (hI O0).alloc _ ((hI O0).alloc _ h0)
 have hb1 : Below w.heap.size w W1 := by
  rw [← hW1]
  exact ((Below.refl _ w).alloc (Nat.le_refl _) _).alloc (by simp) _
 have hs1 := hb1.size
 have henter := run_enterLoop_outer (P := P) (w := w) fn a.tmps ps assign body
 rw [hD] at henter
 refine ⟨D + 1, [{ target := .collected D, args := #[] }], W1, { target := .fn (.func gf) lb, args := #[.func (.yield (D + 1)) #[] #[]] }, W1, gf,
  #[.func (.yield (D + 1)) #[] #[]] ++ lb, W1, ?_, ?_, ?_, ?_, fun _ => h1, ?_⟩
 · rw [henter, ← hW1, hrec]
 · simp only [resolve, hg]
   simp [go_sem]
 · intro f' hf'
   simp [Target.leads] at hf'
   subst hf'
   exact hFg
 · simp [invoke, go_sem, eg]
 · refine (hseq (D + 1) (fun pre O W => I pre O W ∧ Book D (rec .ready none) W) (fun pre O W => ∃ c, Ix c pre O W ∧ Book D (rec .done (some c)) W) O0 W1 hb1
     (fun s O A B row hs hg' hr => ⟨hIg s O A B row hs.1 hg' hr, hs.2.grown hg' (fun k e => by have := hr k e; omega)⟩)
     (fun s O A B row hs hg' hr => by
      obtain ⟨c, hc, hk⟩ := hs
      exact ⟨c, hIxg c s O A B row hc hg' hr, hk.grown hg' (fun k e => by have := hr k e; omega)⟩)
     hO0 (fun k hk => Nat.lt_of_lt_of_le (hOl k hk) hs1) ?_ ⟨hI1, hbk⟩).mono ?_
   · rintro pre x O W hgx ⟨hi, hk⟩ hlen
     have hy := run_yield (P := P) (args := encs x) hk.1 (by rw [hrec]; exact hps x)
     rw [hrec] at hy
     refine ⟨fn, _, assign, body, hy, roundIn_of_wpIn hfn (hassign _ pre x O W _ hgx (by have := hk.lt; omega) hi ?_)⟩
     clear hy
     intro a' Wa hka hga hia hax
     rw [hD] at hka
     have hk := hk.keeps hka
     refine ⟨_, run_beginRound hk.1 (by rw [hrec]), ?_⟩
     have hk2 := hk.put { rec .ready none with state := .busy }
     have hg2 : Gain O O W (Wa.putObj (D + 1) (.loop { rec .ready none with state := .busy })) := hga.trans (Gain.put O _ hk.1 rfl)
     have hlt := hk.lt
     refine wpIn_mono (hbody _ pre x O a' _ hgx (by simp; omega) ((hI O).putObj _ hia (by omega) hk.1 rfl) ((hAx x a').putObj (s := ()) _ hax (by omega) hk.1 rfl) hlen) ?_
     rw [hD]
     have hrd : ∀ jump : Option Code, { { rec .ready none with state := .busy } with state := if jump.isNone then .ready else .done, pending := jump } = rec (if jump.isNone then .ready else .done) jump := by
      intro jump
      rw [hrec]
     rintro e a3 W3 hp
     cases e with
     | normal =>
      obtain ⟨hk3, O', hg3, hi3⟩ := hp
      have hb3 := hk2.keeps hk3
      have hr := round_end (P := P) hb3 none
      rw [hrd] at hr
      exact ⟨_, _, hr, .inl ⟨rfl, O', ⟨(hI O').putObj _ hi3 (by omega) hb3.1 rfl, hb3.put _⟩, (hg2.trans hg3).trans (Gain.put O' _ hb3.1 rfl)⟩⟩
     | ret =>
      obtain ⟨hk3, O', hg3, hi3⟩ := hp
      have hb3 := hk2.keeps hk3
      have hr := round_end (P := P) hb3 (some .ret)
      rw [hrd] at hr
      exact ⟨_, _, hr, .inr ⟨rfl, O', ⟨.ret, (hIx _ O').putObj _ hi3 (by omega) hb3.1 rfl, hb3.put _⟩, (hg2.trans hg3).trans (Gain.put O' _ hb3.1 rfl)⟩⟩
     | exit id =>
      obtain ⟨hk3, O', hg3, hi3⟩ := hp
      have hb3 := hk2.keeps hk3
      have hr := round_end (P := P) hb3 (some (.exit id))
      rw [hrd] at hr
      exact ⟨_, _, hr, .inr ⟨rfl, O', ⟨.exit id, (hIx _ O').putObj _ hi3 (by omega) hb3.1 rfl, hb3.put _⟩, (hg2.trans hg3).trans (Gain.put O' _ hb3.1 rfl)⟩⟩
     | goto t =>
      obtain ⟨hk3, O', hg3, hi3⟩ := hp
      have hb3 := hk2.keeps hk3
      have hr := round_end (P := P) hb3 (some (.goto t))
      rw [hrd] at hr
      exact ⟨_, _, hr, .inr ⟨rfl, O', ⟨.goto t, (hIx _ O').putObj _ hi3 (by omega) hb3.1 rfl, hb3.put _⟩, (hg2.trans hg3).trans (Gain.put O' _ hb3.1 rfl)⟩⟩
     | panic ch => exact hp.elim
     | outgrown => exact hp.elim
   · rintro e W2 ⟨⟨v, rfl⟩, (⟨xs, O, hS, hi, hk⟩ | ⟨pre, O, hSp, c, hi, hk⟩)⟩
     · exact ⟨none, _, by have := run_endLoop (P := P) hk.1 (by rw [hrec]; simp); rw [hrec] at this; exact this, hdone D xs O _ (by omega) hS ((hI O).putObj _ hi (by omega) hk.1 rfl) (hk.put _).2⟩
     · exact ⟨some c, _, by have := run_endLoop (P := P) hk.1 (by rw [hrec]; simp); rw [hrec] at this; exact this, hstop D c pre O _ (by omega) hSp ((hIx c O).putObj _ hi (by omega) hk.1 rfl) (hk.put _).2⟩
end Go.Proofs.Ytbbnbgllgomolaa
namespace Go.Proofs.Ytbbnbgllgomolaa
open Go.RowKit
def opPlain (o : Oper) : Bool := match o.op with
 | .defer _ => false
 | _ => true
theorem opPlain_spec {o : Oper} (h : opPlain o = true) : ∀ c, o.op ≠ .defer c := by
 intro c e
 unfold opPlain at h
 rw [e] at h
 cases h
section
variable {P : Program} {ops : Array Oper} {Q : Exit → Act → World → Prop} {md : Region.Mode} {l n : Nat}
theorem operIn_of_oper {o : Oper} {a : Act} {w : World} {K : Act → World → Prop} (hnd : opPlain o = true) (h : o.wp P a w K Q) : o.wpIn (Fence.wide.inRound l) n P a w K Q := by
 refine ⟨fun _ _ => trivial, ?_⟩
 unfold Oper.wp at h
 rw [Oper.semAt_eq _ _ _ (opPlain_spec hnd)]
 generalize (execOp a.eval o).run P w = r at h ⊢
 cases r with
 | ok x w' =>
  cases x with
  | value v => exact h
  | skip => exact h
  | defer d => exact h
  | enter f args => exact ⟨(fun e => by cases e), CallsIn.inRound l (callsIn_wide.2 h)⟩
  | row row args =>
   refine ⟨(fun e => by cases e), fun c cs _ => ?_⟩
   obtain ⟨v, w'', r, s⟩ := h c cs
   exact ⟨v, w'', r, stepsIn_wide.2 s⟩
  | _ => exact h.elim
 | halt x w' =>
  cases x <;> first | exact h | exact h.elim
theorem opIn_of_op {i : Nat} {a : Act} {w : World} {K K' : Act → World → Prop} (hnd : ops.all opPlain = true) (hQ : ∀ a w, ¬ Q .outgrown a w) (hK : ∀ a w, K a w → K' a w) (h : wpOp P ops Q i K a w) : wpOpIn (Fence.wide.inRound l) n P ops Q i K' a w := by
 unfold wpOp at h
 unfold wpOpIn
 cases ho : ops[i]? with
 | none =>
  rw [ho] at h
  exact hK _ _ h
 | some o =>
  rw [ho] at h
  have hp : opPlain o = true := by
   obtain ⟨hi, he⟩ := Array.getElem?_eq_some_iff.1 ho
   rw [← he]
   exact (Array.all_eq_true.1 hnd) i hi
  by_cases hw : Region.wanted o (yielded ops a.tmps) = true
  · simp only [hw, if_true] at h ⊢
    rcases h with h | ⟨_, a', w', hq⟩
    · exact Oper.wpIn_mono hK (operIn_of_oper hp h)
    · exact absurd hq (hQ a' w')
  · simp only [hw] at h ⊢
    exact ⟨fun _ _ => trivial, hK _ _ h⟩
theorem anyIn_of_any (hnd : ops.all opPlain = true) (hQ : ∀ a w, ¬ Q .outgrown a w) : ∀ (fuel : Nat) (listed : Array Bool) (a : Act) (w : World),
  wpAny P md ops Q fuel listed a w → wpAnyIn (Fence.wide.inRound l) n P md ops Q fuel listed a w
 | 0, _, _, _, h => h
 | fuel + 1, _, _, _, h => ⟨h.1, fun i hi => opIn_of_op hnd hQ (fun a' w' h' => anyIn_of_any hnd hQ fuel _ a' w' h') (h.2 i hi)⟩
end
section
variable {P : Program} {ops : Array Oper} {os : List Oper} {Q : Exit → Act → World → Prop} {md : Region.Mode} {S : World → Prop} {k : Nat}
/-- Number k waits for number i. -/
def waits (md : Region.Mode) (ops : Array Oper) (k i : Nat) : Bool := match ops[k]? with
 | none => true
 | some o => o.after.any fun e => Region.binds md e && e.on == i
end
end Go.Proofs.Ytbbnbgllgomolaa