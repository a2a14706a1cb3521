/- A region that draws its order, some of whose operations turn what others read: they wait for them. No program in sight. -/
/- A number of another sign is added to one under way: a walk. -/
/- The ratio package's long numbers: length, one, next. -/
/- A range over a function whose iterator keeps state of its own in a cell, and makes memory between two rounds: the rounds say which blocks are theirs. -/
/- RangeSep's law once more: a round that leaves the loop says, too, which blocks are its own. -/
/- RegionE: three operations may come up; and small laws about boxes and rows in one's own range. No program in sight. -/
/- A region that draws its order, in the round of a range over a function, under the wide fence: the plain walk's orders serve. No program in sight. -/
/- RegionE's way through a region that draws its order inside the round of a range over a function. No program in sight. -/
import Derived.Deep.RegionHeld3
import Derived.Deep.MidRow
import Derived.Test.YtmbppgjhdcmckaaDoorBf01
import Derived.ScopeJumps
import Derived.Test.YtmbppgjhdcmckaaDoorBf02
import Derived.RangeFuncNested
import Derived.RangeFuncBound
import Derived.RangeFuncCalls
import Derived.RangeFuncLeaves
import Derived.RangeFuncBox
import Derived.Shelf.Abstract
import Derived.Shelf.RegionOpen
import Derived.OwnWalkIn
import Derived.TacticsInMore
import Derived.LoopNIn
import Derived.LoopIn
import Derived.RegionIn
namespace Go.Proofs.YtmbppgjhdcmckaaDoor
open Go.RowKit
section
variable {P : Program} {ops : Array Oper} {os : List Oper} {Q : Exit → Act → World → Prop} {md : Region.Mode} {S : World → Prop} {E : List Nat}
/-- Whatever order is picked, S holds behind each operation but those of E. -/
def wpAnyE (P : Program) (md : Region.Mode) (ops : Array Oper) (Q : Exit → Act → World → Prop) (S : World → Prop) (E : List Nat) : Nat → Array Bool → Act → World → Prop
 | 0, L, a, w => Region.ready md ops L = [] ∧ Q .normal a w
 | n + 1, L, a, w => (Region.ready md ops L = [] → Q .normal a w) ∧ ∀ i ∈ Region.ready md ops L, wpOp P ops Q i (fun a' w' => (E.contains i = false → S w → S w') ∧ wpAnyE P md ops Q S E n (L.setIfInBounds i true) a' w') a w
theorem any_of_E : ∀ (n : Nat) (L : Array Bool) (a : Act) (w : World), wpAnyE P md ops Q S E n L a w → wpAny P md ops Q n L a w
 | 0, _, _, _, h => h
 | n + 1, _, _, _, h => ⟨h.1, fun i hi => wpOp_mono (fun a' w' h' => any_of_E n _ a' w' h'.2) (h.2 i hi)⟩
/-- Number k waits for number i. -/
def waitsE (md : Region.Mode) (ops : Array Oper) (k i : Nat) : Bool := match ops[k]? with
 | none => true
 | some o => o.after.any fun e => Region.binds md e && e.on == i
theorem not_readyE {L : Array Bool} {i k : Nat} (hw : waitsE md ops k i = true) (hi : i ∈ Region.ready md ops L) : k ∉ Region.ready md ops L := fun hk => by
 obtain ⟨_, o, ho, hall⟩ := mem_ready.1 hk
 have h0 := (mem_ready.1 hi).1
 unfold waitsE at hw
 rw [ho] at hw
 simp only [Array.any_eq_true, Bool.and_eq_true, beq_iff_eq] at hw
 obtain ⟨j, hj, hb, he⟩ := hw
 have h1 := hall _ (Array.getElem_mem hj) hb
 rw [he] at h1
 rcases Nat.lt_or_ge i L.size with h' | h'
 · simp [h'] at h0 h1
   rw [h0] at h1
   cases h1
 · simp [Array.getElem?_eq_none h'] at h1
theorem not_afterE {L : Array Bool} {i j : Nat} {oj : Oper} (hoj : ops[j]? = some oj) (hr : i ∈ Region.ready md ops L) (hj : j ∈ Region.ready md ops L) : ∀ e ∈ oj.after, Region.binds md e = true → e.on ≠ i := fun e he hb heq => by
 refine not_readyE (k := j) (md := md) (ops := ops) ?_ hr hj
 unfold waitsE
 rw [hoj]
 obtain ⟨m, hm, hme⟩ := Array.getElem_of_mem he
 simp only [Array.any_eq_true, Bool.and_eq_true, beq_iff_eq]
 exact ⟨m, hm, by rw [hme]; exact hb, by rw [hme]; exact heq⟩
theorem firstE {i : Nat} {oi : Oper} {v : Value} (hi : ops[i]? = some oi) (hsel : ∀ (j : Nat) (o : Oper) cs b, ops[j]? = some o → o.op ≠ .select cs b)
  (hw : ∀ k, E.contains k = true → waitsE md ops k i = true)
  (hQ : ∀ c a w, Q (.panic c) (a.put oi.dst v) w → Q (.panic c) a w) :
  ∀ (n : Nat) (L : Array Bool) (a : Act) (w : World),
   (∀ j oj, ops[j]? = some oj → j ≠ i → L.getD j true = false → (∀ e ∈ oj.after, Region.binds md e = true → e.on ≠ i) → oi.apart ops oj = true) →
   i ∈ Region.ready md ops L → YieldsIf P ops S oi v a → S w → wpAnyE P md ops Q S E n (L.setIfInBounds i true) (a.put oi.dst v) w → wpAnyE P md ops Q S E (n + 1) L a w := by
 intro n
 induction n with
 | zero =>
  intro L a w _ hr hy hS H
  refine ⟨fun h => (by rw [h] at hr; cases hr), fun j hj => ?_⟩
  by_cases hji : j = i
  · subst hji
    exact hy.wpOp hi hS ⟨fun _ h => h, H⟩
  · have := ready_mono hj hji
    rw [H.1] at this
    cases this
 | succ n ih =>
  intro L a w hfree hr hy hS H
  refine ⟨fun h => (by rw [h] at hr; cases hr), fun j hj => ?_⟩
  by_cases hji : j = i
  · subst hji
    exact hy.wpOp hi hS ⟨fun _ h => h, H⟩
  · have h1 := H.2 j (ready_mono hj hji)
    obtain ⟨hjun, oj, hoj, hall⟩ := mem_ready.1 hj
    have hnot := not_afterE hoj hr hj
    have h2 := wpOp_putIf hoj (hfree j oj hoj hji hjun hnot) (fun cs b => hsel i oi cs b hi) (fun cs b => hsel j oj cs b hoj) hQ hy h1
    have hjk : E.contains j = false := by
     cases hc : E.contains j
     · rfl
     · exact absurd hj (not_readyE (hw j hc) hr)
    refine wpOp_mono (fun a' w' h3 => ⟨h3.2.1, ih (L.setIfInBounds j true) a' w' (fun m om hm hmi hun hno => ?_) (ready_mono hr (Ne.symm hji)) h3.1 (h3.2.1 hjk hS) ?_⟩) h2
    · refine hfree m om hm hmi ?_ hno
      by_cases hjm : j = m
      · subst hjm
        exact hjun
      · rw [getD_set_ne true hjm] at hun
        exact hun
    · rw [Array.setIfInBounds_comm _ _ hji]
      exact h3.2.2
theorem firstT {i : Nat} {oi : Oper} {v : Value} (hi : ops[i]? = some oi) (hsel : ∀ (j : Nat) (o : Oper) cs b, ops[j]? = some o → o.op ≠ .select cs b)
  (hQ : ∀ c a w, Q (.panic c) (a.put oi.dst v) w → Q (.panic c) a w) :
  ∀ (n : Nat) (L : Array Bool) (a : Act) (w : World),
   (∀ j oj, ops[j]? = some oj → j ≠ i → L.getD j true = false → (∀ e ∈ oj.after, Region.binds md e = true → e.on ≠ i) → oi.apart ops oj = true) →
   i ∈ Region.ready md ops L → YieldsIf P ops (fun _ => True) oi v a → wpAnyE P md ops Q S E n (L.setIfInBounds i true) (a.put oi.dst v) w → wpAnyE P md ops Q S E (n + 1) L a w := by
 intro n
 induction n with
 | zero =>
  intro L a w _ hr hy H
  refine ⟨fun h => (by rw [h] at hr; cases hr), fun j hj => ?_⟩
  by_cases hji : j = i
  · subst hji
    exact hy.wpOp hi trivial ⟨fun _ h => h, H⟩
  · have := ready_mono hj hji
    rw [H.1] at this
    cases this
 | succ n ih =>
  intro L a w hfree hr hy H
  refine ⟨fun h => (by rw [h] at hr; cases hr), fun j hj => ?_⟩
  by_cases hji : j = i
  · subst hji
    exact hy.wpOp hi trivial ⟨fun _ h => h, H⟩
  · have h1 := H.2 j (ready_mono hj hji)
    obtain ⟨hjun, oj, hoj, hall⟩ := mem_ready.1 hj
    have hnot := not_afterE hoj hr hj
    have h2 := wpOp_putIf hoj (hfree j oj hoj hji hjun hnot) (fun cs b => hsel i oi cs b hi) (fun cs b => hsel j oj cs b hoj) hQ hy h1
    refine wpOp_mono (fun a' w' h3 => ⟨h3.2.1, ih (L.setIfInBounds j true) a' w' (fun m om hm hmi hun hno => ?_) (ready_mono hr (Ne.symm hji)) h3.1 ?_⟩) h2
    · refine hfree m om hm hmi ?_ hno
      by_cases hjm : j = m
      · subst hjm
        exact hjun
      · rw [getD_set_ne true hjm] at hun
        exact hun
    · rw [Array.setIfInBounds_comm _ _ hji]
      exact h3.2.2
/-- A read: it may be taken first. -/
theorem readE {i n : Nat} {oi : Oper} {v : Value} {listed L : Array Bool} {a : Act} {w : World} (hi : os[i]? = some oi) (hL : listed.setIfInBounds i true = L)
  (hs : Region.noSelect os.toArray = true) (hf : (Region.free md os.toArray listed i && E.all fun k => waitsE md os.toArray k i) = true) (hr : (Region.ready md os.toArray listed).contains i = true)
  (hQ : ∀ c a w, Q (.panic c) (a.put oi.dst v) w → Q (.panic c) a w) (hS : S w) (hw : Region.wanted oi (yielded os.toArray a.tmps) = true) (hy : ∀ w, S w → (execOp a.eval oi).run P w = .ok (.value v) w)
  (h : wpAnyE P md os.toArray Q S E n L (a.put oi.dst v) w) : wpAnyE P md os.toArray Q S E (n + 1) listed a w := by
 rw [Bool.and_eq_true] at hf
 have hi' : os.toArray[i]? = some oi := by simpa using hi
 exact firstE hi' (Region.noSelect_spec hs) (fun k hk => List.all_eq_true.1 hf.2 k (by simpa using hk)) hQ n listed a w (Region.free_spec hi' hf.1) (by simpa using hr) (Or.inl ⟨hw, hy⟩) hS (hL ▸ h)
/-- What yields one value in whatever world: it may be taken first. -/
theorem pureE {i n : Nat} {oi : Oper} {v : Value} {listed L : Array Bool} {a : Act} {w : World} (hi : os[i]? = some oi) (hL : listed.setIfInBounds i true = L)
  (hs : Region.noSelect os.toArray = true) (hf : Region.free md os.toArray listed i = true) (hr : (Region.ready md os.toArray listed).contains i = true)
  (hQ : ∀ c a w, Q (.panic c) (a.put oi.dst v) w → Q (.panic c) a w) (hw : Region.wanted oi (yielded os.toArray a.tmps) = true) (hy : ∀ w, (execOp a.eval oi).run P w = .ok (.value v) w)
  (h : wpAnyE P md os.toArray Q S E n L (a.put oi.dst v) w) : wpAnyE P md os.toArray Q S E (n + 1) listed a w := by
 have hi' : os.toArray[i]? = some oi := by simpa using hi
 exact firstT hi' (Region.noSelect_spec hs) hQ n listed a w (Region.free_spec hi' hf) (by simpa using hr) (Or.inl ⟨hw, fun w _ => hy w⟩) (hL ▸ h)
/-- pureE with what goes by itself. -/
theorem zE (i : Nat) (L : Array Bool) (v : Value) {n : Nat} {oi : Oper} {listed : Array Bool} {a : Act} {w : World} (hi : os[i]? = some oi) (hy : ∀ w, (execOp a.eval oi).run P w = .ok (.value v) w)
  (h : wpAnyE P md os.toArray Q S E n L (a.put oi.dst v) w) (hL : listed.setIfInBounds i true = L := by rfl)
  (hs : Region.noSelect os.toArray = true := by kernel_rfl) (hf : Region.free md os.toArray listed i = true := by kernel_rfl) (hr : (Region.ready md os.toArray listed).contains i = true := by kernel_rfl)
  (hQ : ∀ c a w, Q (.panic c) (a.put oi.dst v) w → Q (.panic c) a w := by exact fun _ _ _ h => h) (hw : Region.wanted oi (yielded os.toArray a.tmps) = true := by rfl) : wpAnyE P md os.toArray Q S E (n + 1) listed a w := pureE hi hL hs hf hr hQ hw hy h
/-- One alone may come up: it is carried out. -/
theorem stepE {i n : Nat} {oi : Oper} {listed L : Array Bool} {a : Act} {w : World} (hi : os[i]? = some oi) (hL : listed.setIfInBounds i true = L)
  (hr : Region.ready md os.toArray listed = [i]) (hw : Region.wanted oi (yielded os.toArray a.tmps) = true)
  (h : Oper.wp P oi a w (fun a' w' => (E.contains i = false → S w → S w') ∧ wpAnyE P md os.toArray Q S E n L a' w') Q) :
  wpAnyE P md os.toArray Q S E (n + 1) listed a w := by
 subst hL
 refine ⟨fun h0 => (by rw [hr] at h0; cases h0), fun j hj => ?_⟩
 rw [hr] at hj
 obtain rfl := List.mem_singleton.1 hj
 refine wpOp_step (by simpa using hi) (fun K' hK => ?_)
 rw [if_pos hw]
 exact Oper.wp_mono (fun a' w' h' => hK a' w' h') h
/-- The same, what follows under a name. -/
theorem stepK {i n : Nat} {oi : Oper} {listed L : Array Bool} {a : Act} {w : World} (hi : os[i]? = some oi) (hL : listed.setIfInBounds i true = L)
  (hr : Region.ready md os.toArray listed = [i]) (hw : Region.wanted oi (yielded os.toArray a.tmps) = true)
  (h : ∀ K' : Act → World → Prop, Shut (∀ a w', ((E.contains i = false → S w → S w') ∧ wpAnyE P md os.toArray Q S E n L a w') → K' a w') → Oper.wp P oi a w K' Q) :
  wpAnyE P md os.toArray Q S E (n + 1) listed a w := by
 subst hL
 refine ⟨fun h0 => (by rw [hr] at h0; cases h0), fun j hj => ?_⟩
 rw [hr] at hj
 obtain rfl := List.mem_singleton.1 hj
 refine wpOp_step (by simpa using hi) (fun K' hK => ?_)
 rw [if_pos hw]
 exact h K' hK
/-- Two may come up: whichever. -/
theorem stepK2 {i j n : Nat} {oi oj : Oper} {listed Li Lj : Array Bool} {a : Act} {w : World} (hi : os[i]? = some oi) (hj : os[j]? = some oj) (hLi : listed.setIfInBounds i true = Li) (hLj : listed.setIfInBounds j true = Lj)
  (hr : Region.ready md os.toArray listed = [i, j]) (hwi : Region.wanted oi (yielded os.toArray a.tmps) = true) (hwj : Region.wanted oj (yielded os.toArray a.tmps) = true)
  (h : ∀ K' : Act → World → Prop, Shut (∀ a w', ((E.contains i = false → S w → S w') ∧ wpAnyE P md os.toArray Q S E n Li a w') → K' a w') → Oper.wp P oi a w K' Q)
  (h' : ∀ K' : Act → World → Prop, Shut (∀ a w', ((E.contains j = false → S w → S w') ∧ wpAnyE P md os.toArray Q S E n Lj a w') → K' a w') → Oper.wp P oj a w K' Q) :
  wpAnyE P md os.toArray Q S E (n + 1) listed a w := by
 subst hLi
 subst hLj
 refine ⟨fun h0 => (by rw [hr] at h0; cases h0), fun m hm => ?_⟩
 rw [hr] at hm
 simp only [List.mem_cons, List.not_mem_nil, or_false] at hm
 rcases hm with rfl | rfl
 · refine wpOp_step (by simpa using hi) (fun K' hK => ?_)
   rw [if_pos hwi]
   exact h K' hK
 · refine wpOp_step (by simpa using hj) (fun K' hK => ?_)
   rw [if_pos hwj]
   exact h' K' hK
/-- An operation whose run is known. -/
theorem wp_of_run {o : Oper} {a : Act} {w w' : World} {v : Value} {K : Act → World → Prop} (h : (execOp a.eval o).run P w = .ok (.value v) w') (hK : K (a.put o.dst v) w') : o.wp P a w K Q := by
 unfold Oper.wp
 rw [h]
 exact hK
theorem doneE {L : Array Bool} {a : Act} {w : World} (hr : Region.ready md ops L = []) (h : Q .normal a w) : ∀ n, wpAnyE P md ops Q S E n L a w
 | 0 => ⟨hr, h⟩
 | _ + 1 => ⟨fun _ => h, by rw [hr]; simp⟩
theorem region_E (S : World → Prop) (E : List Nat) {id m : Nat} {L : Array Bool} {a : Act} {w : World} (hm : P.follows .mixedOrders = true) (hsz : os.length = m) (hL : Array.replicate m false = L)
  (h : wpAnyE P .any os.toArray Q S E m L a w.drew) : (Code.region id os.toArray true).wp P Q a w := by
 subst hsz
 subst hL
 exact wp_region_any hm (any_of_E _ _ _ _ h)
end
/-- A load of a whole row. -/
theorem exec_load_mid {P : Program} {op : Oper} {ev : Operand → Value} {w : World} (ty : TypeId) (x : Operand) (ho : op.op = .load ty x)
  (b o : Nat) (hx : ev x = .pointer (some ⟨b, o, none⟩)) (cs : List Value) (d : TypeDesc) (hc : w.rangeAt b o cs)
  (hu : P.underlying ty = some d) (hd : d.isRow = true) (hi : (P.info? ty).map (·.size) = some cs.length) : (execOp ev op).run P w = .ok (.value (.agg cs.toArray)) w := by
 unfold execOp
 simp only [ho, hx, Instr.loadAt, Instr.sureAddr, Sem.run_bind, Sem.run_pure, Result.andThen_ok, run_loadVar_mid w b o ty cs d hc hu hd hi]
end Go.Proofs.YtmbppgjhdcmckaaDoor
namespace Go.Proofs.YtmbppgjhdcmckaaDoor
open Go.RowKit
namespace Dy
open Dp
theorem row_range {w : World} {g o : Nat} {ws : List Int} (h : Row w g o ws) : w.rangeAt g o (ws.map (Value.int .u32)) := fun j v hv => by
 have hj : j < 74 := by
  have := h.len
  rcases Nat.lt_or_ge j 74 with h' | h'
  · exact h'
  · rw [List.getElem?_eq_none (by simp; omega)] at hv
    cases hv
 rw [h.cell j hj]
 have hl : j < ws.length := by rw [h.len]; exact hj
 rw [List.getElem?_map, List.getElem?_eq_getElem hl] at hv
 rw [List.getElem?_eq_getElem hl]
 exact hv
theorem row_there {w : World} {g o n : Nat} {ws : List Int} (h : Row w g o ws) (hn : n = 74) : w.there g o n := fun j hj => by
 subst hn
 exact ⟨by rw [h.cell j hj]; rfl, h.free j hj⟩
theorem setCells_other (b k : Nat) : ∀ (vs : List Value) (o : Nat) (w : World), k ≠ b → (w.setCells b o vs).heap[k]? = w.heap[k]?
 | [], _, _, _ => rfl
 | v :: r, o, w, h => by
  rw [World.setCells, setCells_other b k r (o + 1) _ h]
  exact heap_setCell_other _ _ _ _ h
theorem setCells_row {b : Nat} {t : TypeId} : ∀ (vs old A : List Value) (w : World), old.length = vs.length → w.heap[b]? = some (.cells (A ++ old).toArray t (0, 0)) →
  (w.setCells b A.length vs).heap[b]? = some (.cells (A ++ vs).toArray t (0, 0))
 | [], old, A, w, hl, h => by
  have : old = [] := List.eq_nil_of_length_eq_zero hl
  subst this
  exact h
 | v :: vs, [], A, w, hl, h => by simp at hl
 | v :: vs, u :: old, A, w, hl, h => by
  rw [World.setCells]
  have h1 := heap_setCell_same w b A.length _ _ v h
  have e1 : ((A ++ u :: old).toArray.setIfInBounds A.length v) = ((A ++ [v]) ++ old).toArray := by
   simp
  rw [e1] at h1
  have ih := setCells_row vs old (A ++ [v]) _ (by simpa using hl) h1
  simpa using ih
theorem OnlyAt.setCells {g : Nat} {a : World} {b : Nat} (hb : b = g ∨ a.heap.size ≤ b) : ∀ (vs : List Value) (o : Nat) {w : World}, OnlyAt g a w → OnlyAt g a (w.setCells b o vs)
 | [], _, _, h => h
 | v :: r, o, w, h => by
  rw [World.setCells]
  refine OnlyAt.setCells hb r (o + 1) ?_
  rcases hb with rfl | hb
  · exact h.setCell v
  · exact h.setFar hb o v
theorem Sum.swap {w : World} {g : Nat} {s : Bool} {L : Value} {ex : Int} {ws us : List Int} (h : Sum w g s L ex ws) (hl : us.length = 74) (hd : Dig 4294967296 us) : Sum (w.setCells g 3 (rowU us).toList) g s L ex us := by
 refine ⟨?_, hl, hd⟩
 have h0 : w.heap[g]? = some (.cells ([.bool s, L, .int .i64 ex] ++ ws.map (Value.int .u32)).toArray 69 (0, 0)) := by
  rw [h.blk]
  simp [rowU]
 have h1 := setCells_row (rowU us).toList (ws.map (Value.int .u32)) [.bool s, L, .int .i64 ex] w (by simp [rowU, hl, h.len]) h0
 refine h1.trans ?_
 simp [rowU]
theorem Sum.sign {w : World} {g : Nat} {s : Bool} {L : Value} {ex : Int} {ws : List Int} (h : Sum w g s L ex ws) (t : Bool) : Sum (w.setCell ⟨g, 0, none⟩ (.bool t)) g t L ex ws :=
 ⟨by rw [heap_setCell_same w g _ _ _ _ h.blk]; congr 2; apply Array.ext'; simp, h.len, h.dig⟩
theorem borrow_ex (x y c : Nat) (hx : x < 4294967296) (hy : y < 4294967296) (hc : c ≤ 1) : ∃ d b, d < 4294967296 ∧ b ≤ 1 ∧ x + 4294967296 * b = d + y + c := by
 by_cases h : x < y + c
 · exact ⟨x + 4294967296 - y - c, 1, by omega, by omega, by omega⟩
 · exact ⟨x - y - c, 0, by omega, by omega, by omega⟩
theorem wide_range {w : World} {g : Nat} {ws : List Int} (h : Wide w g ws) : w.rangeAt g 0 (ws.map (Value.int .u32)) := row_range h.row
set_option maxHeartbeats 3200000 in
set_option maxRecDepth 100000 in
/-- (*dyad.sum).add: numbers of unlike signs, the first one less. -/
theorem add_less (w : World) (g : Nat) (s t : Bool) (hst : s ≠ t) (L : Value) (ex : Int) (ws us : List Int) (hS : Sum w g s L ex ws) (hg : g < w.heap.size) (hul : us.length = 74) (hud : Dig 4294967296 us) (hlt : num 4294967296 ws < num 4294967296 us) :
  Calls Tryd.prog 26 #[.pointer (some ⟨g, 0, none⟩), .bool t, .agg (rowU us)] w fun e w' => e = .returned (.tuple #[]) ∧ OnlyAt g w w' ∧ ∃ vs, Sum w' g t L ex vs ∧ num 4294967296 vs = num 4294967296 us - num 4294967296 ws := by
 have HLT := Lib.hid hlt
 have hbl : decide (num 4294967296 ws < num 4294967296 us) = true := by simpa using hlt
 have HBL := Lib.hid hbl
 have hW : Wide (w.alloc (.cells (rowU us) 66)) w.heap.size us := ⟨heap_alloc_last _ _, hul, hud⟩
 have hS1 := hS.of_heap (w' := w.alloc (.cells (rowU us) 66)) (Below.heap_alloc _ _ _ hg)
 have hO := (OnlyAt.refl g w).alloc (.cells (rowU us) 66)
 obtain ⟨q0, q1, q2⟩ := hS1.head
 have hne : (t == s) = false := by simpa using Ne.symm hst
 clear hlt hbl
 go_enter Tryd.func26, Tryd.ntmps26
 go_wp2_with fail
 apply wp_scope_jumps 0 (fun a' w' => a' = _ ∧ w' = _) (fun _ _ => 0) rfl
 · go_wp2_with fail
   go_step3
   exact ⟨rfl, rfl, rfl⟩
 · rintro a' w' ⟨rfl, rfl⟩
   go_wp2_with fail
   refine (below_any _ g 3 w.heap.size 0 ws us hS1.row hW.row true HBL.out).mono ?_
   rintro e w1 ⟨rfl, m, rfl⟩
   go_wp2_with fail
   have hS2 := hS1.of_heap (w' := (w.alloc (.cells (rowU us) 66)).drewN m) rfl
   have hW2 := hW.of_heap (w' := (w.alloc (.cells (rowU us) 66)).drewN m) rfl
   have hO2 := hO.drewN m
   generalize (w.alloc (.cells (rowU us) 66)).drewN m = w2 at *
   have hI := Lib.hid (zero_of_info Tryd.info66).2
   have hR2 := Lib.hid hS2.row
   have hwl := Lib.hid hS.len
   have hT : w2.drew.heap[g]? = w2.heap[g]? ∧ w2.drew.heap[w.heap.size]? = w2.heap[w.heap.size]? := ⟨rfl, rfl⟩
   refine region_E (fun w' => w'.heap[g]? = w2.heap[g]? ∧ w'.heap[w.heap.size]? = w2.heap[w.heap.size]?) [10, 11, 15] (m := 16) (L := #[zF,zF,zF,zF,zF,zF,zF,zF,zF,zF,zF,zF,zF,zF,zF,zF]) (by kernel_rfl) (by rfl) (by rfl) ?_
   refine zE 0 #[zT,zF,zF,zF,zF,zF,zF,zF,zF,zF,zF,zF,zF,zF,zF,zF] ?_ rfl ?hy1 ?rest1
   case hy1 => intro w; go_simp; (try with_reducible rfl)
   try simp only [Act.put, zp]
   refine zE 1 #[zT,zT,zF,zF,zF,zF,zF,zF,zF,zF,zF,zF,zF,zF,zF,zF] ?_ rfl ?hy2 ?rest2
   case hy2 => intro w; go_simp; (try with_reducible rfl)
   try simp only [Act.put, zp]
   refine zE 3 #[zT,zT,zF,zT,zF,zF,zF,zF,zF,zF,zF,zF,zF,zF,zF,zF] ?_ rfl ?hy3 ?rest3
   case hy3 => intro w; go_simp; (try with_reducible rfl)
   try simp only [Act.put, zp]
   refine zE 7 #[zT,zT,zF,zT,zF,zF,zF,zT,zF,zF,zF,zF,zF,zF,zF,zF] ?_ rfl ?hy4 ?rest4
   case hy4 => intro w; go_simp; (try with_reducible rfl)
   try simp only [Act.put, zp]
   refine zE 4 #[zT,zT,zF,zT,zT,zF,zF,zT,zF,zF,zF,zF,zF,zF,zF,zF] ?_ rfl ?hy5 ?rest5
   case hy5 => intro w; go_simp; (try with_reducible rfl)
   try simp only [Act.put, zp]
   refine zE 5 #[zT,zT,zF,zT,zT,zT,zF,zT,zF,zF,zF,zF,zF,zF,zF,zF] ?_ rfl ?hy6 ?rest6
   case hy6 => intro w; go_simp; (try with_reducible rfl)
   try simp only [Act.put, zp]
   refine readE (i := 2) (L := #[zT,zT,zT,zT,zT,zT,zF,zT,zF,zF,zF,zF,zF,zF,zF,zF]) (v := .agg (rowU us)) rfl (by rfl) (by kernel_rfl) (by kernel_rfl) (by kernel_rfl) (fun _ _ _ h => h) (by assumption) (by rfl) ?hyA ?restA
   case hyA =>
    rintro w' ⟨_, h2⟩
    exact exec_load_mid 66 (.tmp 5) (by rfl) w.heap.size 0 (by rfl) (us.map (Value.int .u32)) (.array 74 55) (wide_range (hW2.of_heap h2)) Tryd.underlying66 (by rfl) (by rw [hI.out]; simp [hul])
   try simp only [Act.put, zp]
   refine readE (i := 6) (L := #[zT,zT,zT,zT,zT,zT,zT,zT,zF,zF,zF,zF,zF,zF,zF,zF]) (v := .agg (rowU ws)) rfl (by rfl) (by kernel_rfl) (by kernel_rfl) (by kernel_rfl) (fun _ _ _ h => h) (by assumption) (by rfl) ?hyB ?restB
   case hyB =>
    rintro w' ⟨h1, _⟩
    exact exec_load_mid 66 (.tmp 48) (by rfl) g 3 (by rfl) (ws.map (Value.int .u32)) (.array 74 55) (row_range (hS2.of_heap h1).row) Tryd.underlying66 (by rfl) (by rw [hI.out]; simp [hwl.out])
   try simp only [Act.put, zp]
   refine zE 8 #[zT,zT,zT,zT,zT,zT,zT,zT,zT,zF,zF,zF,zF,zF,zF,zF] ?_ rfl ?hy9 ?rest9
   case hy9 => intro w; go_simp; (try with_reducible rfl)
   try simp only [Act.put, zp]
   refine zE 9 #[zT,zT,zT,zT,zT,zT,zT,zT,zT,zT,zF,zF,zF,zF,zF,zF] ?_ rfl ?hy10 ?rest10
   case hy10 => intro w; go_simp; (try with_reducible rfl)
   try simp only [Act.put, zp]
   refine stepE (i := 10) (L := #[zT,zT,zT,zT,zT,zT,zT,zT,zT,zT,zT,zF,zF,zF,zF,zF]) rfl (by rfl) (by kernel_rfl) (by rfl) ?_
   refine wp_store_mid 66 (.tmp 52) (.tmp 45) rfl g 3 (rowU us) rfl rfl (row_there (hS2.of_heap hT.1).row (by rw [rowU_size, hul])) (by rw [hI.out, rowU_size, hul]) (rowU_one us) ⟨fun h => absurd h (by decide), ?_⟩
   try simp only [Act.put]
   have hS3 := (hS2.of_heap (w' := w2.drew) rfl).swap hul hud
   have hO3 := OnlyAt.setCells (b := g) (.inl rfl) (rowU us).toList 3 hO2.drew
   have hW3 := hW2.of_heap (w' := w2.drew.setCells g 3 (rowU us).toList) (setCells_other _ _ _ _ _ (by omega))
   generalize w2.drew.setCells g 3 (rowU us).toList = w3 at *
   refine stepE (i := 11) (L := #[zT,zT,zT,zT,zT,zT,zT,zT,zT,zT,zT,zT,zF,zF,zF,zF]) rfl (by rfl) (by kernel_rfl) (by rfl) ?_
   refine wp_store_row 66 (.tmp 5) (.tmp 49) rfl w.heap.size (rowU ws) rfl rfl _ _ hW3.blk (by rw [hI.out, rowU_size, hwl.out]) (by rw [rowU_size, rowU_size, hul, hwl.out]) (rowU_one ws) ⟨fun h => absurd h (by decide), ?_⟩
   try simp only [Act.put]
   have hS4 := hS3.of_heap (w' := w3.setRow w.heap.size (rowU ws)) (setRow_other _ _ _ _ (by omega))
   have hO4 := hO3.setRow (k := w.heap.size) (.inr (Nat.le_refl _)) (rowU ws)
   have hW4 : Wide (w3.setRow w.heap.size (rowU ws)) w.heap.size ws := ⟨setRow_heap _ _ _ _ _ _ hW3.blk, hwl.out, hS.dig⟩
   generalize w3.setRow w.heap.size (rowU ws) = w4 at *
   refine zE 12 #[zT,zT,zT,zT,zT,zT,zT,zT,zT,zT,zT,zT,zT,zF,zF,zF] ?_ rfl ?hy13 ?rest13
   case hy13 => intro w; go_simp; (try with_reducible rfl)
   try simp only [Act.put, zp]
   refine zE 13 #[zT,zT,zT,zT,zT,zT,zT,zT,zT,zT,zT,zT,zT,zT,zF,zF] ?_ rfl ?hy14 ?rest14
   case hy14 => intro w; go_simp; (try with_reducible rfl)
   try simp only [Act.put, zp]
   refine zE 14 #[zT,zT,zT,zT,zT,zT,zT,zT,zT,zT,zT,zT,zT,zT,zT,zF] ?_ rfl ?hy15 ?rest15
   case hy15 => intro w; go_simp; (try with_reducible rfl)
   try simp only [Act.put, zp]
   obtain ⟨k1, k2, k3⟩ := hS4.head
   have k4 := hS4.free 0
   refine stepK (i := 15) (L := #[zT,zT,zT,zT,zT,zT,zT,zT,zT,zT,zT,zT,zT,zT,zT,zT]) rfl (by rfl) (by kernel_rfl) (by rfl) (fun K hK => ?_)
   go_simp
   refine hK _ _ ⟨fun h => absurd h (by decide), doneE (by kernel_rfl) ?_ _⟩
   clear hK K
   have hS5 := hS4.sign t
   have hW5 := hW4.of_heap (w' := w4.setCell ⟨g, 0, none⟩ (.bool t)) (heap_setCell_other _ _ _ _ (by simp; omega))
   have hO5 := hO4.setCell (o := 0) (.bool t)
   generalize w4.setCell ⟨g, 0, none⟩ (.bool t) = w5 at *
   clear hT hR2 hS1 hS2 hS3 hS4 hW hW2 hW3 hW4 hO hO2 hO3 hO4 q0 q1 q2 k1 k2 k3 k4
   go_wp2_with fail
   go_loopw [6, 8, 56] (fun cv _ iv wr => ∃ i c : Nat, ∃ cur : List Int, cv = .int .u32 c ∧ iv = .int .i64 i ∧ c ≤ 1 ∧ i ≤ 74 ∧ Sum wr g t L ex cur ∧ Wide wr w.heap.size ws ∧ OnlyAt g w wr ∧ Hid (cur.drop i = us.drop i) ∧ Hid (num 4294967296 (us.take i) + 4294967296 ^ i * c = num 4294967296 (cur.take i) + num 4294967296 (ws.take i))) (fun _ _ iv _ => 74 - (intOf iv).toNat)
   case atStart => exact ⟨0, 0, us, rfl, rfl, by omega, by omega, hS5, hW5, hO5, rfl, by simp [Hid, num]⟩
   case round =>
    obtain ⟨i, cc, cur, rfl, rfl, hc1, hi, hSr, hWr, hOr, hdrop, hnum⟩ := hrel
    by_cases hlt : i < 74
    · obtain ⟨x, hx, hx2⟩ := dig_get (by decide) hSr.dig i
      obtain ⟨y, hy, hy2⟩ := dig_get (by decide) hWr.dig i
      have c1 := hSr.row.cell i hlt
      have c2 := hWr.cell hlt
      have f1 := hSr.free (3 + i)
      rw [hx] at c1
      rw [hy] at c2
      have hk0 : (0 : Int) ≤ i := by omega
      have hk1 : (i : Int) < 74 := by omega
      have HX := Lib.hid hx
      have HY := Lib.hid hy
      clear hx hy
      obtain ⟨d, b, hd, hb, hdb⟩ := borrow_ex x y cc hx2 hy2 hc1
      have HD := Lib.hid hdb
      clear hdb
      go_wp2
      go_region_law (first
       | (go_simp; go_at_call 45; refine (Sub32_any _ x y cc d b hx2 hy2 hd hc1 hb HD.out).mono ?_; rintro e w' ⟨rfl, rfl⟩))
      all_goals go_wp2
      all_goals go_roundw
      all_goals first
       | exact ⟨i + 1, b, cur.set i (d : Int), rfl, by go_num, hb, by omega, (hSr.set i d hd).of_heap rfl, (hWr.of_heap (heap_setCell_other _ _ _ _ (by simp; omega))).of_heap rfl, (hOr.setCell _).drew,
         drop_on (by rw [hSr.len]; exact hlt) hdrop.out, by rw [Hid]; exact diff_law (by rw [hSr.len]; exact hlt) hnum.out ((drop_at hdrop.out).symm.trans HX.out) HY.out HD.out⟩
       | (simp [intOf]; omega)
    · obtain rfl : i = 74 := by omega
      have hend := diff_end (by decide) hSr.dig hSr.len hul hwl.out hnum.out (Nat.le_of_lt HLT.out)
      have HE := Lib.hid hend
      clear hend hnum hdrop
      go_wp2_with fail
      show Exit.jump _ _ _ _ _ _
      simp only [Exit.jump]
      refine bodyPost_end (results_none rfl _ _ _) rfl ?_
      exact ⟨rfl, hOr, cur, hSr, HE.out⟩
set_option maxHeartbeats 3200000 in
set_option maxRecDepth 100000 in
/-- (*dyad.sum).add: numbers of unlike signs, the first one not less. -/
theorem add_more (w : World) (g : Nat) (s t : Bool) (hst : s ≠ t) (L : Value) (ex : Int) (ws us : List Int) (hS : Sum w g s L ex ws) (hg : g < w.heap.size) (hul : us.length = 74) (hud : Dig 4294967296 us) (hle : num 4294967296 us ≤ num 4294967296 ws) :
  Calls Tryd.prog 26 #[.pointer (some ⟨g, 0, none⟩), .bool t, .agg (rowU us)] w fun e w' => e = .returned (.tuple #[]) ∧ OnlyAt g w w' ∧ ∃ vs, Sum w' g s L ex vs ∧ num 4294967296 vs = num 4294967296 ws - num 4294967296 us := by
 have HLE := Lib.hid hle
 have hbl : decide (num 4294967296 ws < num 4294967296 us) = false := by simpa using hle
 have HBL := Lib.hid hbl
 have hW : Wide (w.alloc (.cells (rowU us) 66)) w.heap.size us := ⟨heap_alloc_last _ _, hul, hud⟩
 have hS1 := hS.of_heap (w' := w.alloc (.cells (rowU us) 66)) (Below.heap_alloc _ _ _ hg)
 have hO := (OnlyAt.refl g w).alloc (.cells (rowU us) 66)
 obtain ⟨q0, q1, q2⟩ := hS1.head
 have hne : (t == s) = false := by simpa using Ne.symm hst
 clear hle hbl
 go_enter Tryd.func26, Tryd.ntmps26
 go_wp2_with fail
 apply wp_scope_jumps 0 (fun a' w' => a' = _ ∧ w' = _) (fun _ _ => 0) rfl
 · go_wp2_with fail
   go_step3
   exact ⟨rfl, rfl, rfl⟩
 · rintro a' w' ⟨rfl, rfl⟩
   go_wp2_with fail
   refine (below_any _ g 3 w.heap.size 0 ws us hS1.row hW.row false HBL.out).mono ?_
   rintro e w1 ⟨rfl, m, rfl⟩
   go_wp2_with fail
   have hS5 := hS1.of_heap (w' := (w.alloc (.cells (rowU us) 66)).drewN m) rfl
   have hW5 := hW.of_heap (w' := (w.alloc (.cells (rowU us) 66)).drewN m) rfl
   have hO5 := hO.drewN m
   generalize (w.alloc (.cells (rowU us) 66)).drewN m = w2 at *
   clear hS1 hW hO q0 q1 q2
   go_loopw [6, 8, 56] (fun cv _ iv wr => ∃ i c : Nat, ∃ cur : List Int, cv = .int .u32 c ∧ iv = .int .i64 i ∧ c ≤ 1 ∧ i ≤ 74 ∧ Sum wr g s L ex cur ∧ Wide wr w.heap.size us ∧ OnlyAt g w wr ∧ Hid (cur.drop i = ws.drop i) ∧ Hid (num 4294967296 (ws.take i) + 4294967296 ^ i * c = num 4294967296 (cur.take i) + num 4294967296 (us.take i))) (fun _ _ iv _ => 74 - (intOf iv).toNat)
   case atStart => exact ⟨0, 0, ws, rfl, rfl, by omega, by omega, hS5, hW5, hO5, rfl, by simp [Hid, num]⟩
   case round =>
    obtain ⟨i, cc, cur, rfl, rfl, hc1, hi, hSr, hWr, hOr, hdrop, hnum⟩ := hrel
    by_cases hlt : i < 74
    · obtain ⟨x, hx, hx2⟩ := dig_get (by decide) hSr.dig i
      obtain ⟨y, hy, hy2⟩ := dig_get (by decide) hWr.dig i
      have c1 := hSr.row.cell i hlt
      have c2 := hWr.cell hlt
      have f1 := hSr.free (3 + i)
      rw [hx] at c1
      rw [hy] at c2
      have hk0 : (0 : Int) ≤ i := by omega
      have hk1 : (i : Int) < 74 := by omega
      have HX := Lib.hid hx
      have HY := Lib.hid hy
      clear hx hy
      obtain ⟨d, b, hd, hb, hdb⟩ := borrow_ex x y cc hx2 hy2 hc1
      have HD := Lib.hid hdb
      clear hdb
      go_wp2
      go_region_law (first
       | (go_simp; go_at_call 45; refine (Sub32_any _ x y cc d b hx2 hy2 hd hc1 hb HD.out).mono ?_; rintro e w' ⟨rfl, rfl⟩))
      all_goals go_wp2
      all_goals go_roundw
      all_goals first
       | exact ⟨i + 1, b, cur.set i (d : Int), rfl, by go_num, hb, by omega, (hSr.set i d hd).of_heap rfl, (hWr.of_heap (heap_setCell_other _ _ _ _ (by simp; omega))).of_heap rfl, (hOr.setCell _).drew,
         drop_on (by rw [hSr.len]; exact hlt) hdrop.out, by rw [Hid]; exact diff_law (by rw [hSr.len]; exact hlt) hnum.out ((drop_at hdrop.out).symm.trans HX.out) HY.out HD.out⟩
       | (simp [intOf]; omega)
    · obtain rfl : i = 74 := by omega
      have hend := diff_end (by decide) hSr.dig hSr.len hS.len hul hnum.out HLE.out
      have HE := Lib.hid hend
      clear hend hnum hdrop
      go_wp2_with fail
      show Exit.jump _ _ _ _ _ _
      simp only [Exit.jump]
      refine bodyPost_end (results_none rfl _ _ _) rfl ?_
      exact ⟨rfl, hOr, cur, hSr, HE.out⟩
end Dy
end Go.Proofs.YtmbppgjhdcmckaaDoor
namespace Go.Proofs.YtmbppgjhdcmckaaDoor
open Go.RowKit
namespace Dy
open Dp
theorem WideR.of_heap {w w' : World} {g : Nat} {ws : List Int} (h : WideR w g ws) (hh : w'.heap[g]? = w.heap[g]?) : WideR w' g ws := ⟨hh.trans h.blk, h.len, h.dig⟩
theorem WideR.lt {w : World} {g : Nat} {ws : List Int} (h : WideR w g ws) : g < w.heap.size := (Array.getElem?_eq_some_iff.1 h.blk).1
set_option maxHeartbeats 1600000 in
set_option maxRecDepth 100000 in
/-- (*ratio.wide).length. -/
theorem lengthR_any (w : World) (g : Nat) (ws : List Int) (hW : WideR w g ws) :
  Calls Tryd.prog 75 #[.pointer (some ⟨g, 0, none⟩)] w fun e w' => ∃ n : Nat, e = .returned (.int .i64 n) ∧ IsLen (num 4294967296 ws) n ∧ n ≤ 2432 ∧ w' = w := by
 go_enter Tryd.func75, Tryd.ntmps75
 go_wp2
 go_loopw [3] (fun iv wr => ∃ k : Nat, iv = .int .i64 ((k : Int) - 1) ∧ k ≤ 76 ∧ Hid (num 4294967296 (ws.drop k) = 0) ∧ wr = w) (fun iv _ => (intOf iv + 1).toNat)
 case atStart => exact ⟨76, rfl, Nat.le_refl _, by rw [Hid, List.drop_eq_nil_of_le (by rw [hW.len]; exact Nat.le_refl _)]; rfl, rfl⟩
 case round =>
  obtain ⟨k, rfl, hk, h0, rfl⟩ := hrel
  rcases k with _ | k
  · have e0 : num 4294967296 ws = 0 := by simpa using h0.out
    have E0 := Lib.hid e0
    clear e0
    go_wp2
    go_ret
    exact ⟨0, rfl, .inl ⟨E0.out, rfl⟩, by omega, rfl⟩
  · have ej : ((k + 1 : Nat) : Int) - 1 = (k : Int) := by omega
    obtain ⟨x, hx, hx2⟩ := dig_get (by decide) hW.dig k
    have g1 := hW.cell (j := k) (by omega)
    rw [hx] at g1
    rw [ej]
    have hk0 : (0 : Int) ≤ k := by omega
    have hk1 : (k : Int) < 76 := by omega
    have HX := Lib.hid hx
    clear hx ej
    by_cases hx0 : x = 0
    · have hne : ((x : Int) != 0) = false := by simp [hx0]
      have HN := Lib.hid (len_none (by rw [hW.len]; omega) h0.out HX.out hx0)
      clear hx0
      go_wp2
      go_roundw
      case rel => exact ⟨k, rfl, by omega, HN, by first | rfl | trivial⟩
      case measure => first | (simp [intOf]; done) | (simp [intOf]; omega)
    · have hne : ((x : Int) != 0) = true := by simpa using (show ¬ (x : Int) = 0 by omega)
      obtain ⟨y1, y2, y3, y4⟩ := len_bounds x hx0 hx2
      have HN := Lib.hid (len_top hW.dig (by rw [hW.len]; omega) h0.out HX.out y1 y2 y3)
      clear hx0 y2 y3
      go_wp2_with fail
      refine (Len32_any _ x (by omega) (by omega)).mono ?_
      rintro e w2 ⟨rfl, rfl⟩
      rw [Int.toNat_natCast]
      obtain ⟨b, hb⟩ : ∃ b, Lib.bitLen x = b := ⟨_, rfl⟩
      rw [hb] at y1 y4 HN ⊢
      clear hb
      go_wp2
      go_ret
      exact ⟨32 * k + b, by first | (congr 2; done) | (congr 2; push_cast; first | rfl | omega), HN.out, by omega, rfl⟩
set_option maxHeartbeats 3200000 in
set_option maxRecDepth 100000 in
/-- (*ratio.wide).one. -/
theorem oneR_any (w : World) (g : Nat) (ws : List Int) (hW : WideR w g ws) (v : Nat) (hv : num 4294967296 ws + 1 = v) (hlt : v < 4294967296 ^ 76) :
  Calls Tryd.prog 68 #[.pointer (some ⟨g, 0, none⟩)] w fun e w' => e = .returned (.tuple #[]) ∧ OnlyAt g w w' ∧ ∃ vs, WideR w' g vs ∧ num 4294967296 vs = v := by
 have HLT := Lib.hid hlt
 have HV := Lib.hid hv
 clear hlt hv
 go_enter Tryd.func68, Tryd.ntmps68
 go_wp2
 go_loopw [2, 3] (fun _ iv wr => ∃ (i : Nat) (cur : List Int), iv = .int .i64 i ∧ i ≤ 76 ∧ WideR wr g cur ∧ OnlyAt g w wr ∧ Hid (num 4294967296 cur + 4294967296 ^ i = v)) (fun _ iv _ => 76 - (intOf iv).toNat)
 case atStart => exact ⟨0, ws, rfl, by omega, hW, OnlyAt.refl _ _, by rw [Hid, Nat.pow_zero]; exact HV.out⟩
 case round =>
  obtain ⟨i, cur, rfl, hi, hC, hO, hN⟩ := hrel
  by_cases hlt : i < 76
  · obtain ⟨x, hx, hx2⟩ := dig_get (by decide) hC.dig i
    have c1 := hC.cell hlt
    have f1 := hC.free i
    rw [hx] at c1
    have hk0 : (0 : Int) ≤ i := by omega
    have hk1 : (i : Int) < 76 := by omega
    obtain ⟨q1, q2⟩ := one_step (by rw [hC.len]; exact hlt) hx v hN.out
    clear hx
    by_cases hxe : x + 1 = 4294967296
    · have hy : ((x : Int) + 1) % 4294967296 = 0 := by omega
      have Q := Lib.hid (q2 hxe)
      clear q1 q2
      have hC2 := hC.set i 0 (by decide)
      have d1 := hC2.cell (j := i) hlt
      have e1 : (cur.set i ((0 : Nat) : Int))[i]?.getD 0 = 0 := by simp [hC.len, hlt]
      rw [e1] at d1
      clear e1
      go_wp2_with fail
      go_region
      all_goals go_wp2
      all_goals go_roundw
      case rel => exact ⟨i + 1, cur.set i 0, by go_num, by omega, (hC.set i 0 (by decide)).of_heap rfl, (hO.setCell _).drew, Q⟩
      case measure => first | (simp [intOf]; done) | (simp [intOf]; omega)
    · have hy : ((x : Int) + 1) % 4294967296 = ((x + 1 : Nat) : Int) := by omega
      have hyn : (((x + 1 : Nat) : Int) != 0) = true := by simpa using (show ¬ ((x + 1 : Nat) : Int) = 0 by omega)
      have Q := Lib.hid (q1 (by omega))
      clear q1 q2
      go_wp2_with fail
      go_region
      all_goals go_wp2
      all_goals refine bodyPost_ret (results_none rfl _ _ _) rfl ?_
      all_goals exact ⟨rfl, (hO.setCell _).drew, cur.set i ((x + 1 : Nat) : Int), (hC.set i (x + 1) (by omega)).of_heap rfl, Q.out⟩
  · obtain rfl : i = 76 := by omega
    exfalso
    have h1 := hN.out
    have h2 := HLT.out
    generalize 4294967296 ^ 76 = b at *
    omega
/-- Doubled, and one more bit. -/
theorem or_bit (x c : Nat) (_hx : x < 4294967296) (hc : c ≤ 1) : bits .or .u32 ((2 * x % 4294967296 : Nat) : Int) (c : Int) = ((2 * x % 4294967296 + c : Nat) : Int) := by
 rw [u32_or_nat _ _ (by omega) (by omega)]
 have h3 : 2 * x % 4294967296 % 2 ^ 1 = 0 := by omega
 rw [nat_join 1 (2 * x % 4294967296) c h3 (by omega)]
set_option maxHeartbeats 6400000 in
set_option maxRecDepth 100000 in
/-- (*ratio.wide).next. -/
theorem nextR_any (w : World) (g g' : Nat) (hne : g ≠ g') (ws us : List Int) (hW : WideR w g ws) (hU : WideR w g' us) (d : Nat) (hd : d ≤ 1) (s : Nat) (hs : 2 * num 4294967296 ws + d = s) (hlt : s < 4294967296 ^ 76) (q r : Nat) (hq : (if num 4294967296 us ≤ s then 1 else 0) = q) (hr : (if num 4294967296 us ≤ s then s - num 4294967296 us else s) = r) :
  Calls Tryd.prog 78 #[.pointer (some ⟨g, 0, none⟩), .int .u32 d, .pointer (some ⟨g', 0, none⟩)] w fun e w' => e = .returned (.int .u32 q) ∧ OnlyAt g w w' ∧ ∃ vs, WideR w' g vs ∧ num 4294967296 vs = r := by
 have HS := Lib.hid hs
 have HLT := Lib.hid hlt
 have HQ := Lib.hid hq
 have HR := Lib.hid hr
 have hwl := Lib.hid hW.len
 have hul := Lib.hid hU.len
 have hud := Lib.hid hU.dig
 have hlt' := hW.lt
 have hgt' := hU.lt
 clear hs hlt hq hr
 go_enter Tryd.func78, Tryd.ntmps78
 go_wp2
 go_loopw [1, 7, 10] (fun dv _ iv wr => ∃ (i c : Nat) (cur : List Int), dv = .int .u32 c ∧ iv = .int .i64 i ∧ c ≤ 1 ∧ i ≤ 76 ∧ WideR wr g cur ∧ OnlyAt g w wr ∧ Hid (cur.drop i = ws.drop i) ∧ Hid (num 4294967296 (cur.take i) + 4294967296 ^ i * c = 2 * num 4294967296 (ws.take i) + d)) (fun _ _ iv _ => 76 - (intOf iv).toNat)
 case atStart => exact ⟨0, d, ws, rfl, rfl, hd, by omega, hW, OnlyAt.refl _ _, rfl, by simp [Hid, num]⟩
 case round =>
  obtain ⟨i, c, cur, rfl, rfl, hc, hi, hC, hO, hdr, hnm⟩ := hrel
  by_cases hlt : i < 76
  · obtain ⟨x, hx, hx2⟩ := dig_get (by decide) hC.dig i
    have c1 := hC.cell hlt
    have f1 := hC.free i
    rw [hx] at c1
    have hk0 : (0 : Int) ≤ i := by omega
    have hk1 : (i : Int) < 76 := by omega
    obtain ⟨p1, p2, p3⟩ := shl_step (ys := cur) ((drop_at hdr.out).symm.trans hx) hx2 hc hnm.out (by rw [hC.len]; exact hlt)
    have P3 := Lib.hid p3
    have DR := fun v : Int => drop_on (v := v) (by rw [hC.len]; exact hlt) hdr.out
    replace DR := Lib.hid DR
    clear hx p3
    have e2 : (x : Int) / 2147483648 = ((x / 2147483648 : Nat) : Int) := by omega
    have e3 := or_bit x c hx2 hc
    rw [show ((2 * x % 4294967296 : Nat) : Int) = (x : Int) * 2 % 4294967296 by omega] at e3
    obtain ⟨y, hy⟩ : ∃ y, 2 * x % 4294967296 + c = y := ⟨_, rfl⟩
    obtain ⟨t, ht⟩ : ∃ t, x / 2147483648 = t := ⟨_, rfl⟩
    rw [hy] at e3 p1 P3
    rw [ht] at e2 p2 P3
    clear hy ht
    go_wp2_with fail
    go_region
    all_goals go_wp2
    all_goals go_roundw
    case rel => exact ⟨i + 1, t, cur.set i (y : Int), rfl, by go_num, p2, by omega, (hC.set i y p1).of_heap rfl, (hO.setCell _).drew, DR.out _, P3⟩
    case measure => first | (simp [intOf]; done) | (simp [intOf]; omega)
  · obtain rfl : i = 76 := by omega
    have hcs : Hid (num 4294967296 cur = s) := Lib.hid (by
     have h1 := hnm.out
     rw [List.take_of_length_le (by rw [hC.len]; exact Nat.le_refl _), List.take_of_length_le (by rw [hwl.out]; exact Nat.le_refl _), HS.out] at h1
     have h2 := HLT.out
     generalize 4294967296 ^ 76 = b at *
     have hc0 : c = 0 ∨ c = 1 := by omega
     rcases hc0 with rfl | rfl <;> omega)
    clear hdr hnm
    have hU1 : WideR wr g' us := hU.of_heap (hO.block g' hgt' (Ne.symm hne))
    by_cases hle : num 4294967296 us ≤ s
    · have hq1 : q = 1 := by rw [← HQ.out, if_pos hle]
      have hr1 := HR.out
      rw [if_pos hle] at hr1
      subst hq1
      have HR1 := Lib.hid hr1
      have HLE := Lib.hid hle
      have hbl : decide (num 4294967296 cur < num 4294967296 us) = false := by rw [hcs.out]; simpa using hle
      have HBL := Lib.hid hbl
      clear hr1 hle hbl HQ HR
      obtain ⟨w1, hw1⟩ : ∃ W : World, W = wr := ⟨_, rfl⟩
      subst hw1
      go_wp2_with fail
      refine (belowR_any w1 g 0 g' 0 cur us hC.row hU1.row false HBL.out).mono ?_
      rintro e w2 ⟨rfl, m, rfl⟩
      have hC2 := hC.of_heap (w' := w1.drewN m) rfl
      have hU2 := hU1.of_heap (w' := w1.drewN m) rfl
      have hO2 := hO.drewN m
      clear hC hU1 hO
      generalize w1.drewN m = w3 at *
      go_wp2_with fail
      go_loopw [8, 9, 35] (fun cv _ iv wr => ∃ i c : Nat, ∃ now : List Int, cv = .int .u32 c ∧ iv = .int .i64 i ∧ c ≤ 1 ∧ i ≤ 76 ∧ WideR wr g now ∧ WideR wr g' us ∧ OnlyAt g w wr ∧ Hid (now.drop i = cur.drop i) ∧ Hid (num 4294967296 (cur.take i) + 4294967296 ^ i * c = num 4294967296 (now.take i) + num 4294967296 (us.take i))) (fun _ _ iv _ => 76 - (intOf iv).toNat)
      case atStart => exact ⟨0, 0, cur, rfl, rfl, by omega, by omega, hC2, hU2, hO2, rfl, by simp [Hid, num]⟩
      case round =>
       have hcl := Lib.hid hC2.len
       have hcd := Lib.hid hC2.dig
       clear hC2 hU2 hO2
       obtain ⟨i, cc, now, rfl, rfl, hc1, hi, hN, hUr, hOr, hdrop, hnum⟩ := hrel
       by_cases hlt : i < 76
       · obtain ⟨x, hx, hx2⟩ := dig_get (by decide) hN.dig i
         obtain ⟨y, hy, hy2⟩ := dig_get (by decide) hud.out i
         have c1 := hN.cell hlt
         have c2 := hUr.cell hlt
         have f1 := hN.free i
         rw [hx] at c1
         rw [hy] at c2
         have hk0 : (0 : Int) ≤ i := by omega
         have hk1 : (i : Int) < 76 := by omega
         have HX := Lib.hid hx
         have HY := Lib.hid hy
         clear hx hy
         obtain ⟨d2, b, hd2, hb, hdb⟩ := borrow_ex x y cc hx2 hy2 hc1
         have HD := Lib.hid hdb
         clear hdb
         go_wp2
         go_region_law (first
          | (go_simp; go_at_call 45; refine (Sub32_any _ x y cc d2 b hx2 hy2 hd2 hc1 hb HD.out).mono ?_; rintro e w' ⟨rfl, rfl⟩))
         all_goals go_wp2
         all_goals go_roundw
         all_goals first
          | exact ⟨i + 1, b, now.set i (d2 : Int), rfl, by go_num, hb, by omega, (hN.set i d2 hd2).of_heap rfl, (hUr.of_heap (heap_setCell_other _ _ _ _ (by simp; omega))).of_heap rfl, (hOr.setCell _).drew,
            drop_on (by rw [hN.len]; exact hlt) hdrop.out, by rw [Hid]; exact diff_law (by rw [hN.len]; exact hlt) hnum.out ((drop_at hdrop.out).symm.trans HX.out) HY.out HD.out⟩
          | (simp [intOf]; omega)
       · obtain rfl : i = 76 := by omega
         have hend := diff_end (by decide) hN.dig hN.len hcl.out hul.out hnum.out (by rw [hcs.out]; exact HLE.out)
         rw [hcs.out, HR1.out] at hend
         have HE := Lib.hid hend
         clear hend hnum hdrop
         go_wp2
         go_ret
         exact ⟨rfl, hOr, now, hN, HE.out⟩
    · have hq0 : q = 0 := by rw [← HQ.out, if_neg hle]
      have hr1 := HR.out
      rw [if_neg hle] at hr1
      subst hq0
      have HR1 := Lib.hid (hcs.out.trans hr1)
      have hbl : decide (num 4294967296 cur < num 4294967296 us) = true := by rw [hcs.out]; simpa using (show s < num 4294967296 us by omega)
      have HBL := Lib.hid hbl
      clear hr1 hle hbl HQ HR
      go_wp2_with fail
      refine (belowR_any wr g 0 g' 0 cur us hC.row hU1.row true HBL.out).mono ?_
      rintro e w2 ⟨rfl, m, rfl⟩
      go_wp2
      go_ret
      exact ⟨rfl, hO.drewN m, cur, hC.of_heap rfl, HR1.out⟩
end Dy
end Go.Proofs.YtmbppgjhdcmckaaDoor
namespace Go.Proofs.YtmbppgjhdcmckaaDoor
open Go.RowKit
/-- But for the blocks of O, cells that lay in W lie in W' as they lay; what O' has and O has not is new. -/
structure Gain (O O' : Nat → Prop) (W W' : World) : Prop where
 size : W.heap.size ≤ W'.heap.size
 same : ∀ k cs t z, ¬ O k → W.heap[k]? = some (.cells cs t z) → W'.heap[k]? = some (.cells cs t z)
 new : ∀ k, O' k → O k ∨ (W.heap.size ≤ k ∧ k < W'.heap.size)
theorem Gain.refl (O : Nat → Prop) (W : World) : Gain O O W W := ⟨Nat.le_refl _, fun _ _ _ _ _ h => h, fun _ h => .inl h⟩
theorem Gain.trans {O O' O'' : Nat → Prop} {A B C : World} (h : Gain O O' A B) (k : Gain O' O'' B C) : Gain O O'' A C where
 size := Nat.le_trans h.size k.size
 same i cs t z hi hA := by
  refine k.same i cs t z (fun hO => ?_) (h.same i cs t z hi hA)
  rcases h.new i hO with h1 | h1
  · exact hi h1
  · have := (Array.getElem?_eq_some_iff.1 hA).1
    omega
 new i hi := by
  rcases k.new i hi with h1 | h1
  · rcases h.new i h1 with h2 | h2
    · exact .inl h2
    · exact .inr ⟨h2.1, Nat.lt_of_lt_of_le h2.2 k.size⟩
  · exact .inr ⟨Nat.le_trans h.size h1.1, h1.2⟩
theorem Gain.put (O : Nat → Prop) {W : World} {l : Nat} {o : Obj} (o' : Obj) (hl : W.heap[l]? = some o) (ho : o.isCells = false) : Gain O O W (W.putObj l o') where
 size := by simp
 same k cs t z _ hk := (World.putObj_heap_other (fun e => by subst e; rw [hl] at hk; cases hk; cases ho)).trans hk
 new _ h := .inl h
/-- J stands whatever is laid anew, and whatever becomes of block g. -/
def Loose {β : Type} (g : Nat) (J : β → (Nat → Prop) → World → Prop) : Prop := ∀ s O W W' row, J s O W → W.grownBy W' row → (∀ r, row = some r → r = g) → J s O W'
/-- The two blocks of a loop's own. -/
def Book (D : Nat) (r : Loop) (W : World) : Prop := W.heap[D + 1]? = some (.loop r) ∧ W.heap[D]? = some (.deferred (some []))
theorem Book.lt {D : Nat} {r : Loop} {W : World} (h : Book D r W) : D + 1 < W.heap.size := (Array.getElem?_eq_some_iff.1 h.1).1
theorem Book.grown {D : Nat} {r : Loop} {W W' : World} {row : Option Nat} (h : Book D r W) (hg : W.grownBy W' row) (hr : ∀ k, row = some k → k < D) : Book D r W' := by
 have hl := h.lt
 exact ⟨(hg.block _ hl (fun e => by have := hr _ e.symm; omega)).trans h.1, (hg.block _ (by omega) (fun e => by have := hr _ e.symm; omega)).trans h.2⟩
theorem Book.put {D : Nat} {r : Loop} {W : World} (h : Book D r W) (r' : Loop) : Book D r' (W.putObj (D + 1) (.loop r')) :=
 ⟨World.putObj_heap_same h.lt, (World.putObj_heap_other (by omega)).trans h.2⟩
theorem Book.keeps {D : Nat} {r : Loop} {W W' : World} (h : Book D r W) (hk : KeepsFrom D W W') : Book D r W' :=
 ⟨hk.same _ _ (by omega) h.1 rfl, hk.same _ _ (Nat.le_refl _) h.2 rfl⟩
variable {F : Fence} {n : Nat} {P : Program}
/-- The end of a round: the record is turned, all else stands. -/
theorem round_end {D : Nat} {r : Loop} {W : World} (h : Book D r W) (jump : Option Code) :
  (Instr.endRound (D + 1) jump).run P W = .ok (.bool jump.isNone) (W.putObj (D + 1) (.loop { r with state := if jump.isNone then .ready else .done, pending := jump })) := run_endRound jump h.1
end Go.Proofs.YtmbppgjhdcmckaaDoor
namespace Go.Proofs.YtmbppgjhdcmckaaDoor
open Go.RowKit
/-- What an iterator gives that writes block g between two rounds: the blocks of Prot are none of the rounds' own. -/
def SeqSep2 {α : Type} (G : List α → α → Prop) (F : Fence) (n : Nat) (P : Program) (f : Nat) (lb : Array Value) (encs : α → Array Value) (S Sp : List α → Prop) (N : Nat) (Prot : Nat → Prop) (g : Nat) (w : World) : Prop :=
 ∀ (l : Nat) (J Jx : List α → (Nat → Prop) → World → Prop) (O0 : Nat → Prop) (W : World), Below w.heap.size w W → Loose g J → Loose g Jx → (∀ k, Prot k → ¬ O0 k) → (∀ k, O0 k → k < W.heap.size) →
  (∀ pre x O W1, G pre x → J pre O W1 → pre.length < N → YieldAt F (n - 1) P l (encs x) W1 fun e W' =>
   (e = .returned (.bool true) ∧ ∃ O', J (pre ++ [x]) O' W' ∧ Gain O O' W1 W') ∨ (e = .returned (.bool false) ∧ ∃ O', Jx (pre ++ [x]) O' W' ∧ Gain O O' W1 W')) →
  J [] O0 W →
  CallsIn F n P f (#[.func (.yield l) #[] #[]] ++ lb) W fun e W' => (∃ v, e = .returned v) ∧ ((∃ xs O, S xs ∧ J xs O W') ∨ (∃ pre O, Sp pre ∧ Jx pre O W'))
/-- How a round's body may be left. -/
def sepPost2 {α : Type} (B : Nat) (I : List α → (Nat → Prop) → World → Prop) (Ix : Code → List α → (Nat → Prop) → World → Prop) (xs : List α) (O : Nat → Prop) (W : World) : Exit → Act → World → Prop
 | .normal, _, W' => KeepsFrom B W W' ∧ ∃ O', Gain O O' W W' ∧ I xs O' W'
 | .ret, _, W' => KeepsFrom B W W' ∧ ∃ O', Gain O O' W W' ∧ Ix .ret xs O' W'
 | .exit id, _, W' => KeepsFrom B W W' ∧ ∃ O', Gain O O' W W' ∧ Ix (.exit id) xs O' W'
 | .goto t, _, W' => KeepsFrom B W W' ∧ ∃ O', Gain O O' W W' ∧ Ix (.goto t) xs O' W'
 | .panic _, _, _ => False
 | .outgrown, _, _ => False
variable {F : Fence} {n : Nat} {P : Program}
theorem wpIn_rangeFunc_sep2 {α : Type} {gop : Operand} {ps : Array Tmp} {assign body : Code} {Q : Exit → Act → World → Prop} {a : Act} {w : World}
  (hro : F.round = none) (h1 : 1 ≤ n) {gf : Nat} {lb : Array Value} (hg : a.eval gop = .func (.func gf) #[] lb) (hFg : F.fn gf) (eg : ∀ args w, (callFunc gf args).run P w = .ok (.enter gf args) w)
  {encs : α → Array Value} {S Sp : List α → Prop} {N : Nat} {Prot : Nat → Prop} {g : Nat} {G : List α → α → Prop} (hseq : SeqSep2 G F (n - 1) P gf lb encs S Sp N Prot g w) (hgl : g < w.heap.size) (hps : ∀ x, (encs x).size = ps.size)
  (I : List α → (Nat → Prop) → World → Prop) (Ix : Code → List α → (Nat → Prop) → World → Prop) (hI : ∀ O, OwnFrom w.heap.size (fun s W => I s O W)) (hIx : ∀ c O, OwnFrom w.heap.size (fun s W => Ix c s O W)) (hIg : Loose g I) (hIxg : ∀ c, Loose g (Ix c))
  (O0 : Nat → Prop) (hO0 : ∀ k, Prot k → ¬ O0 k) (hOl : ∀ k, O0 k → k < w.heap.size) (h0 : I [] O0 w) (Ax : α → Act → World → Prop) (hAx : ∀ x a', OwnFrom w.heap.size (fun (_ : Unit) W => Ax x a' W))
  (hassign : ∀ (l : Nat) (pre : List α) (x : α) (O : Nat → Prop) (W : World) (K : Act → World → Prop), G pre x → w.heap.size < W.heap.size → I pre O W → (∀ a' W', KeepsFrom w.heap.size W W' → Gain O O W W' → I pre O W' → Ax x a' W' → K a' W') →
   assign.wpIn (F.inRound l) (n - 1 - 1) P (Exit.then K (fun _ _ _ => False)) { tmps := (ps.zip (encs x)).foldl (fun t (p, v) => t.setIfInBounds p v) a.tmps, defers := [] } W)
  (hbody : ∀ (l : Nat) (pre : List α) (x : α) (O : Nat → Prop) (a' : Act) (W : World), G pre x → w.heap.size < W.heap.size → I pre O W → Ax x a' W → pre.length < N → body.wpIn (F.inRound l) (n - 1 - 1) P (sepPost2 w.heap.size I Ix (pre ++ [x]) O W) a' W)
  (hdone : ∀ (D : Nat) (xs : List α) (O : Nat → Prop) (W : World), w.heap.size ≤ D → S xs → I xs O W → W.heap[D]? = some (.deferred (some [])) → Q .normal { a with defers := { target := .collected D, args := #[] } :: a.defers } W)
  (hstop : ∀ (D : Nat) (c : Code) (pre : List α) (O : Nat → Prop) (W : World), w.heap.size ≤ D → Sp pre → Ix c pre O W → W.heap[D]? = some (.deferred (some [])) → c.wpIn F n P Q { a with defers := { target := .collected D, args := #[] } :: a.defers } W) :
  (Code.rangeFunc gop ps assign body).wpIn F n P Q a w := by
 refine wpIn_rangeFunc fun fn hfn => ?_
 rw [hro]
 obtain ⟨D, hD⟩ : ∃ D, w.heap.size = D := ⟨_, rfl⟩
 obtain ⟨rec, hrec⟩ : ∃ rec : LoopState → Option Code → Loop, rec = fun st pe => { state := st, pending := pe, fn, tmps := a.tmps, params := ps, assign, body, defers := D } := ⟨_, rfl⟩
 obtain ⟨W1, hW1⟩ : ∃ W1, (w.alloc (.deferred (some []))).alloc (.loop (rec .ready none)) = W1 := ⟨_, rfl⟩
 have hbk : Book D (rec .ready none) W1 := by
  refine ⟨?_, ?_⟩
  · have := World.alloc_heap_new (w.alloc (.deferred (some []))) (.loop (rec .ready none))
    rw [World.size_alloc, hD, hW1] at this
    exact this
  · rw [← hW1, ← hD]
    exact (Below.heap_alloc _ _ _ (by simp)).trans (World.alloc_heap_new w _)
 have hI1 : I [] O0 W1 := by
  rw [← hW1]
  exact (hI O0).alloc _ ((hI O0).alloc _ h0)
 have hb1 : Below w.heap.size w W1 := by
  rw [← hW1]
  exact ((Below.refl _ w).alloc (Nat.le_refl _) _).alloc (by simp) _
 have hs1 := hb1.size
 have henter := run_enterLoop_outer (P := P) (w := w) fn a.tmps ps assign body
 rw [hD] at henter
 refine ⟨D + 1, [{ target := .collected D, args := #[] }], W1, { target := .fn (.func gf) lb, args := #[.func (.yield (D + 1)) #[] #[]] }, W1, gf,
  #[.func (.yield (D + 1)) #[] #[]] ++ lb, W1, ?_, ?_, ?_, ?_, fun _ => h1, ?_⟩
 · rw [henter, ← hW1, hrec]
 · simp only [resolve, hg]
   simp [go_sem]
 · intro f' hf'
   simp [Target.leads] at hf'
   subst hf'
   exact hFg
 · simp [invoke, go_sem, eg]
 · refine (hseq (D + 1) (fun pre O W => I pre O W ∧ Book D (rec .ready none) W) (fun pre O W => ∃ c, Ix c pre O W ∧ Book D (rec .done (some c)) W) O0 W1 hb1
     (fun s O A B row hs hg' hr => ⟨hIg s O A B row hs.1 hg' hr, hs.2.grown hg' (fun k e => by have := hr k e; omega)⟩)
     (fun s O A B row hs hg' hr => by
      obtain ⟨c, hc, hk⟩ := hs
      exact ⟨c, hIxg c s O A B row hc hg' hr, hk.grown hg' (fun k e => by have := hr k e; omega)⟩)
     hO0 (fun k hk => Nat.lt_of_lt_of_le (hOl k hk) hs1) ?_ ⟨hI1, hbk⟩).mono ?_
   · rintro pre x O W hgx ⟨hi, hk⟩ hlen
     have hy := run_yield (P := P) (args := encs x) hk.1 (by rw [hrec]; exact hps x)
     rw [hrec] at hy
     refine ⟨fn, _, assign, body, hy, roundIn_of_wpIn hfn (hassign _ pre x O W _ hgx (by have := hk.lt; omega) hi ?_)⟩
     clear hy
     intro a' Wa hka hga hia hax
     rw [hD] at hka
     have hk := hk.keeps hka
     refine ⟨_, run_beginRound hk.1 (by rw [hrec]), ?_⟩
     have hk2 := hk.put { rec .ready none with state := .busy }
     have hg2 : Gain O O W (Wa.putObj (D + 1) (.loop { rec .ready none with state := .busy })) := hga.trans (Gain.put O _ hk.1 rfl)
     have hlt := hk.lt
     refine wpIn_mono (hbody _ pre x O a' _ hgx (by simp; omega) ((hI O).putObj _ hia (by omega) hk.1 rfl) ((hAx x a').putObj (s := ()) _ hax (by omega) hk.1 rfl) hlen) ?_
     rw [hD]
     have hrd : ∀ jump : Option Code, { { rec .ready none with state := .busy } with state := if jump.isNone then .ready else .done, pending := jump } = rec (if jump.isNone then .ready else .done) jump := by
      intro jump
      rw [hrec]
     rintro e a3 W3 hp
     cases e with
     | normal =>
      obtain ⟨hk3, O', hg3, hi3⟩ := hp
      have hb3 := hk2.keeps hk3
      have hr := round_end (P := P) hb3 none
      rw [hrd] at hr
      exact ⟨_, _, hr, .inl ⟨rfl, O', ⟨(hI O').putObj _ hi3 (by omega) hb3.1 rfl, hb3.put _⟩, (hg2.trans hg3).trans (Gain.put O' _ hb3.1 rfl)⟩⟩
     | ret =>
      obtain ⟨hk3, O', hg3, hi3⟩ := hp
      have hb3 := hk2.keeps hk3
      have hr := round_end (P := P) hb3 (some .ret)
      rw [hrd] at hr
      exact ⟨_, _, hr, .inr ⟨rfl, O', ⟨.ret, (hIx _ O').putObj _ hi3 (by omega) hb3.1 rfl, hb3.put _⟩, (hg2.trans hg3).trans (Gain.put O' _ hb3.1 rfl)⟩⟩
     | exit id =>
      obtain ⟨hk3, O', hg3, hi3⟩ := hp
      have hb3 := hk2.keeps hk3
      have hr := round_end (P := P) hb3 (some (.exit id))
      rw [hrd] at hr
      exact ⟨_, _, hr, .inr ⟨rfl, O', ⟨.exit id, (hIx _ O').putObj _ hi3 (by omega) hb3.1 rfl, hb3.put _⟩, (hg2.trans hg3).trans (Gain.put O' _ hb3.1 rfl)⟩⟩
     | goto t =>
      obtain ⟨hk3, O', hg3, hi3⟩ := hp
      have hb3 := hk2.keeps hk3
      have hr := round_end (P := P) hb3 (some (.goto t))
      rw [hrd] at hr
      exact ⟨_, _, hr, .inr ⟨rfl, O', ⟨.goto t, (hIx _ O').putObj _ hi3 (by omega) hb3.1 rfl, hb3.put _⟩, (hg2.trans hg3).trans (Gain.put O' _ hb3.1 rfl)⟩⟩
     | panic ch => exact hp.elim
     | outgrown => exact hp.elim
   · rintro e W2 ⟨⟨v, rfl⟩, (⟨xs, O, hS, hi, hk⟩ | ⟨pre, O, hSp, c, hi, hk⟩)⟩
     · exact ⟨none, _, by have := run_endLoop (P := P) hk.1 (by rw [hrec]; simp); rw [hrec] at this; exact this, hdone D xs O _ (by omega) hS ((hI O).putObj _ hi (by omega) hk.1 rfl) (hk.put _).2⟩
     · exact ⟨some c, _, by have := run_endLoop (P := P) hk.1 (by rw [hrec]; simp); rw [hrec] at this; exact this, hstop D c pre O _ (by omega) hSp ((hIx c O).putObj _ hi (by omega) hk.1 rfl) (hk.put _).2⟩
end Go.Proofs.YtmbppgjhdcmckaaDoor
namespace Go.Proofs.YtmbppgjhdcmckaaDoor
open Go.RowKit
section
variable {P : Program} {os : List Oper} {Q : Exit → Act → World → Prop} {md : Region.Mode} {S : World → Prop} {E : List Nat}
/-- Three may come up: whichever. -/
theorem stepK3 {i j k n : Nat} {oi oj ok : Oper} {listed Li Lj Lk : Array Bool} {a : Act} {w : World} (hi : os[i]? = some oi) (hj : os[j]? = some oj) (hk : os[k]? = some ok) (hLi : listed.setIfInBounds i true = Li) (hLj : listed.setIfInBounds j true = Lj) (hLk : listed.setIfInBounds k true = Lk)
  (hr : Region.ready md os.toArray listed = [i, j, k]) (hwi : Region.wanted oi (yielded os.toArray a.tmps) = true) (hwj : Region.wanted oj (yielded os.toArray a.tmps) = true) (hwk : Region.wanted ok (yielded os.toArray a.tmps) = true)
  (h : ∀ K' : Act → World → Prop, Shut (∀ a w', ((E.contains i = false → S w → S w') ∧ wpAnyE P md os.toArray Q S E n Li a w') → K' a w') → Oper.wp P oi a w K' Q)
  (h' : ∀ K' : Act → World → Prop, Shut (∀ a w', ((E.contains j = false → S w → S w') ∧ wpAnyE P md os.toArray Q S E n Lj a w') → K' a w') → Oper.wp P oj a w K' Q)
  (h'' : ∀ K' : Act → World → Prop, Shut (∀ a w', ((E.contains k = false → S w → S w') ∧ wpAnyE P md os.toArray Q S E n Lk a w') → K' a w') → Oper.wp P ok a w K' Q) :
  wpAnyE P md os.toArray Q S E (n + 1) listed a w := by
 subst hLi
 subst hLj
 subst hLk
 refine ⟨fun h0 => (by rw [hr] at h0; cases h0), fun m hm => ?_⟩
 rw [hr] at hm
 simp only [List.mem_cons, List.not_mem_nil, or_false] at hm
 rcases hm with rfl | rfl | rfl
 · refine wpOp_step (by simpa using hi) (fun K' hK => ?_)
   rw [if_pos hwi]
   exact h K' hK
 · refine wpOp_step (by simpa using hj) (fun K' hK => ?_)
   rw [if_pos hwj]
   exact h' K' hK
 · refine wpOp_step (by simpa using hk) (fun K' hK => ?_)
   rw [if_pos hwk]
   exact h'' K' hK
end
end Go.Proofs.YtmbppgjhdcmckaaDoor
namespace Go.Proofs.YtmbppgjhdcmckaaDoor
open Go.RowKit
def opPlain (o : Oper) : Bool := match o.op with
 | .defer _ => false
 | _ => true
theorem opPlain_spec {o : Oper} (h : opPlain o = true) : ∀ c, o.op ≠ .defer c := by
 intro c e
 unfold opPlain at h
 rw [e] at h
 cases h
section
variable {P : Program} {ops : Array Oper} {Q : Exit → Act → World → Prop} {md : Region.Mode} {l n : Nat}
theorem operIn_of_oper {o : Oper} {a : Act} {w : World} {K : Act → World → Prop} (hnd : opPlain o = true) (h : o.wp P a w K Q) : o.wpIn (Fence.wide.inRound l) n P a w K Q := by
 refine ⟨fun _ _ => trivial, ?_⟩
 unfold Oper.wp at h
 rw [Oper.semAt_eq _ _ _ (opPlain_spec hnd)]
 generalize (execOp a.eval o).run P w = r at h ⊢
 cases r with
 | ok x w' =>
  cases x with
  | value v => exact h
  | skip => exact h
  | defer d => exact h
  | enter f args => exact ⟨(fun e => by cases e), CallsIn.inRound l (callsIn_wide.2 h)⟩
  | row row args =>
   refine ⟨(fun e => by cases e), fun c cs _ => ?_⟩
   obtain ⟨v, w'', r, s⟩ := h c cs
   exact ⟨v, w'', r, stepsIn_wide.2 s⟩
  | _ => exact h.elim
 | halt x w' =>
  cases x <;> first | exact h | exact h.elim
theorem opIn_of_op {i : Nat} {a : Act} {w : World} {K K' : Act → World → Prop} (hnd : ops.all opPlain = true) (hQ : ∀ a w, ¬ Q .outgrown a w) (hK : ∀ a w, K a w → K' a w) (h : wpOp P ops Q i K a w) : wpOpIn (Fence.wide.inRound l) n P ops Q i K' a w := by
 unfold wpOp at h
 unfold wpOpIn
 cases ho : ops[i]? with
 | none =>
  rw [ho] at h
  exact hK _ _ h
 | some o =>
  rw [ho] at h
  have hp : opPlain o = true := by
   obtain ⟨hi, he⟩ := Array.getElem?_eq_some_iff.1 ho
   rw [← he]
   exact (Array.all_eq_true.1 hnd) i hi
  by_cases hw : Region.wanted o (yielded ops a.tmps) = true
  · simp only [hw, if_true] at h ⊢
    rcases h with h | ⟨_, a', w', hq⟩
    · exact Oper.wpIn_mono hK (operIn_of_oper hp h)
    · exact absurd hq (hQ a' w')
  · simp only [hw] at h ⊢
    exact ⟨fun _ _ => trivial, hK _ _ h⟩
theorem anyIn_of_any (hnd : ops.all opPlain = true) (hQ : ∀ a w, ¬ Q .outgrown a w) : ∀ (fuel : Nat) (listed : Array Bool) (a : Act) (w : World),
  wpAny P md ops Q fuel listed a w → wpAnyIn (Fence.wide.inRound l) n P md ops Q fuel listed a w
 | 0, _, _, _, h => h
 | fuel + 1, _, _, _, h => ⟨h.1, fun i hi => opIn_of_op hnd hQ (fun a' w' h' => anyIn_of_any hnd hQ fuel _ a' w' h') (h.2 i hi)⟩
end
section
variable {P : Program} {ops : Array Oper} {os : List Oper} {Q : Exit → Act → World → Prop} {md : Region.Mode} {S : World → Prop} {k : Nat}
/-- Number k waits for number i. -/
def waits (md : Region.Mode) (ops : Array Oper) (k i : Nat) : Bool := match ops[k]? with
 | none => true
 | some o => o.after.any fun e => Region.binds md e && e.on == i
end
end Go.Proofs.YtmbppgjhdcmckaaDoor
namespace Go.Proofs.YtmbppgjhdcmckaaDoor
open Go.RowKit
section
variable {P : Program} {os : List Oper} {Q : Exit → Act → World → Prop} {l n : Nat}
theorem roundRegion_E (S : World → Prop) (E : List Nat) {id m : Nat} {L : Array Bool} {a : Act} {w : World} (hm : P.follows .mixedOrders = true) (hnd : os.toArray.all opPlain = true) (hQ : ∀ a w, ¬ Q .outgrown a w) (hsz : os.length = m) (hL : Array.replicate m false = L)
  (h : wpAnyE P .any os.toArray Q S E m L a w.drew) : (Code.region id os.toArray true).wpIn (Fence.wide.inRound l) n P Q a w := by
 subst hsz
 subst hL
 exact wpIn_region_any hm (anyIn_of_any hnd hQ _ _ _ _ (any_of_E _ _ _ _ h))
end
end Go.Proofs.YtmbppgjhdcmckaaDoor