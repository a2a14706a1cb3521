/- RegionE's way through a region that draws its order inside the round of a range over a function. No program in sight. -/
/- RegionE's way through a region that draws its order, for the body of an iterator (inside a wide fence): a call of yield may be met. No program in sight. -/
/- A number under way as a dyad: a walk. -/
/- A number's dyad: walks. -/
/- limb.at, limb.asked, limb.Right: walks. -/
/- The limbs of bits, by a walk. -/
/- A quotient's one form: no program in sight. -/
/- (*ratio.wide).form: a walk (printed by a program of mine). -/
import Derived.Test.YtbbnbgllgomolaaBz02
import Derived.OrdersIn
import Derived.CallsIn
import Derived.Test.YtbbnbgllgomolaaBz01
import Derived.Deep.Cut
import Derived.Lib.MinMax
namespace Go.Proofs.Ytbbnbgllgomolaa
open Go.RowKit
section
variable {P : Program} {os : List Oper} {Q : Exit → Act → World → Prop} {l n : Nat}
theorem roundRegion_E (S : World → Prop) (E : List Nat) {id m : Nat} {L : Array Bool} {a : Act} {w : World} (hm : P.follows .mixedOrders = true) (hnd : os.toArray.all opPlain = true) (hQ : ∀ a w, ¬ Q .outgrown a w) (hsz : os.length = m) (hL : Array.replicate m false = L)
  (h : wpAnyE P .any os.toArray Q S E m L a w.drew) : (Code.region id os.toArray true).wpIn (Fence.wide.inRound l) n P Q a w := by
 subst hsz
 subst hL
 exact wpIn_region_any hm (anyIn_of_any hnd hQ _ _ _ _ (any_of_E _ _ _ _ h))
end
end Go.Proofs.Ytbbnbgllgomolaa
namespace Go.Proofs.Ytbbnbgllgomolaa
open Go.RowKit
section
variable {P : Program} {ops : Array Oper} {os : List Oper} {Q : Exit → Act → World → Prop} {md : Region.Mode} {S : World → Prop} {nf : Nat} {E : List Nat}
theorem opIn_putIf {j : Nat} {oi oj : Oper} {v : Value} (hj : ops[j]? = some oj) (hap : oi.apart ops oj = true)
  (hsi : ∀ cs b, oi.op ≠ .select cs b) (hsj : ∀ cs b, oj.op ≠ .select cs b)
  (hQ : ∀ c a w, Q (.panic c) (a.put oi.dst v) w → Q (.panic c) a w) {K : Act → World → Prop} {a : Act} {w : World}
  (hy : YieldsIf P ops S oi v a) (h : wpOpIn Fence.wide nf P ops Q j K (a.put oi.dst v) w) :
  wpOpIn Fence.wide nf P ops Q j (fun a' w' => YieldsIf P ops S oi v a' ∧ K (a'.put oi.dst v) w') a w := by
 obtain ⟨h1, h2, h3⟩ := Oper.apart_spec hap
 have keep : ∀ (a : Act), YieldsIf P ops S oi v a → ∀ u, YieldsIf P ops S oi v (a.put oj.dst u) := fun a hy u =>
  hy.of_same (execOp_put oi hsi a oj.dst u h3) (wanted_put oi a oj.dst u h3)
 have keepD : ∀ d, YieldsIf P ops S oi v { a with defers := d :: a.defers } := fun d => hy.of_same rfl rfl
 unfold wpOpIn at *
 simp only [hj] at *
 rw [wanted_put oj a oi.dst v h1] at h
 split
 · rename_i hw
   simp only [hw, if_true] at h
   unfold Oper.wpIn at *
   refine ⟨fun _ _ => trivial, ?_⟩
   have h := h.2
   rw [show Fence.wide.round = none from rfl, Oper.semAt_none, execOp_put oj hsj a oi.dst v h1] at h
   rw [show Fence.wide.round = none from rfl, Oper.semAt_none]
   generalize (execOp a.eval oj).run P w = r at *
   cases r with
   | ok x w' =>
    cases x <;> simp only [Oper.uponIn] at h ⊢
    case value u => exact ⟨keep a hy u, by rw [← Act.put_comm a v u h2]; exact h⟩
    case skip => exact ⟨keep a hy _, by rw [← Act.put_comm a v undef h2]; exact h⟩
    case defer d =>
     refine ⟨keep _ (keepD d) _, ?_⟩
     rw [← Act.put_comm _ v undef h2, ← Act.put_defers]
     exact h
    case enter f args =>
     refine ⟨h.1, CallsIn.mono h.2 fun e w'' he => ?_⟩
     cases e with
     | returned u => exact ⟨keep a hy u, by rw [← Act.put_comm a v u h2]; exact he⟩
     | panicked c => exact hQ _ _ _ he
     | outgrown => exact he
    case row row args => exact ⟨h.1, RowsIn.mono h.2 fun u w'' he => ⟨keep a hy u, by rw [← Act.put_comm a v u h2]; exact he⟩⟩
    case round l f tmps assign body =>
     refine ⟨h.1, RoundIn.mono h.2 fun e w'' he => ?_⟩
     cases e with
     | returned u => exact ⟨keep a hy u, by rw [← Act.put_comm a v u h2]; exact he⟩
     | panicked c => exact hQ _ _ _ he
     | outgrown => exact he
   | halt x w' =>
    cases x <;> simp only [Oper.uponIn] at h ⊢
    case panic u => exact hQ _ _ _ h
 · rename_i hw
   simp only [hw] at h
   exact ⟨fun _ _ => trivial, keep a hy _, by rw [← Act.put_comm a v undef h2]; exact h.2⟩
theorem opIn_take {i : Nat} {o : Oper} {v : Value} {a : Act} (hi : ops[i]? = some o) (hy : YieldsIf P ops S o v a)
  {K : Act → World → Prop} {w : World} (hS : S w) (h : K (a.put o.dst v) w) : wpOpIn Fence.wide nf P ops Q i K a w := by
 unfold wpOpIn
 simp only [hi]
 rcases hy with ⟨hw, hv⟩ | ⟨hw, rfl⟩
 · simp only [hw, if_true, Oper.wpIn, show Fence.wide.round = none from rfl, Oper.semAt_none, hv w hS, Oper.uponIn]
   exact ⟨fun _ _ => trivial, h⟩
 · simp only [hw, Bool.false_eq_true, if_false]
   exact ⟨fun _ _ => trivial, h⟩
/-- Whatever order is picked, S holds behind each operation but those of E. -/
def wpAnyJ (nf : Nat) (P : Program) (md : Region.Mode) (ops : Array Oper) (Q : Exit → Act → World → Prop) (S : World → Prop) (E : List Nat) : Nat → Array Bool → Act → World → Prop
 | 0, L, a, w => Region.ready md ops L = [] ∧ Q .normal a w
 | n + 1, L, a, w => (Region.ready md ops L = [] → Q .normal a w) ∧ ∀ i ∈ Region.ready md ops L, wpOpIn Fence.wide nf P ops Q i (fun a' w' => (E.contains i = false → S w → S w') ∧ wpAnyJ nf P md ops Q S E n (L.setIfInBounds i true) a' w') a w
theorem any_of_J : ∀ (n : Nat) (L : Array Bool) (a : Act) (w : World), wpAnyJ nf P md ops Q S E n L a w → wpAnyIn Fence.wide nf P md ops Q n L a w
 | 0, _, _, _, h => h
 | n + 1, _, _, _, h => ⟨h.1, fun i hi => wpOpIn_mono (fun a' w' h' => any_of_J n _ a' w' h'.2) (h.2 i hi)⟩
theorem getD_set_true {L : Array Bool} {j k : Nat} (h : L.getD k true = true) : (L.setIfInBounds j true).getD k true = true := by
 by_cases e : j = k
 · subst e
   rcases Nat.lt_or_ge j L.size with h' | h'
   · simp [h']
   · rw [Array.setIfInBounds_eq_of_size_le h']
     exact h
 · rw [getD_set_ne true e]
   exact h
theorem firstJ {i : Nat} {oi : Oper} {v : Value} (hi : ops[i]? = some oi) (hsel : ∀ (j : Nat) (o : Oper) cs b, ops[j]? = some o → o.op ≠ .select cs b)
  (hQ : ∀ c a w, Q (.panic c) (a.put oi.dst v) w → Q (.panic c) a w) :
  ∀ (n : Nat) (L : Array Bool) (a : Act) (w : World), (∀ k, E.contains k = true → L.getD k true = true ∨ waitsE md ops k i = true) →
   (∀ j oj, ops[j]? = some oj → j ≠ i → L.getD j true = false → (∀ e ∈ oj.after, Region.binds md e = true → e.on ≠ i) → oi.apart ops oj = true) →
   i ∈ Region.ready md ops L → YieldsIf P ops S oi v a → S w → wpAnyJ nf P md ops Q S E n (L.setIfInBounds i true) (a.put oi.dst v) w → wpAnyJ nf P md ops Q S E (n + 1) L a w := by
 intro n
 induction n with
 | zero =>
  intro L a w _ _ hr hy hS H
  refine ⟨fun h => (by rw [h] at hr; cases hr), fun j hj => ?_⟩
  by_cases hji : j = i
  · subst hji
    exact opIn_take hi hy hS ⟨fun _ h => h, H⟩
  · have := ready_mono hj hji
    rw [H.1] at this
    cases this
 | succ n ih =>
  intro L a w hw hfree hr hy hS H
  refine ⟨fun h => (by rw [h] at hr; cases hr), fun j hj => ?_⟩
  by_cases hji : j = i
  · subst hji
    exact opIn_take hi hy hS ⟨fun _ h => h, H⟩
  · have h1 := H.2 j (ready_mono hj hji)
    obtain ⟨hjun, oj, hoj, hall⟩ := mem_ready.1 hj
    have hnot := not_afterE hoj hr hj
    have h2 := opIn_putIf hoj (hfree j oj hoj hji hjun hnot) (fun cs b => hsel i oi cs b hi) (fun cs b => hsel j oj cs b hoj) hQ hy h1
    have hjk : E.contains j = false := by
     cases hc : E.contains j
     · rfl
     · rcases hw j hc with k1 | k2
       · rw [hjun] at k1
         cases k1
       · exact absurd hj (not_readyE k2 hr)
    refine wpOpIn_mono (fun a' w' h3 => ⟨h3.2.1, ih (L.setIfInBounds j true) a' w' (fun k hk => (hw k hk).imp getD_set_true id) (fun m om hm hmi hun hno => ?_) (ready_mono hr (Ne.symm hji)) h3.1 (h3.2.1 hjk hS) ?_⟩) h2
    · refine hfree m om hm hmi ?_ hno
      by_cases hjm : j = m
      · subst hjm
        exact hjun
      · rw [getD_set_ne true hjm] at hun
        exact hun
    · rw [Array.setIfInBounds_comm _ _ hji]
      exact h3.2.2
theorem firstU {i : Nat} {oi : Oper} {v : Value} (hi : ops[i]? = some oi) (hsel : ∀ (j : Nat) (o : Oper) cs b, ops[j]? = some o → o.op ≠ .select cs b)
  (hQ : ∀ c a w, Q (.panic c) (a.put oi.dst v) w → Q (.panic c) a w) :
  ∀ (n : Nat) (L : Array Bool) (a : Act) (w : World),
   (∀ j oj, ops[j]? = some oj → j ≠ i → L.getD j true = false → (∀ e ∈ oj.after, Region.binds md e = true → e.on ≠ i) → oi.apart ops oj = true) →
   i ∈ Region.ready md ops L → YieldsIf P ops (fun _ => True) oi v a → wpAnyJ nf P md ops Q S E n (L.setIfInBounds i true) (a.put oi.dst v) w → wpAnyJ nf P md ops Q S E (n + 1) L a w := by
 intro n
 induction n with
 | zero =>
  intro L a w _ hr hy H
  refine ⟨fun h => (by rw [h] at hr; cases hr), fun j hj => ?_⟩
  by_cases hji : j = i
  · subst hji
    exact opIn_take (S := fun _ => True) hi hy trivial ⟨fun _ h => h, H⟩
  · have := ready_mono hj hji
    rw [H.1] at this
    cases this
 | succ n ih =>
  intro L a w hfree hr hy H
  refine ⟨fun h => (by rw [h] at hr; cases hr), fun j hj => ?_⟩
  by_cases hji : j = i
  · subst hji
    exact opIn_take (S := fun _ => True) hi hy trivial ⟨fun _ h => h, H⟩
  · have h1 := H.2 j (ready_mono hj hji)
    obtain ⟨hjun, oj, hoj, hall⟩ := mem_ready.1 hj
    have hnot := not_afterE hoj hr hj
    have h2 := opIn_putIf (S := fun _ => True) hoj (hfree j oj hoj hji hjun hnot) (fun cs b => hsel i oi cs b hi) (fun cs b => hsel j oj cs b hoj) hQ hy h1
    refine wpOpIn_mono (fun a' w' h3 => ⟨h3.2.1, ih (L.setIfInBounds j true) a' w' (fun m om hm hmi hun hno => ?_) (ready_mono hr (Ne.symm hji)) h3.1 ?_⟩) h2
    · refine hfree m om hm hmi ?_ hno
      by_cases hjm : j = m
      · subst hjm
        exact hjun
      · rw [getD_set_ne true hjm] at hun
        exact hun
    · rw [Array.setIfInBounds_comm _ _ hji]
      exact h3.2.2
/-- A read: it may be taken first. -/
theorem readJ {i n : Nat} {oi : Oper} {v : Value} {listed L : Array Bool} {a : Act} {w : World} (hi : os[i]? = some oi) (hL : listed.setIfInBounds i true = L)
  (hs : Region.noSelect os.toArray = true) (hf : (Region.free md os.toArray listed i && E.all fun k => listed.getD k true || waitsE md os.toArray k i) = true) (hr : (Region.ready md os.toArray listed).contains i = true)
  (hQ : ∀ c a w, Q (.panic c) (a.put oi.dst v) w → Q (.panic c) a w) (hS : S w) (hw : Region.wanted oi (yielded os.toArray a.tmps) = true) (hy : ∀ w, S w → (execOp a.eval oi).run P w = .ok (.value v) w)
  (h : wpAnyJ nf P md os.toArray Q S E n L (a.put oi.dst v) w) : wpAnyJ nf P md os.toArray Q S E (n + 1) listed a w := by
 have hi' : os.toArray[i]? = some oi := by simpa using hi
 rw [Bool.and_eq_true] at hf
 exact firstJ hi' (Region.noSelect_spec hs) hQ n listed a w (fun k hk => by simpa using List.all_eq_true.1 hf.2 k (by simpa using hk)) (Region.free_spec hi' hf.1) (by simpa using hr) (Or.inl ⟨hw, hy⟩) hS (hL ▸ h)
/-- What yields one value in whatever world: it may be taken first. -/
theorem pureJ {i n : Nat} {oi : Oper} {v : Value} {listed L : Array Bool} {a : Act} {w : World} (hi : os[i]? = some oi) (hL : listed.setIfInBounds i true = L)
  (hs : Region.noSelect os.toArray = true) (hf : Region.free md os.toArray listed i = true) (hr : (Region.ready md os.toArray listed).contains i = true)
  (hQ : ∀ c a w, Q (.panic c) (a.put oi.dst v) w → Q (.panic c) a w) (hw : Region.wanted oi (yielded os.toArray a.tmps) = true) (hy : ∀ w, (execOp a.eval oi).run P w = .ok (.value v) w)
  (h : wpAnyJ nf P md os.toArray Q S E n L (a.put oi.dst v) w) : wpAnyJ nf P md os.toArray Q S E (n + 1) listed a w := by
 have hi' : os.toArray[i]? = some oi := by simpa using hi
 exact firstU hi' (Region.noSelect_spec hs) hQ n listed a w (Region.free_spec hi' hf) (by simpa using hr) (Or.inl ⟨hw, fun w _ => hy w⟩) (hL ▸ h)
/-- An operation whose guard says no. -/
theorem skipJ {i n : Nat} {oi : Oper} {listed L : Array Bool} {a : Act} {w : World} (hi : os[i]? = some oi) (hL : listed.setIfInBounds i true = L)
  (hs : Region.noSelect os.toArray = true) (hf : Region.free md os.toArray listed i = true) (hr : (Region.ready md os.toArray listed).contains i = true)
  (hQ : ∀ c a w, Q (.panic c) (a.put oi.dst undef) w → Q (.panic c) a w) (hw : Region.wanted oi (yielded os.toArray a.tmps) = false)
  (h : wpAnyJ nf P md os.toArray Q S E n L (a.put oi.dst undef) w) : wpAnyJ nf P md os.toArray Q S E (n + 1) listed a w := by
 have hi' : os.toArray[i]? = some oi := by simpa using hi
 exact firstU hi' (Region.noSelect_spec hs) hQ n listed a w (Region.free_spec hi' hf) (by simpa using hr) (Or.inr ⟨hw, rfl⟩) (hL ▸ h)
/-- One alone may come up: it is carried out. -/
theorem stepJ {i n : Nat} {oi : Oper} {listed L : Array Bool} {a : Act} {w : World} (hi : os[i]? = some oi) (hL : listed.setIfInBounds i true = L)
  (hr : Region.ready md os.toArray listed = [i]) (hw : Region.wanted oi (yielded os.toArray a.tmps) = true)
  (h : Oper.wpIn Fence.wide nf P oi a w (fun a' w' => (E.contains i = false → S w → S w') ∧ wpAnyJ nf P md os.toArray Q S E n L a' w') Q) :
  wpAnyJ nf P md os.toArray Q S E (n + 1) listed a w := by
 subst hL
 refine ⟨fun h0 => (by rw [hr] at h0; cases h0), fun j hj => ?_⟩
 rw [hr] at hj
 obtain rfl := List.mem_singleton.1 hj
 refine wpOpIn_step (by simpa using hi) (fun K' hK => ?_)
 rw [if_pos hw]
 exact Oper.wpIn_mono (fun a' w' h' => hK a' w' h') h
theorem stepKJ {i n : Nat} {oi : Oper} {listed L : Array Bool} {a : Act} {w : World} (hi : os[i]? = some oi) (hL : listed.setIfInBounds i true = L)
  (hr : Region.ready md os.toArray listed = [i]) (hw : Region.wanted oi (yielded os.toArray a.tmps) = true)
  (h : ∀ K' : Act → World → Prop, (∀ a w', ((E.contains i = false → S w → S w') ∧ wpAnyJ nf P md os.toArray Q S E n L a w') → K' a w') → Oper.wpIn Fence.wide nf P oi a w K' Q) :
  wpAnyJ nf P md os.toArray Q S E (n + 1) listed a w :=
 stepJ hi hL hr hw (h _ (fun _ _ h => h))
theorem doneJ {L : Array Bool} {a : Act} {w : World} (hr : Region.ready md ops L = []) (h : Q .normal a w) : ∀ n, wpAnyJ nf P md ops Q S E n L a w
 | 0 => ⟨hr, h⟩
 | _ + 1 => ⟨fun _ => h, by rw [hr]; simp⟩
theorem region_J (S : World → Prop) (E : List Nat) {id m : Nat} {L : Array Bool} {a : Act} {w : World} (hm : P.follows .mixedOrders = true) (hsz : os.length = m) (hL : Array.replicate m false = L)
  (h : wpAnyJ nf P .any os.toArray Q S E m L a w.drew) : (Code.region id os.toArray true).wpIn Fence.wide nf P Q a w := by
 subst hsz
 subst hL
 exact wpIn_region_any hm (any_of_J _ _ _ _ h)
end
end Go.Proofs.Ytbbnbgllgomolaa
namespace Go.Proofs.Ytbbnbgllgomolaa
open Go.RowKit
namespace Dy
open Dp
theorem boxD {w : World} {g : Nat} {x y z : Value} {t : TypeId} (h : w.heap[g]? = some (.cells #[x, y, z] t (0, 0))) :
  (w.cell? ⟨g, 0, none⟩ = some x ∧ w.cell? ⟨g, 1, none⟩ = some y ∧ w.cell? ⟨g, 2, none⟩ = some z) ∧ (w.frozen? ⟨g, 0, none⟩ = false ∧ w.frozen? ⟨g, 1, none⟩ = false ∧ w.frozen? ⟨g, 2, none⟩ = false) :=
 ⟨⟨cell_of_row w g 0 _ t _ h, cell_of_row w g 1 _ t _ h, cell_of_row w g 2 _ t _ h⟩, frozen_of_row w g 0 _ t h, frozen_of_row w g 1 _ t h, frozen_of_row w g 2 _ t h⟩
theorem Sum.lt {w : World} {g : Nat} {s : Bool} {L : Value} {ex : Int} {ws : List Int} (h : Sum w g s L ex ws) : g < w.heap.size := (Array.getElem?_eq_some_iff.1 h.blk).1
/-- The table of bits.TrailingZeros32 lies in its variable. -/
structure Tab (w : World) : Prop where
 at_ : TabAt 0 Lib.deBruijn32tab w
theorem Tab.keep {w w' : World} (h : Tab w) (hh : w'.heap[0]? = w.heap[0]?) : Tab w' := ⟨fun j hj => (World.cell?_of_block (w := w) hh).trans (h.at_ j hj)⟩
theorem Tab.lt {w : World} (h : Tab w) : 0 < w.heap.size := block_lt_of_cell (h.at_ 0 (by decide))
theorem Tab.alloc {w : World} (h : Tab w) (o : Obj) : Tab (w.alloc o) := h.keep (Below.heap_alloc _ _ _ h.lt)
theorem Tab.below {B : Nat} {w w' : World} (h : Tab w) (hb : Below B w w') (hB : 0 < B) : Tab w' := h.keep (hb.block 0 hB)
theorem infoU32 : (Try.prog.info? 70).map (fun i => (i.zero, i.size, i.bytes)) = some (some (.int .u32 0), 1, 4) := by kernel_rfl
theorem ints_far {w : World} {lo hi : Nat} {k : IntKind} {A : Option Addr} {n : Nat} {xs : List Int} (h : Ints w lo hi k A n xs) {p : Addr} (hp : p.block < lo ∨ hi ≤ p.block) (u : Value) : Ints (w.setCell p u) lo hi k A n xs :=
 ⟨h.len, h.wf, h.big, fun hn => by
  obtain ⟨b, off, e, h1, h2, hc⟩ := h.row hn
  exact ⟨b, off, e, h1, h2, fun j hj => ⟨(World.cell?_setCell_other w p _ u (fun e => by subst e; simp at hp; omega)).trans (hc j hj).1, (World.frozen?_setCell ..).trans (hc j hj).2⟩⟩⟩
/-- Amid the last loop of form: i limbs are laid. -/
structure Mid (w wr : World) (g p q : Nat) (s : Bool) (L : Value) (ex : Nat) (ws : List Int) (nn : Nat) (e : Int) (M i : Nat) (ds : List Int) : Prop where
 hP : wr.heap[p]? = some (.cells #[.bool s, .slice (some ⟨q, 0, none⟩) nn nn, .int .i64 e] 25 (0, 0))
 hQ : wr.heap[q]? = some (.cells (rowU ds) 70 (0, 0))
 hR : wr.heap[w.heap.size]? = some (.cells #[.bool false, .slice none 0 0, .int .i64 0] 25 (0, 0))
 hS : Sum wr g s L ex ws
 hB : Below w.heap.size w wr
 lp : p < wr.heap.size
 lq : q < wr.heap.size
 len : ds.length = nn
 done : ∀ j, j < i → ds[j]?.getD 0 = ((M / 4294967296 ^ j % 4294967296 : Nat) : Int)
 dig : Dig 4294967296 ds
 pq : p ≠ q
 gq : g < q
 wp : w.heap.size < p
 wq : w.heap.size < q
section
variable {w wr : World} {g p q : Nat} {s : Bool} {L : Value} {ex : Nat} {ws : List Int} {nn : Nat} {e : Int} {M i : Nat} {ds : List Int}
theorem Mid.drew (h : Mid w wr g p q s L ex ws nn e M i ds) : Mid w wr.drew g p q s L ex ws nn e M i ds := ⟨h.hP, h.hQ, h.hR, h.hS.of_heap rfl, h.hB.drew, h.lp, h.lq, h.len, h.done, h.dig, h.pq, h.gq, h.wp, h.wq⟩
theorem Mid.alloc (h : Mid w wr g p q s L ex ws nn e M i ds) (o : Obj) : Mid w (wr.alloc o) g p q s L ex ws nn e M i ds :=
 ⟨(Below.heap_alloc _ _ _ h.lp).trans h.hP, (Below.heap_alloc _ _ _ h.lq).trans h.hQ, (Below.heap_alloc _ _ _ (Nat.lt_trans h.wp h.lp)).trans h.hR, h.hS.of_heap (Below.heap_alloc _ _ _ h.hS.lt), h.hB.alloc h.hB.size o, by have := h.lp; simp; omega, by have := h.lq; simp; omega, h.len, h.done, h.dig, h.pq, h.gq, h.wp, h.wq⟩
theorem Mid.cell (h : Mid w wr g p q s L ex ws nn e M i ds) {j : Nat} (hj : j < nn) : wr.cell? ⟨q, j, none⟩ = some (.int .u32 (ds[j]?.getD 0)) := by
 rw [cell_of_row wr q j _ _ _ h.hQ]
 exact rowU_get ds (by rw [h.len]; exact hj)
theorem Mid.free (h : Mid w wr g p q s L ex ws nn e M i ds) (j : Nat) : wr.frozen? ⟨q, j, none⟩ = false := frozen_of_row wr q j _ _ h.hQ
theorem Mid.set (h : Mid w wr g p q s L ex ws nn e M i ds) {d : Nat} (hi : i < nn) (hd : d < 4294967296) (hv : d = M / 4294967296 ^ i % 4294967296) : Mid w (wr.setCell ⟨q, i, none⟩ (.int .u32 d)) g p q s L ex ws nn e M (i + 1) (ds.set i (d : Int)) :=
 ⟨(heap_setCell_other _ _ _ _ h.pq).trans h.hP, by rw [heap_setCell_same wr q i _ _ _ h.hQ, rowU_set], (heap_setCell_other _ _ _ _ (Nat.ne_of_lt h.wq)).trans h.hR, h.hS.of_heap (heap_setCell_other _ _ _ _ (Nat.ne_of_lt h.gq)),
  h.hB.setCell (Nat.le_of_lt h.wq) _, by have := h.lp; simpa [World.setCell] using this, by have := h.lq; simpa [World.setCell] using this, by rw [List.length_set, h.len], fun j hj => by
   by_cases hji : j = i
   · subst hji
     rw [List.getElem?_set_self (by rw [h.len]; exact hi), ← hv]
     rfl
   · rw [set_far _ _ (fun e => hji e.symm)]
     exact h.done j (by omega), dig_set h.dig i d hd, h.pq, h.gq, h.wp, h.wq⟩
end
end Dy
end Go.Proofs.Ytbbnbgllgomolaa
namespace Go.Proofs.Ytbbnbgllgomolaa
open Go.RowKit
namespace Dy
open Dp
set_option maxHeartbeats 800000 in
set_option maxRecDepth 100000 in
/-- limb.cut. -/
theorem cut_any (w : World) (lo hi : Nat) (A : Option Addr) (n c : Nat) (xs : List Int) (h : Ints w lo hi .u32 A n xs) (hd : Dig 4294967296 xs) (hnc : n ≤ c) (v : Nat) (hv : num 4294967296 xs = v) :
  Calls Try.prog 114 #[.slice A n c] w fun e w' => (∃ m, e = .returned (.slice A m m) ∧ m ≤ n ∧ Ints w lo hi .u32 A m (canon 4294967296 v)) ∧ w' = w := by
 have hl := Lib.hid h.len
 have hbig := h.big
 have HV := Lib.hid hv
 clear hv
 go_enter Try.func114, Try.ntmps114
 go_wp2
 go_loopw [3] (fun i wr => ∃ k : Nat, i = .int .i64 k ∧ k ≤ n ∧ Hid (num 4294967296 (xs.take k) = num 4294967296 xs) ∧ wr = w) (fun i _ => (intOf i).toNat)
 case atStart => exact ⟨n, rfl, Nat.le_refl _, by rw [Hid, List.take_of_length_le (by rw [hl.out]; exact Nat.le_refl _)], rfl⟩
 case round =>
  obtain ⟨k, rfl, hk, hn, rfl⟩ := hrel
  rcases k with _ | j
  · have he := cut_stop (by decide) hd (Nat.zero_le _) hn.out (.inl rfl)
    have hI := h.take_ (m := 0) (Nat.zero_le _)
    rw [he, HV.out] at hI
    clear he
    go_wp2
    go_ret
    exact ⟨⟨0, rfl, Nat.zero_le _, hI⟩, by trivial⟩
  · obtain ⟨b, off, rfl, hcell⟩ := get h (by omega)
    have g1 : wr.cell? ⟨b, off + j, none⟩ = some (.int .u32 (xs[j]?.getD 0)) := hcell j (by omega)
    clear hcell
    have ej : ((j + 1 : Nat) : Int) - 1 = (j : Int) := by omega
    by_cases hz : xs[j]?.getD 0 = 0
    · have hn2 := Lib.hid (cut_on (by rw [hl.out]; omega) hn.out hz)
      rw [hz] at g1
      clear hz
      go_wp2
      go_roundw
      case rel => exact ⟨j, by first | rfl | (congr 1; omega), by omega, hn2, by trivial⟩
      case measure => first | (simp [intOf]; done) | (simp [intOf]; omega)
    · have he := cut_stop (by decide) hd (by rw [hl.out]; omega) hn.out (.inr (by simpa using hz))
      have hI := h.take_ (m := j + 1) hk
      rw [he, HV.out] at hI
      have hb : (xs[j]?.getD 0 == 0) = false := by simpa using hz
      clear he hz
      go_wp2
      go_ret
      exact ⟨⟨j + 1, rfl, hk, hI⟩, by trivial⟩
theorem heapAll {g : Nat} {w : World} {x} (o) (h : w.heap[g]? = some x) : (w.alloc o).heap[g]? = some x := (Below.heap_alloc _ _ _ (Array.getElem?_eq_some_iff.1 h).1).trans h
/-- A box of three behind an alloc. -/
theorem boxA {w : World} {g : Nat} {x y z : Value} {t : TypeId} (h : w.heap[g]? = some (.cells #[x, y, z] t (0, 0))) :
  (∀ o, (w.alloc o).cell? ⟨g, 0, none⟩ = some x) ∧ (∀ o, (w.alloc o).cell? ⟨g, 1, none⟩ = some y) ∧ (∀ o, (w.alloc o).cell? ⟨g, 2, none⟩ = some z) ∧ (∀ o, (w.alloc o).frozen? ⟨g, 0, none⟩ = false) ∧ (∀ o, (w.alloc o).frozen? ⟨g, 1, none⟩ = false) ∧ (∀ o, (w.alloc o).frozen? ⟨g, 2, none⟩ = false) :=
 ⟨fun o => (boxD (heapAll o h)).1.1, fun o => (boxD (heapAll o h)).1.2.1, fun o => (boxD (heapAll o h)).1.2.2, fun o => (boxD (heapAll o h)).2.1, fun o => (boxD (heapAll o h)).2.2.1, fun o => (boxD (heapAll o h)).2.2.2⟩
theorem ints_new (w : World) (t : TypeId) (x y : Int) (hx : 0 ≤ x ∧ x ≤ 4294967295) (hy : 0 ≤ y ∧ y ≤ 4294967295) : Ints (w.alloc (.cells #[.int .u32 x, .int .u32 y] t)) w.heap.size (w.heap.size + 1) .u32 (some ⟨w.heap.size, 0, none⟩) 2 [x, y] := by
 refine ⟨rfl, fun z hz => ?_, by omega, fun _ => ⟨w.heap.size, 0, rfl, Nat.le_refl _, by omega, fun j hj => ?_⟩⟩
 · simp only [List.mem_cons, List.not_mem_nil, or_false] at hz
   have h : 0 ≤ z ∧ z ≤ 4294967295 := by rcases hz with rfl | rfl <;> assumption
   simpa [IntKind.min, IntKind.max, IntKind.signed, IntKind.bits] using h
 · have : j = 0 ∨ j = 1 := by omega
   rcases this with rfl | rfl <;> simp [go_sem]
set_option maxHeartbeats 800000 in
set_option maxRecDepth 100000 in
/-- limb.Of. -/
theorem limbOf_any (w : World) (v : Nat) (hv : v < 18446744073709551616) (z : Int) (hz : z = v) :
  Calls Try.prog 84 #[.int .u64 z] w fun e w' => ∃ A n, e = .returned (.slice A n n) ∧ Below w.heap.size w w' ∧ Ints w' w.heap.size w'.heap.size .u32 A n (canon 4294967296 v) := by
 subst hz
 have hi := ints_new w 70 ((v : Int) % 4294967296) ((v : Int) / 4294967296) (by omega) (by omega)
 have hd : Dig 4294967296 [(v : Int) % 4294967296, (v : Int) / 4294967296] := fun x hx => by
  simp only [List.mem_cons, List.not_mem_nil, or_false] at hx
  rcases hx with rfl | rfl <;> omega
 have hn : num 4294967296 [(v : Int) % 4294967296, (v : Int) / 4294967296] = v := by
  simp only [num]
  omega
 have HN := Lib.hid hn
 have HD := Lib.hid hd
 clear hn hd
 go_enter Try.func84, Try.ntmps84
 go_wp2_with fail
 refine (cut_any _ w.heap.size (w.heap.size + 1) _ 2 2 _ hi HD.out (Nat.le_refl _) v HN.out).mono ?_
 rintro e w1 ⟨⟨m, rfl, hm, hI⟩, rfl⟩
 go_wp2
 go_ret
 exact ⟨_, m, rfl, (Below.refl _ _).alloc (Nat.le_refl _) _, hI.more (Nat.le_refl _) (by simp)⟩
set_option maxHeartbeats 1600000 in
set_option maxRecDepth 100000 in
/-- dyad.Of. -/
theorem Of_any (w : World) (z : Int) (h0 : -9223372036854775808 ≤ z) (h1 : z ≤ 9223372036854775807) (s : Bool) (v : Nat) (hs : decide (z < 0) = s) (hv : z.natAbs = v) :
  Calls Try.prog 43 #[.int .i64 z] w fun e w' => ∃ A n, e = .returned (.agg #[.bool s, .slice A n n, .int .i64 0]) ∧ Below w.heap.size w w' ∧ Ints w' w.heap.size w'.heap.size .u32 A n (canon 4294967296 v) := by
 have HV := Lib.hid hv
 by_cases hneg : z < 0
 · have : s = true := by rw [← hs]; simpa using hneg
   subst this
   clear hs hv
   obtain ⟨U, hU⟩ : ∃ U : Nat, (U : Int) = z + 18446744073709551616 := ⟨(z + 18446744073709551616).toNat, by omega⟩
   have e1 : IntKind.u64.wrap z = U := by rw [IntKind.wrap_u64]; omega
   have HU := Lib.hid hU
   have hU2 : U ≤ 18446744073709551615 := by omega
   have hU3 : 0 < U := by omega
   clear hU
   go_enter Try.func43, Try.ntmps43
   go_wp2_with fail
   refine (limbOf_any _ U (by omega) _ rfl).mono ?_
   rintro e w1 ⟨A1, n1, rfl, hB1, hI1⟩
   have hs1 := hB1.size
   simp at hs1
   have hb1 := (hB1.block w.heap.size (by simp)).trans (heap_alloc_last w _)
   have hBB := ((Below.refl w.heap.size w).alloc (Nat.le_refl _) (.cells #[.bool false, .slice none 0 0, .int .i64 0] 25)).trans (hB1.mono (by simp))
   clear hB1 hI1
   have hn0 := heap_alloc_last w1 (.cells #[.bool true, .slice A1 n1 n1, .int .i64 0] 25)
   have hr0 := heapAll (.cells #[.bool true, .slice A1 n1 n1, .int .i64 0] 25) hb1
   have hB0 := hBB.alloc (by omega) (.cells #[.bool true, .slice A1 n1 n1, .int .i64 0] 25)
   obtain ⟨y0, y1, y2, y3, y4, y5⟩ := boxA hb1
   go_wp2_with fail
   have hv2 : (-(U : Int)) % 18446744073709551616 = v := by have := HU.out; have := HV.out; omega
   refine (limbOf_any _ v (by have := HV.out; omega) _ (by first | omega | (rw [IntKind.wrap_u64]; omega))).mono ?_
   rintro e w2 ⟨A2, n2, rfl, hB2, hI2⟩
   have hs2 := hB2.size
   simp at hs2
   have hb2 := (hB2.block w.heap.size (by simp; omega)).trans hr0
   have hc2 := (hB2.block w1.heap.size (by simp)).trans hn0
   have hB3 := hB0.trans (hB2.mono (by simp; omega))
   have HI := Lib.hid hI2
   clear hB2 hI2 hn0 hr0 hB0 y0 y1 y2 y3 y4 y5
   obtain ⟨⟨x0, x1, x2⟩, x3, x4, x5⟩ := boxD hb2
   obtain ⟨⟨z0, z1, z2⟩, z3, z4, z5⟩ := boxD hc2
   have hne : w.heap.size ≠ w1.heap.size := by omega
   have hne2 : w1.heap.size ≠ w.heap.size := by omega
   go_wp2
   refine bodyPost_ret (v := .agg #[.bool true, .slice A2 n2 n2, .int .i64 0]) (by simp [results, Try.results43, go_sem, x0, x1, x2]) rfl ⟨A2, n2, rfl, ?_, ?_⟩
   · exact (((hB3.setCell (by simp; omega) _).setCell (Nat.le_refl _) _).setCell (Nat.le_refl _) _).setCell (Nat.le_refl _) _
   · refine Ints.more (lo := w1.heap.size + 1) (hi := w2.heap.size) ?_ (by omega) (by simp [World.setCell])
     have h := HI.out
     simp only [World.size_alloc] at h
     exact ints_far (ints_far (ints_far (ints_far h (.inl (by simp)) _) (.inl (by simp; omega)) _) (.inl (by simp; omega)) _) (.inl (by simp; omega)) _
 · have : s = false := by rw [← hs]; simpa using hneg
   subst this
   have h2 : 0 ≤ z := by omega
   clear hs hv
   go_enter Try.func43, Try.ntmps43
   go_wp2_with fail
   refine (limbOf_any _ v (by have := HV.out; omega) _ (by have := HV.out; first | omega | (rw [IntKind.wrap_u64]; omega))).mono ?_
   rintro e w1 ⟨A1, n1, rfl, hB1, hI1⟩
   have hs1 := hB1.size
   simp at hs1
   have hb1 := (hB1.block w.heap.size (by simp)).trans (heap_alloc_last w _)
   have hBB := ((Below.refl w.heap.size w).alloc (Nat.le_refl _) (.cells #[.bool false, .slice none 0 0, .int .i64 0] 25)).trans (hB1.mono (by simp))
   obtain ⟨y0, y1, y2, y3, y4, y5⟩ := boxA hb1
   have hne : w.heap.size ≠ w1.heap.size := by omega
   have hne2 : w1.heap.size ≠ w.heap.size := by omega
   have HI := Lib.hid hI1
   clear hB1 hI1
   go_wp2
   refine bodyPost_ret (v := .agg #[.bool false, .slice A1 n1 n1, .int .i64 0]) (by simp [results, Try.results43, go_sem, y0, y1, y2]) rfl ⟨A1, n1, rfl, ?_, ?_⟩
   · exact (((hBB.alloc (by omega) _).setCell (Nat.le_refl _) _).setCell (Nat.le_refl _) _).setCell (Nat.le_refl _) _
   · refine Ints.more (lo := w.heap.size + 1) (hi := w1.heap.size) ?_ (by omega) (by simp [World.setCell])
     have h := HI.out
     simp only [World.size_alloc] at h
     exact ints_far (ints_far (ints_far (h.alloc (Nat.le_refl _) _) (.inl (by simp)) _) (.inl (by simp)) _) (.inl (by simp)) _
end Dy
end Go.Proofs.Ytbbnbgllgomolaa
namespace Go.Proofs.Ytbbnbgllgomolaa
open Go.RowKit
namespace Dy
open Dp
/-- What stands amid the rounds of 'Right'. -/
structure RightI (w wr : World) (q : Nat) (M i n : Nat) (ds : List Int) : Prop where
 hQ : wr.heap[q]? = some (.cells (rowU ds) 70 (0, 0))
 hB : Below w.heap.size w wr
 lq : w.heap.size ≤ q
 len : ds.length = n
 dig : Dig 4294967296 ds
 done : ∀ j, j < i → ds[j]?.getD 0 = ((M / 4294967296 ^ j % 4294967296 : Nat) : Int)
theorem RightI.set {w wr : World} {q M i n : Nat} {ds : List Int} (h : RightI w wr q M i n ds) {d : Nat} (hi : i < n) (hd : d < 4294967296) (hv : d = M / 4294967296 ^ i % 4294967296) : RightI w (wr.setCell ⟨q, i, none⟩ (.int .u32 d)) q M (i + 1) n (ds.set i (d : Int)) :=
 ⟨by rw [heap_setCell_same wr q i _ _ _ h.hQ, rowU_set], h.hB.setCell h.lq _, h.lq, by rw [List.length_set, h.len], dig_set h.dig i d hd, fun j hj => by
  by_cases hji : j = i
  · subst hji
    rw [List.getElem?_set_self (by rw [h.len]; exact hi), ← hv]
    rfl
  · rw [set_far _ _ (fun e => hji e.symm)]
    exact h.done j (by omega)⟩
theorem RightI.drewN {w wr : World} {q M i n : Nat} {ds : List Int} (h : RightI w wr q M i n ds) (m : Nat) : RightI w (wr.drewN m) q M i n ds := ⟨h.hQ, ⟨h.hB.os, h.hB.tape, h.hB.output, h.hB.size, h.hB.block⟩, h.lq, h.len, h.dig, h.done⟩
end Dy
end Go.Proofs.Ytbbnbgllgomolaa
namespace Go.Proofs.Ytbbnbgllgomolaa
open Go.RowKit
namespace Dy
theorem num_last (B : Nat) (l : List Int) (h : l ≠ []) : num B l = num B l.dropLast + B ^ (l.length - 1) * (l.getLast h).toNat := by
 conv => lhs; rw [← List.dropLast_concat_getLast h]
 rw [num_append]
 simp [num]
theorem num_ge {B : Nat} {l : List Int} (hd : Dig B l) (hc : Cutd l) (h : l ≠ []) : B ^ (l.length - 1) ≤ num B l := by
 rw [num_last B l h]
 have h1 := hc h
 have h2 := hd _ (List.getLast_mem h)
 have : B ^ (l.length - 1) * 1 ≤ B ^ (l.length - 1) * (l.getLast h).toNat := Nat.mul_le_mul_left _ (by omega)
 omega
/-- The digits from place i on, below place t. -/
def part (l : List Int) (i t : Nat) : List Int := (l.take t).drop i
end Dy
end Go.Proofs.Ytbbnbgllgomolaa
namespace Go.Proofs.Ytbbnbgllgomolaa
namespace Dp
open Dy
theorem canon_len_le {M k : Nat} (h : M < 4294967296 ^ k) : (canon 4294967296 M).length ≤ k := by
 by_cases h0 : canon 4294967296 M = []
 · rw [h0]
   exact Nat.zero_le _
 · obtain ⟨d, c, n⟩ := canon_spec 4294967296 M (by decide)
   have h1 := num_ge d c h0
   rw [n] at h1
   by_cases hle : (canon 4294967296 M).length ≤ k
   · exact hle
   · have := Nat.pow_le_pow_right (show 0 < 4294967296 by decide) (show k ≤ (canon 4294967296 M).length - 1 by omega)
     omega
end Dp
end Go.Proofs.Ytbbnbgllgomolaa
namespace Go.Proofs.Ytbbnbgllgomolaa
open Go.RowKit
namespace Dy
open Dp
theorem intsR {w w' : World} {lo hi n : Nat} {k : IntKind} {A : Option Addr} {xs : List Int} (h : Ints w lo hi k A n xs) (hk : ∀ b, lo ≤ b → b < hi → w'.heap[b]? = w.heap[b]?) : Ints w' lo hi k A n xs :=
 ⟨h.len, h.wf, h.big, fun h0 => by
  obtain ⟨b, off, e, h1, h2, hc⟩ := h.row h0
  have h3 := hk b h1 h2
  exact ⟨b, off, e, h1, h2, fun j hj => ⟨by rw [World.cell?_of_block h3]; exact (hc j hj).1, by rw [World.frozen?_of_block h3]; exact (hc j hj).2⟩⟩⟩
end Dy
end Go.Proofs.Ytbbnbgllgomolaa