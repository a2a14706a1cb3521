/- RegionE's way through a region that draws its order, for the body of an iterator (inside a wide fence): a call of yield may be met. No program in sight. -/
/- A number under way as a dyad: a walk. -/
/- A number's dyad: walks. -/
/- limb.at, limb.asked, limb.Right: walks. -/
/- The limbs of bits, by a walk. -/
/- (*ratio.wide).form: a walk (printed by a program of mine). -/
/- ratio.divide: a walk (printed by a program of mine). -/
/- Slices of limbs: whether two are the same, copies: walks. -/
import Derived.OrdersIn
import Derived.CallsIn
import Derived.Test.YtbbnbgllgomolaaBx02
import Derived.Test.YtbbnbgllgomolaaBx01
import Derived.Deep.Cut
import Derived.Lib.MinMax
import Derived.Laws.EntriesVeiled
import Derived.Laws.StructEq
import Derived.Test.YtbbnbgllgomolaaProg
import Derived.Lib.SmallJoins
import Derived.RangeFuncNested
namespace Go.Proofs.Ytbbnbgllgomolaa
open Go.RowKit
section
variable {P : Program} {ops : Array Oper} {os : List Oper} {Q : Exit → Act → World → Prop} {md : Region.Mode} {S : World → Prop} {nf : Nat} {E : List Nat}
theorem opIn_putIf {j : Nat} {oi oj : Oper} {v : Value} (hj : ops[j]? = some oj) (hap : oi.apart ops oj = true)
  (hsi : ∀ cs b, oi.op ≠ .select cs b) (hsj : ∀ cs b, oj.op ≠ .select cs b)
  (hQ : ∀ c a w, Q (.panic c) (a.put oi.dst v) w → Q (.panic c) a w) {K : Act → World → Prop} {a : Act} {w : World}
  (hy : YieldsIf P ops S oi v a) (h : wpOpIn Fence.wide nf P ops Q j K (a.put oi.dst v) w) :
  wpOpIn Fence.wide nf P ops Q j (fun a' w' => YieldsIf P ops S oi v a' ∧ K (a'.put oi.dst v) w') a w := by
 obtain ⟨h1, h2, h3⟩ := Oper.apart_spec hap
 have keep : ∀ (a : Act), YieldsIf P ops S oi v a → ∀ u, YieldsIf P ops S oi v (a.put oj.dst u) := fun a hy u =>
  hy.of_same (execOp_put oi hsi a oj.dst u h3) (wanted_put oi a oj.dst u h3)
 have keepD : ∀ d, YieldsIf P ops S oi v { a with defers := d :: a.defers } := fun d => hy.of_same rfl rfl
 unfold wpOpIn at *
 simp only [hj] at *
 rw [wanted_put oj a oi.dst v h1] at h
 split
 · rename_i hw
   simp only [hw, if_true] at h
   unfold Oper.wpIn at *
   refine ⟨fun _ _ => trivial, ?_⟩
   have h := h.2
   rw [show Fence.wide.round = none from rfl, Oper.semAt_none, execOp_put oj hsj a oi.dst v h1] at h
   rw [show Fence.wide.round = none from rfl, Oper.semAt_none]
   generalize (execOp a.eval oj).run P w = r at *
   cases r with
   | ok x w' =>
    cases x <;> simp only [Oper.uponIn] at h ⊢
    case value u => exact ⟨keep a hy u, by rw [← Act.put_comm a v u h2]; exact h⟩
    case skip => exact ⟨keep a hy _, by rw [← Act.put_comm a v undef h2]; exact h⟩
    case defer d =>
     refine ⟨keep _ (keepD d) _, ?_⟩
     rw [← Act.put_comm _ v undef h2, ← Act.put_defers]
     exact h
    case enter f args =>
     refine ⟨h.1, CallsIn.mono h.2 fun e w'' he => ?_⟩
     cases e with
     | returned u => exact ⟨keep a hy u, by rw [← Act.put_comm a v u h2]; exact he⟩
     | panicked c => exact hQ _ _ _ he
     | outgrown => exact he
    case row row args => exact ⟨h.1, RowsIn.mono h.2 fun u w'' he => ⟨keep a hy u, by rw [← Act.put_comm a v u h2]; exact he⟩⟩
    case round l f tmps assign body =>
     refine ⟨h.1, RoundIn.mono h.2 fun e w'' he => ?_⟩
     cases e with
     | returned u => exact ⟨keep a hy u, by rw [← Act.put_comm a v u h2]; exact he⟩
     | panicked c => exact hQ _ _ _ he
     | outgrown => exact he
   | halt x w' =>
    cases x <;> simp only [Oper.uponIn] at h ⊢
    case panic u => exact hQ _ _ _ h
 · rename_i hw
   simp only [hw] at h
   exact ⟨fun _ _ => trivial, keep a hy _, by rw [← Act.put_comm a v undef h2]; exact h.2⟩
theorem opIn_take {i : Nat} {o : Oper} {v : Value} {a : Act} (hi : ops[i]? = some o) (hy : YieldsIf P ops S o v a)
  {K : Act → World → Prop} {w : World} (hS : S w) (h : K (a.put o.dst v) w) : wpOpIn Fence.wide nf P ops Q i K a w := by
 unfold wpOpIn
 simp only [hi]
 rcases hy with ⟨hw, hv⟩ | ⟨hw, rfl⟩
 · simp only [hw, if_true, Oper.wpIn, show Fence.wide.round = none from rfl, Oper.semAt_none, hv w hS, Oper.uponIn]
   exact ⟨fun _ _ => trivial, h⟩
 · simp only [hw, Bool.false_eq_true, if_false]
   exact ⟨fun _ _ => trivial, h⟩
/-- Whatever order is picked, S holds behind each operation but those of E. -/
def wpAnyJ (nf : Nat) (P : Program) (md : Region.Mode) (ops : Array Oper) (Q : Exit → Act → World → Prop) (S : World → Prop) (E : List Nat) : Nat → Array Bool → Act → World → Prop
 | 0, L, a, w => Region.ready md ops L = [] ∧ Q .normal a w
 | n + 1, L, a, w => (Region.ready md ops L = [] → Q .normal a w) ∧ ∀ i ∈ Region.ready md ops L, wpOpIn Fence.wide nf P ops Q i (fun a' w' => (E.contains i = false → S w → S w') ∧ wpAnyJ nf P md ops Q S E n (L.setIfInBounds i true) a' w') a w
theorem any_of_J : ∀ (n : Nat) (L : Array Bool) (a : Act) (w : World), wpAnyJ nf P md ops Q S E n L a w → wpAnyIn Fence.wide nf P md ops Q n L a w
 | 0, _, _, _, h => h
 | n + 1, _, _, _, h => ⟨h.1, fun i hi => wpOpIn_mono (fun a' w' h' => any_of_J n _ a' w' h'.2) (h.2 i hi)⟩
theorem getD_set_true {L : Array Bool} {j k : Nat} (h : L.getD k true = true) : (L.setIfInBounds j true).getD k true = true := by
 by_cases e : j = k
 · subst e
   rcases Nat.lt_or_ge j L.size with h' | h'
   · simp [h']
   · rw [Array.setIfInBounds_eq_of_size_le h']
     exact h
 · rw [getD_set_ne true e]
   exact h
theorem firstJ {i : Nat} {oi : Oper} {v : Value} (hi : ops[i]? = some oi) (hsel : ∀ (j : Nat) (o : Oper) cs b, ops[j]? = some o → o.op ≠ .select cs b)
  (hQ : ∀ c a w, Q (.panic c) (a.put oi.dst v) w → Q (.panic c) a w) :
  ∀ (n : Nat) (L : Array Bool) (a : Act) (w : World), (∀ k, E.contains k = true → L.getD k true = true ∨ waitsE md ops k i = true) →
   (∀ j oj, ops[j]? = some oj → j ≠ i → L.getD j true = false → (∀ e ∈ oj.after, Region.binds md e = true → e.on ≠ i) → oi.apart ops oj = true) →
   i ∈ Region.ready md ops L → YieldsIf P ops S oi v a → S w → wpAnyJ nf P md ops Q S E n (L.setIfInBounds i true) (a.put oi.dst v) w → wpAnyJ nf P md ops Q S E (n + 1) L a w := by
 intro n
 induction n with
 | zero =>
  intro L a w _ _ hr hy hS H
  refine ⟨fun h => (by rw [h] at hr; cases hr), fun j hj => ?_⟩
  by_cases hji : j = i
  · subst hji
    exact opIn_take hi hy hS ⟨fun _ h => h, H⟩
  · have := ready_mono hj hji
    rw [H.1] at this
    cases this
 | succ n ih =>
  intro L a w hw hfree hr hy hS H
  refine ⟨fun h => (by rw [h] at hr; cases hr), fun j hj => ?_⟩
  by_cases hji : j = i
  · subst hji
    exact opIn_take hi hy hS ⟨fun _ h => h, H⟩
  · have h1 := H.2 j (ready_mono hj hji)
    obtain ⟨hjun, oj, hoj, hall⟩ := mem_ready.1 hj
    have hnot := not_afterE hoj hr hj
    have h2 := opIn_putIf hoj (hfree j oj hoj hji hjun hnot) (fun cs b => hsel i oi cs b hi) (fun cs b => hsel j oj cs b hoj) hQ hy h1
    have hjk : E.contains j = false := by
     cases hc : E.contains j
     · rfl
     · rcases hw j hc with k1 | k2
       · rw [hjun] at k1
         cases k1
       · exact absurd hj (not_readyE k2 hr)
    refine wpOpIn_mono (fun a' w' h3 => ⟨h3.2.1, ih (L.setIfInBounds j true) a' w' (fun k hk => (hw k hk).imp getD_set_true id) (fun m om hm hmi hun hno => ?_) (ready_mono hr (Ne.symm hji)) h3.1 (h3.2.1 hjk hS) ?_⟩) h2
    · refine hfree m om hm hmi ?_ hno
      by_cases hjm : j = m
      · subst hjm
        exact hjun
      · rw [getD_set_ne true hjm] at hun
        exact hun
    · rw [Array.setIfInBounds_comm _ _ hji]
      exact h3.2.2
theorem firstU {i : Nat} {oi : Oper} {v : Value} (hi : ops[i]? = some oi) (hsel : ∀ (j : Nat) (o : Oper) cs b, ops[j]? = some o → o.op ≠ .select cs b)
  (hQ : ∀ c a w, Q (.panic c) (a.put oi.dst v) w → Q (.panic c) a w) :
  ∀ (n : Nat) (L : Array Bool) (a : Act) (w : World),
   (∀ j oj, ops[j]? = some oj → j ≠ i → L.getD j true = false → (∀ e ∈ oj.after, Region.binds md e = true → e.on ≠ i) → oi.apart ops oj = true) →
   i ∈ Region.ready md ops L → YieldsIf P ops (fun _ => True) oi v a → wpAnyJ nf P md ops Q S E n (L.setIfInBounds i true) (a.put oi.dst v) w → wpAnyJ nf P md ops Q S E (n + 1) L a w := by
 intro n
 induction n with
 | zero =>
  intro L a w _ hr hy H
  refine ⟨fun h => (by rw [h] at hr; cases hr), fun j hj => ?_⟩
  by_cases hji : j = i
  · subst hji
    exact opIn_take (S := fun _ => True) hi hy trivial ⟨fun _ h => h, H⟩
  · have := ready_mono hj hji
    rw [H.1] at this
    cases this
 | succ n ih =>
  intro L a w hfree hr hy H
  refine ⟨fun h => (by rw [h] at hr; cases hr), fun j hj => ?_⟩
  by_cases hji : j = i
  · subst hji
    exact opIn_take (S := fun _ => True) hi hy trivial ⟨fun _ h => h, H⟩
  · have h1 := H.2 j (ready_mono hj hji)
    obtain ⟨hjun, oj, hoj, hall⟩ := mem_ready.1 hj
    have hnot := not_afterE hoj hr hj
    have h2 := opIn_putIf (S := fun _ => True) hoj (hfree j oj hoj hji hjun hnot) (fun cs b => hsel i oi cs b hi) (fun cs b => hsel j oj cs b hoj) hQ hy h1
    refine wpOpIn_mono (fun a' w' h3 => ⟨h3.2.1, ih (L.setIfInBounds j true) a' w' (fun m om hm hmi hun hno => ?_) (ready_mono hr (Ne.symm hji)) h3.1 ?_⟩) h2
    · refine hfree m om hm hmi ?_ hno
      by_cases hjm : j = m
      · subst hjm
        exact hjun
      · rw [getD_set_ne true hjm] at hun
        exact hun
    · rw [Array.setIfInBounds_comm _ _ hji]
      exact h3.2.2
/-- A read: it may be taken first. -/
theorem readJ {i n : Nat} {oi : Oper} {v : Value} {listed L : Array Bool} {a : Act} {w : World} (hi : os[i]? = some oi) (hL : listed.setIfInBounds i true = L)
  (hs : Region.noSelect os.toArray = true) (hf : (Region.free md os.toArray listed i && E.all fun k => listed.getD k true || waitsE md os.toArray k i) = true) (hr : (Region.ready md os.toArray listed).contains i = true)
  (hQ : ∀ c a w, Q (.panic c) (a.put oi.dst v) w → Q (.panic c) a w) (hS : S w) (hw : Region.wanted oi (yielded os.toArray a.tmps) = true) (hy : ∀ w, S w → (execOp a.eval oi).run P w = .ok (.value v) w)
  (h : wpAnyJ nf P md os.toArray Q S E n L (a.put oi.dst v) w) : wpAnyJ nf P md os.toArray Q S E (n + 1) listed a w := by
 have hi' : os.toArray[i]? = some oi := by simpa using hi
 rw [Bool.and_eq_true] at hf
 exact firstJ hi' (Region.noSelect_spec hs) hQ n listed a w (fun k hk => by simpa using List.all_eq_true.1 hf.2 k (by simpa using hk)) (Region.free_spec hi' hf.1) (by simpa using hr) (Or.inl ⟨hw, hy⟩) hS (hL ▸ h)
/-- What yields one value in whatever world: it may be taken first. -/
theorem pureJ {i n : Nat} {oi : Oper} {v : Value} {listed L : Array Bool} {a : Act} {w : World} (hi : os[i]? = some oi) (hL : listed.setIfInBounds i true = L)
  (hs : Region.noSelect os.toArray = true) (hf : Region.free md os.toArray listed i = true) (hr : (Region.ready md os.toArray listed).contains i = true)
  (hQ : ∀ c a w, Q (.panic c) (a.put oi.dst v) w → Q (.panic c) a w) (hw : Region.wanted oi (yielded os.toArray a.tmps) = true) (hy : ∀ w, (execOp a.eval oi).run P w = .ok (.value v) w)
  (h : wpAnyJ nf P md os.toArray Q S E n L (a.put oi.dst v) w) : wpAnyJ nf P md os.toArray Q S E (n + 1) listed a w := by
 have hi' : os.toArray[i]? = some oi := by simpa using hi
 exact firstU hi' (Region.noSelect_spec hs) hQ n listed a w (Region.free_spec hi' hf) (by simpa using hr) (Or.inl ⟨hw, fun w _ => hy w⟩) (hL ▸ h)
/-- An operation whose guard says no. -/
theorem skipJ {i n : Nat} {oi : Oper} {listed L : Array Bool} {a : Act} {w : World} (hi : os[i]? = some oi) (hL : listed.setIfInBounds i true = L)
  (hs : Region.noSelect os.toArray = true) (hf : Region.free md os.toArray listed i = true) (hr : (Region.ready md os.toArray listed).contains i = true)
  (hQ : ∀ c a w, Q (.panic c) (a.put oi.dst undef) w → Q (.panic c) a w) (hw : Region.wanted oi (yielded os.toArray a.tmps) = false)
  (h : wpAnyJ nf P md os.toArray Q S E n L (a.put oi.dst undef) w) : wpAnyJ nf P md os.toArray Q S E (n + 1) listed a w := by
 have hi' : os.toArray[i]? = some oi := by simpa using hi
 exact firstU hi' (Region.noSelect_spec hs) hQ n listed a w (Region.free_spec hi' hf) (by simpa using hr) (Or.inr ⟨hw, rfl⟩) (hL ▸ h)
/-- One alone may come up: it is carried out. -/
theorem stepJ {i n : Nat} {oi : Oper} {listed L : Array Bool} {a : Act} {w : World} (hi : os[i]? = some oi) (hL : listed.setIfInBounds i true = L)
  (hr : Region.ready md os.toArray listed = [i]) (hw : Region.wanted oi (yielded os.toArray a.tmps) = true)
  (h : Oper.wpIn Fence.wide nf P oi a w (fun a' w' => (E.contains i = false → S w → S w') ∧ wpAnyJ nf P md os.toArray Q S E n L a' w') Q) :
  wpAnyJ nf P md os.toArray Q S E (n + 1) listed a w := by
 subst hL
 refine ⟨fun h0 => (by rw [hr] at h0; cases h0), fun j hj => ?_⟩
 rw [hr] at hj
 obtain rfl := List.mem_singleton.1 hj
 refine wpOpIn_step (by simpa using hi) (fun K' hK => ?_)
 rw [if_pos hw]
 exact Oper.wpIn_mono (fun a' w' h' => hK a' w' h') h
theorem stepKJ {i n : Nat} {oi : Oper} {listed L : Array Bool} {a : Act} {w : World} (hi : os[i]? = some oi) (hL : listed.setIfInBounds i true = L)
  (hr : Region.ready md os.toArray listed = [i]) (hw : Region.wanted oi (yielded os.toArray a.tmps) = true)
  (h : ∀ K' : Act → World → Prop, (∀ a w', ((E.contains i = false → S w → S w') ∧ wpAnyJ nf P md os.toArray Q S E n L a w') → K' a w') → Oper.wpIn Fence.wide nf P oi a w K' Q) :
  wpAnyJ nf P md os.toArray Q S E (n + 1) listed a w :=
 stepJ hi hL hr hw (h _ (fun _ _ h => h))
theorem doneJ {L : Array Bool} {a : Act} {w : World} (hr : Region.ready md ops L = []) (h : Q .normal a w) : ∀ n, wpAnyJ nf P md ops Q S E n L a w
 | 0 => ⟨hr, h⟩
 | _ + 1 => ⟨fun _ => h, by rw [hr]; simp⟩
theorem region_J (S : World → Prop) (E : List Nat) {id m : Nat} {L : Array Bool} {a : Act} {w : World} (hm : P.follows .mixedOrders = true) (hsz : os.length = m) (hL : Array.replicate m false = L)
  (h : wpAnyJ nf P .any os.toArray Q S E m L a w.drew) : (Code.region id os.toArray true).wpIn Fence.wide nf P Q a w := by
 subst hsz
 subst hL
 exact wpIn_region_any hm (any_of_J _ _ _ _ h)
end
end Go.Proofs.Ytbbnbgllgomolaa
namespace Go.Proofs.Ytbbnbgllgomolaa
open Go.RowKit
namespace Dy
open Dp
theorem Sum.lt {w : World} {g : Nat} {s : Bool} {L : Value} {ex : Int} {ws : List Int} (h : Sum w g s L ex ws) : g < w.heap.size := (Array.getElem?_eq_some_iff.1 h.blk).1
/-- The table of bits.TrailingZeros32 lies in its variable. -/
structure Tab (w : World) : Prop where
 at_ : TabAt 0 Lib.deBruijn32tab w
theorem Tab.keep {w w' : World} (h : Tab w) (hh : w'.heap[0]? = w.heap[0]?) : Tab w' := ⟨fun j hj => (World.cell?_of_block (w := w) hh).trans (h.at_ j hj)⟩
theorem Tab.lt {w : World} (h : Tab w) : 0 < w.heap.size := block_lt_of_cell (h.at_ 0 (by decide))
theorem Tab.alloc {w : World} (h : Tab w) (o : Obj) : Tab (w.alloc o) := h.keep (Below.heap_alloc _ _ _ h.lt)
theorem Tab.below {B : Nat} {w w' : World} (h : Tab w) (hb : Below B w w') (hB : 0 < B) : Tab w' := h.keep (hb.block 0 hB)
theorem infoU32 : (Try.prog.info? 70).map (fun i => (i.zero, i.size, i.bytes)) = some (some (.int .u32 0), 1, 4) := by kernel_rfl
theorem ints_far {w : World} {lo hi : Nat} {k : IntKind} {A : Option Addr} {n : Nat} {xs : List Int} (h : Ints w lo hi k A n xs) {p : Addr} (hp : p.block < lo ∨ hi ≤ p.block) (u : Value) : Ints (w.setCell p u) lo hi k A n xs :=
 ⟨h.len, h.wf, h.big, fun hn => by
  obtain ⟨b, off, e, h1, h2, hc⟩ := h.row hn
  exact ⟨b, off, e, h1, h2, fun j hj => ⟨(World.cell?_setCell_other w p _ u (fun e => by subst e; simp at hp; omega)).trans (hc j hj).1, (World.frozen?_setCell ..).trans (hc j hj).2⟩⟩⟩
/-- Amid the last loop of form: i limbs are laid. -/
structure Mid (w wr : World) (g p q : Nat) (s : Bool) (L : Value) (ex : Nat) (ws : List Int) (nn : Nat) (e : Int) (M i : Nat) (ds : List Int) : Prop where
 hP : wr.heap[p]? = some (.cells #[.bool s, .slice (some ⟨q, 0, none⟩) nn nn, .int .i64 e] 25 (0, 0))
 hQ : wr.heap[q]? = some (.cells (rowU ds) 70 (0, 0))
 hR : wr.heap[w.heap.size]? = some (.cells #[.bool false, .slice none 0 0, .int .i64 0] 25 (0, 0))
 hS : Sum wr g s L ex ws
 hB : Below w.heap.size w wr
 lp : p < wr.heap.size
 lq : q < wr.heap.size
 len : ds.length = nn
 done : ∀ j, j < i → ds[j]?.getD 0 = ((M / 4294967296 ^ j % 4294967296 : Nat) : Int)
 dig : Dig 4294967296 ds
 pq : p ≠ q
 gq : g < q
 wp : w.heap.size < p
 wq : w.heap.size < q
section
variable {w wr : World} {g p q : Nat} {s : Bool} {L : Value} {ex : Nat} {ws : List Int} {nn : Nat} {e : Int} {M i : Nat} {ds : List Int}
theorem Mid.drew (h : Mid w wr g p q s L ex ws nn e M i ds) : Mid w wr.drew g p q s L ex ws nn e M i ds := ⟨h.hP, h.hQ, h.hR, h.hS.of_heap rfl, h.hB.drew, h.lp, h.lq, h.len, h.done, h.dig, h.pq, h.gq, h.wp, h.wq⟩
theorem Mid.alloc (h : Mid w wr g p q s L ex ws nn e M i ds) (o : Obj) : Mid w (wr.alloc o) g p q s L ex ws nn e M i ds :=
 ⟨(Below.heap_alloc _ _ _ h.lp).trans h.hP, (Below.heap_alloc _ _ _ h.lq).trans h.hQ, (Below.heap_alloc _ _ _ (Nat.lt_trans h.wp h.lp)).trans h.hR, h.hS.of_heap (Below.heap_alloc _ _ _ h.hS.lt), h.hB.alloc h.hB.size o, by have := h.lp; simp; omega, by have := h.lq; simp; omega, h.len, h.done, h.dig, h.pq, h.gq, h.wp, h.wq⟩
theorem Mid.cell (h : Mid w wr g p q s L ex ws nn e M i ds) {j : Nat} (hj : j < nn) : wr.cell? ⟨q, j, none⟩ = some (.int .u32 (ds[j]?.getD 0)) := by
 rw [cell_of_row wr q j _ _ _ h.hQ]
 exact rowU_get ds (by rw [h.len]; exact hj)
theorem Mid.free (h : Mid w wr g p q s L ex ws nn e M i ds) (j : Nat) : wr.frozen? ⟨q, j, none⟩ = false := frozen_of_row wr q j _ _ h.hQ
theorem Mid.set (h : Mid w wr g p q s L ex ws nn e M i ds) {d : Nat} (hi : i < nn) (hd : d < 4294967296) (hv : d = M / 4294967296 ^ i % 4294967296) : Mid w (wr.setCell ⟨q, i, none⟩ (.int .u32 d)) g p q s L ex ws nn e M (i + 1) (ds.set i (d : Int)) :=
 ⟨(heap_setCell_other _ _ _ _ h.pq).trans h.hP, by rw [heap_setCell_same wr q i _ _ _ h.hQ, rowU_set], (heap_setCell_other _ _ _ _ (Nat.ne_of_lt h.wq)).trans h.hR, h.hS.of_heap (heap_setCell_other _ _ _ _ (Nat.ne_of_lt h.gq)),
  h.hB.setCell (Nat.le_of_lt h.wq) _, by have := h.lp; simpa [World.setCell] using this, by have := h.lq; simpa [World.setCell] using this, by rw [List.length_set, h.len], fun j hj => by
   by_cases hji : j = i
   · subst hji
     rw [List.getElem?_set_self (by rw [h.len]; exact hi), ← hv]
     rfl
   · rw [set_far _ _ (fun e => hji e.symm)]
     exact h.done j (by omega), dig_set h.dig i d hd, h.pq, h.gq, h.wp, h.wq⟩
end
end Dy
end Go.Proofs.Ytbbnbgllgomolaa
namespace Go.Proofs.Ytbbnbgllgomolaa
open Go.RowKit
namespace Dy
open Dp
theorem heapAll {g : Nat} {w : World} {x} (o) (h : w.heap[g]? = some x) : (w.alloc o).heap[g]? = some x := (Below.heap_alloc _ _ _ (Array.getElem?_eq_some_iff.1 h).1).trans h
end Dy
end Go.Proofs.Ytbbnbgllgomolaa
namespace Go.Proofs.Ytbbnbgllgomolaa
open Go.RowKit
namespace Dy
open Dp
/-- What stands amid the rounds of 'Right'. -/
structure RightI (w wr : World) (q : Nat) (M i n : Nat) (ds : List Int) : Prop where
 hQ : wr.heap[q]? = some (.cells (rowU ds) 70 (0, 0))
 hB : Below w.heap.size w wr
 lq : w.heap.size ≤ q
 len : ds.length = n
 dig : Dig 4294967296 ds
 done : ∀ j, j < i → ds[j]?.getD 0 = ((M / 4294967296 ^ j % 4294967296 : Nat) : Int)
theorem RightI.set {w wr : World} {q M i n : Nat} {ds : List Int} (h : RightI w wr q M i n ds) {d : Nat} (hi : i < n) (hd : d < 4294967296) (hv : d = M / 4294967296 ^ i % 4294967296) : RightI w (wr.setCell ⟨q, i, none⟩ (.int .u32 d)) q M (i + 1) n (ds.set i (d : Int)) :=
 ⟨by rw [heap_setCell_same wr q i _ _ _ h.hQ, rowU_set], h.hB.setCell h.lq _, h.lq, by rw [List.length_set, h.len], dig_set h.dig i d hd, fun j hj => by
  by_cases hji : j = i
  · subst hji
    rw [List.getElem?_set_self (by rw [h.len]; exact hi), ← hv]
    rfl
  · rw [set_far _ _ (fun e => hji e.symm)]
    exact h.done j (by omega)⟩
theorem RightI.drewN {w wr : World} {q M i n : Nat} {ds : List Int} (h : RightI w wr q M i n ds) (m : Nat) : RightI w (wr.drewN m) q M i n ds := ⟨h.hQ, ⟨h.hB.os, h.hB.tape, h.hB.output, h.hB.size, h.hB.block⟩, h.lq, h.len, h.dig, h.done⟩
end Dy
end Go.Proofs.Ytbbnbgllgomolaa
namespace Go.Proofs.Ytbbnbgllgomolaa
open Go.RowKit
namespace Dy
/-- The digits from place i on, below place t. -/
def part (l : List Int) (i t : Nat) : List Int := (l.take t).drop i
end Dy
end Go.Proofs.Ytbbnbgllgomolaa
namespace Go.Proofs.Ytbbnbgllgomolaa
open Go.RowKit
namespace Dy
open Dp
theorem intsR {w w' : World} {lo hi n : Nat} {k : IntKind} {A : Option Addr} {xs : List Int} (h : Ints w lo hi k A n xs) (hk : ∀ b, lo ≤ b → b < hi → w'.heap[b]? = w.heap[b]?) : Ints w' lo hi k A n xs :=
 ⟨h.len, h.wf, h.big, fun h0 => by
  obtain ⟨b, off, e, h1, h2, hc⟩ := h.row h0
  have h3 := hk b h1 h2
  exact ⟨b, off, e, h1, h2, fun j hj => ⟨by rw [World.cell?_of_block h3]; exact (hc j hj).1, by rw [World.frozen?_of_block h3]; exact (hc j hj).2⟩⟩⟩
end Dy
end Go.Proofs.Ytbbnbgllgomolaa
namespace Go.Proofs.Ytbbnbgllgomolaa
open Go.RowKit
namespace Dy
open Dp
attribute [local go_sem] Oper.semAt_some
theorem lt_heapR {w : World} {g : Nat} {o : Obj} (h : w.heap[g]? = some o) : g < w.heap.size := (Array.getElem?_eq_some_iff.1 h).1
/-- What stands amid the rounds of 'divide'. -/
structure DivI (w : World) (gq gr gy gf X Y n : Nat) (ys : List Int) (pre : List Nat) (O : Nat → Prop) (W : World) : Prop where
 oq : O gq
 or_ : O gr
 q : ∃ qs, WideR W gq qs ∧ num 4294967296 qs = 2 ^ (n - pre.length) * (X / 2 ^ (n - pre.length) / Y)
 r : ∃ rs, WideR W gr rs ∧ num 4294967296 rs = X / 2 ^ (n - pre.length) % Y
 y : WideR W gy ys
 f : W.heap[gf]? = some (.cells #[.func (.func 129) #[.pointer (some ⟨gr, 0, none⟩)] #[]] 167 (0, 0))
 bel : Below w.heap.size w W
theorem DivI.grown {w : World} {gq gr gy gf X Y n : Nat} {ys : List Int} {pre : List Nat} {O : Nat → Prop} {W W' : World} {row : Option Nat} (h : DivI w gq gr gy gf X Y n ys pre O W) (hg : W.grownBy W' row)
  (hr : ∀ r, row = some r → w.heap.size ≤ r ∧ r ≠ gq ∧ r ≠ gr ∧ r ≠ gy ∧ r ≠ gf) : DivI w gq gr gy gf X Y n ys pre O W' where
 oq := h.oq
 or_ := h.or_
 q := by
  obtain ⟨qs, h1, h2⟩ := h.q
  exact ⟨qs, h1.of_heap (hg.block _ h1.lt (fun e => (hr _ e.symm).2.1 rfl)), h2⟩
 r := by
  obtain ⟨rs, h1, h2⟩ := h.r
  exact ⟨rs, h1.of_heap (hg.block _ h1.lt (fun e => (hr _ e.symm).2.2.1 rfl)), h2⟩
 y := h.y.of_heap (hg.block _ h.y.lt (fun e => (hr _ e.symm).2.2.2.1 rfl))
 f := (hg.block _ (lt_heapR h.f) (fun e => (hr _ e.symm).2.2.2.2 rfl)).trans h.f
 bel := h.bel.grown hg h.bel.size (fun k e => (hr _ e).1)
theorem boxes5 (w : World) (o1 o2 o3 o4 o5 : Obj) {w1 : World} (hw : ((((w.alloc o1).alloc o2).alloc o3).alloc o4).alloc o5 = w1) : w1.heap[w.heap.size]? = some o1 ∧ w1.heap[w.heap.size + 1]? = some o2 ∧ w1.heap[w.heap.size + 1 + 1]? = some o3 ∧ w1.heap[w.heap.size + 1 + 1 + 1]? = some o4 ∧ w1.heap[w.heap.size + 1 + 1 + 1 + 1]? = some o5 ∧ Below w.heap.size w w1 ∧ w.heap.size + 5 ≤ w1.heap.size ∧ w1.heap.size ≤ w.heap.size + 5 := by
 subst hw
 have a1 := heap_alloc_last w o1
 have a2 := heap_alloc_last (w.alloc o1) o2
 have a3 := heap_alloc_last ((w.alloc o1).alloc o2) o3
 have a4 := heap_alloc_last (((w.alloc o1).alloc o2).alloc o3) o4
 have a5 := heap_alloc_last ((((w.alloc o1).alloc o2).alloc o3).alloc o4) o5
 have s1 : (w.alloc o1).heap.size = w.heap.size + 1 := by simp
 have s2 : ((w.alloc o1).alloc o2).heap.size = w.heap.size + 1 + 1 := by simp
 have s3 : (((w.alloc o1).alloc o2).alloc o3).heap.size = w.heap.size + 1 + 1 + 1 := by simp
 have s4 : ((((w.alloc o1).alloc o2).alloc o3).alloc o4).heap.size = w.heap.size + 1 + 1 + 1 + 1 := by simp
 have s5 : (((((w.alloc o1).alloc o2).alloc o3).alloc o4).alloc o5).heap.size = w.heap.size + 1 + 1 + 1 + 1 + 1 := by simp
 rw [s1] at a2
 rw [s2] at a3
 rw [s3] at a4
 rw [s4] at a5
 refine ⟨?_, ?_, ?_, ?_, a5, ?_, by omega, by omega⟩
 · rw [Below.heap_alloc _ _ _ (by omega), Below.heap_alloc _ _ _ (by omega), Below.heap_alloc _ _ _ (by omega), Below.heap_alloc _ _ _ (by omega)]
   exact a1
 · rw [Below.heap_alloc _ _ _ (by omega), Below.heap_alloc _ _ _ (by omega), Below.heap_alloc _ _ _ (by omega)]
   exact a2
 · rw [Below.heap_alloc _ _ _ (by omega), Below.heap_alloc _ _ _ (by omega)]
   exact a3
 · rw [Below.heap_alloc _ _ _ (by omega)]
   exact a4
 · exact (((((Below.refl _ w).alloc (Nat.le_refl _) _).alloc (by omega) _).alloc (by omega) _).alloc (by omega) _).alloc (by omega) _
end Dy
end Go.Proofs.Ytbbnbgllgomolaa
namespace Go.Proofs.Ytbbnbgllgomolaa
open Go.RowKit
theorem lt_of_heapP {W : World} {g : Nat} {o : Obj} (h : W.heap[g]? = some o) : g < W.heap.size := (Array.getElem?_eq_some_iff.1 h).1
theorem heap_newP (w : World) (o : Obj) (g : Nat) (h : g = w.heap.size) : (w.alloc o).heap[g]? = some o := by
 subst h
 exact World.alloc_heap_new w o
theorem drewN_add (w : World) (a b : Nat) : (w.drewN a).drewN b = w.drewN (a + b) := by simp [World.drewN, Nat.add_assoc]
namespace Pa
/-- Are two lists of numbers the same? -/
def Sm (a b : List Int) : Bool := a == b
theorem Sm_refl (a : List Int) : Sm a a = true := beq_self_eq_true _
theorem Sm_len {a b : List Int} (h : a.length ≠ b.length) : Sm a b = false := by
 unfold Sm
 rw [beq_eq_false_iff_ne]
 exact fun e => h (by rw [e])
theorem Sm_at {a b : List Int} {k : Nat} (h : a[k]?.getD 0 ≠ b[k]?.getD 0) : Sm a b = false := by
 unfold Sm
 rw [beq_eq_false_iff_ne]
 exact fun e => h (by rw [e])
theorem take_next {a b : List Int} {k : Nat} (h1 : k < a.length) (h2 : k < b.length) (h : a.take k = b.take k) (he : a[k]?.getD 0 = b[k]?.getD 0) : a.take (k + 1) = b.take (k + 1) := by
 rw [List.take_succ_eq_append_getElem h1, List.take_succ_eq_append_getElem h2, h]
 rw [List.getElem?_eq_getElem h1, List.getElem?_eq_getElem h2] at he
 simp only [Option.getD_some] at he
 rw [he]
set_option maxHeartbeats 800000 in
/-- slices.Equal. -/
theorem Equal_any (w : World) (lo hi lo' hi' : Nat) (A A' : Option Addr) (n c n' c' : Nat) (xs ys : List Int) (hX : Ints w lo hi .u32 A n xs) (hY : Ints w lo' hi' .u32 A' n' ys) (r : Bool) (hr : Sm xs ys = r) :
  Calls Try.prog 62 #[.slice A n c, .slice A' n' c'] w fun e w' => e = .returned (.bool r) ∧ ∃ m, w' = w.drewN m := by
 have HR := Lib.hid hr
 have HX := Lib.hid hX.len
 have HY := Lib.hid hY.len
 have hbx := hX.big
 have hby := hY.big
 clear hr
 by_cases hnn : n = n'
 · subst hnn
   go_enter Try.func62, Try.ntmps62
   go_wp2
   go_loopw [13] (fun iv wr => ∃ k : Nat, iv = .int .i64 k ∧ k ≤ n ∧ Hid (xs.take k = ys.take k) ∧ ∃ m, wr = w.drewN m) (fun iv _ => n - (intOf iv).toNat)
   case atStart => exact ⟨0, rfl, Nat.zero_le _, rfl, 0, rfl⟩
   case round =>
    obtain ⟨k, rfl, hk, htk, m, rfl⟩ := hrel
    by_cases hlt : k < n
    · obtain ⟨b, off, rfl, _, _, hc⟩ := hX.row (by omega)
      obtain ⟨b', off', rfl, _, _, hc'⟩ := hY.row (by omega)
      have g1 := (hc k hlt).1
      have g2 := (hc' k hlt).1
      have hk0 : (0 : Int) ≤ k := by omega
      have hkn : (k : Int) < n := by omega
      have hnx : Hid (xs[k]?.getD 0 = ys[k]?.getD 0 → xs.take (k + 1) = ys.take (k + 1)) := fun he => take_next (by rw [HX.out]; exact hlt) (by rw [HY.out]; exact hlt) htk.out he
      have hno : Hid (xs[k]?.getD 0 ≠ ys[k]?.getD 0 → Sm xs ys = false) := fun he => Sm_at he
      clear hc hc'
      generalize xs[k]?.getD 0 = x at g1 hnx hno
      generalize ys[k]?.getD 0 = y at g2 hnx hno
      by_cases he : x = y
      · subst he
        have hn2 := Lib.hid (hnx.out rfl)
        have hne : (x != x) = false := by simp
        go_wp2
        go_quiet (fail)
        go_wp2
        go_roundw
        case rel => exact ⟨k + 1, by go_num, by omega, hn2, _, rfl⟩
        case measure => simp [intOf]; omega
      · have e2 : r = false := by rw [← HR.out]; exact hno.out he
        subst e2
        have hne : (x != y) = true := by simpa using he
        go_wp2
        go_quiet (fail)
        go_wp2
        go_ret
        exact ⟨rfl, _, drewN_add ..⟩
    · obtain rfl : k = n := by omega
      have e2 : r = true := by
       rw [← HR.out]
       have := htk.out
       rw [List.take_of_length_le (by rw [HX.out]; exact Nat.le_refl _), List.take_of_length_le (by rw [HY.out]; exact Nat.le_refl _)] at this
       rw [this]
       exact Sm_refl _
      subst e2
      go_wp2
      go_ret
      exact ⟨rfl, m, rfl⟩
 · have e2 : r = false := by rw [← HR.out]; exact Sm_len (by rw [HX.out, HY.out]; exact hnn)
   subst e2
   have hne : ((n : Int) != n') = true := by simpa using (show ¬ (n : Int) = n' by omega)
   have hne2 : (n != n') = true := by simpa using hnn
   go_enter Try.func62, Try.ntmps62
   go_wp2
   go_ret
   exact ⟨rfl, 0, rfl⟩
end Pa
end Go.Proofs.Ytbbnbgllgomolaa