/- A range over a function whose iterator keeps state of its own in a cell, and makes memory between two rounds: the rounds say which blocks are theirs. -/
import Derived.Test.YtpjomdkcckamkaaBase
import Derived.RangeFuncNested
import Derived.RangeFuncBound
import Derived.RangeFuncCalls
import Derived.RangeFuncLeaves
namespace Go.Proofs.Ytpjomdkcckamkaa
open Go.RowKit

/-- But for the blocks of O, cells that lay in W lie in W' as they lay; what O' has and O has not is new. -/
structure Gain (O O' : Nat → Prop) (W W' : World) : Prop where
  size : W.heap.size ≤ W'.heap.size
  same : ∀ k cs t z, ¬ O k → W.heap[k]? = some (.cells cs t z) → W'.heap[k]? = some (.cells cs t z)
  new : ∀ k, O' k → O k ∨ (W.heap.size ≤ k ∧ k < W'.heap.size)
theorem Gain.refl (O : Nat → Prop) (W : World) : Gain O O W W := ⟨Nat.le_refl _, fun _ _ _ _ _ h => h, fun _ h => .inl h⟩
theorem Gain.trans {O O' O'' : Nat → Prop} {A B C : World} (h : Gain O O' A B) (k : Gain O' O'' B C) : Gain O O'' A C where
  size := Nat.le_trans h.size k.size
  same i cs t z hi hA := by
    refine k.same i cs t z (fun hO => ?_) (h.same i cs t z hi hA)
    rcases h.new i hO with h1 | h1
    · exact hi h1
    · have := (Array.getElem?_eq_some_iff.1 hA).1
      omega
  new i hi := by
    rcases k.new i hi with h1 | h1
    · rcases h.new i h1 with h2 | h2
      · exact .inl h2
      · exact .inr ⟨h2.1, Nat.lt_of_lt_of_le h2.2 k.size⟩
    · exact .inr ⟨Nat.le_trans h.size h1.1, h1.2⟩
theorem Gain.put (O : Nat → Prop) {W : World} {l : Nat} {o : Obj} (o' : Obj) (hl : W.heap[l]? = some o) (ho : o.isCells = false) : Gain O O W (W.putObj l o') where
  size := by simp
  same k cs t z _ hk := (World.putObj_heap_other (fun e => by subst e; rw [hl] at hk; cases hk; cases ho)).trans hk
  new _ h := .inl h

/-- J stands whatever is laid anew, and whatever becomes of block g. -/
def Loose {β : Type} (g : Nat) (J : β → (Nat → Prop) → World → Prop) : Prop := ∀ s O W W' row, J s O W → W.grownBy W' row → (∀ r, row = some r → r = g) → J s O W'

/-- What an iterator gives that writes block g between two rounds: the blocks of Prot are none of the rounds' own. -/
def SeqSep {α : Type} (F : Fence) (n : Nat) (P : Program) (f : Nat) (lb : Array Value) (encs : α → Array Value) (S Sp : List α → Prop) (N : Nat) (Prot : Nat → Prop) (g : Nat) (w : World) : Prop :=
  ∀ (l : Nat) (J Jx : List α → (Nat → Prop) → World → Prop) (O0 : Nat → Prop) (W : World), Below w.heap.size w W → Loose g J → Loose g Jx → (∀ k, Prot k → ¬ O0 k) → (∀ k, O0 k → k < W.heap.size) →
    (∀ pre x O W1, J pre O W1 → pre.length < N → YieldAt F (n - 1) P l (encs x) W1 fun e W' =>
      (e = .returned (.bool true) ∧ ∃ O', J (pre ++ [x]) O' W' ∧ Gain O O' W1 W') ∨ (e = .returned (.bool false) ∧ ∃ O', Jx (pre ++ [x]) O' W')) →
    J [] O0 W →
    CallsIn F n P f (#[.func (.yield l) #[] #[]] ++ lb) W fun e W' => (∃ v, e = .returned v) ∧ ((∃ xs O, S xs ∧ J xs O W') ∨ (∃ pre O, Sp pre ∧ Jx pre O W'))

/-- How a round's body may be left. -/
def sepPost {α : Type} (B : Nat) (I : List α → (Nat → Prop) → World → Prop) (Ix : Code → List α → (Nat → Prop) → World → Prop) (xs : List α) (O : Nat → Prop) (W : World) : Exit → Act → World → Prop
  | .normal, _, W' => KeepsFrom B W W' ∧ ∃ O', Gain O O' W W' ∧ I xs O' W'
  | .ret, _, W' => KeepsFrom B W W' ∧ ∃ O', Ix .ret xs O' W'
  | .exit id, _, W' => KeepsFrom B W W' ∧ ∃ O', Ix (.exit id) xs O' W'
  | .goto t, _, W' => KeepsFrom B W W' ∧ ∃ O', Ix (.goto t) xs O' W'
  | .panic _, _, _ => False
  | .outgrown, _, _ => False

/-- The two blocks of a loop's own. -/
def Book (D : Nat) (r : Loop) (W : World) : Prop := W.heap[D + 1]? = some (.loop r) ∧ W.heap[D]? = some (.deferred (some []))
theorem Book.lt {D : Nat} {r : Loop} {W : World} (h : Book D r W) : D + 1 < W.heap.size := (Array.getElem?_eq_some_iff.1 h.1).1
theorem Book.grown {D : Nat} {r : Loop} {W W' : World} {row : Option Nat} (h : Book D r W) (hg : W.grownBy W' row) (hr : ∀ k, row = some k → k < D) : Book D r W' := by
  have hl := h.lt
  exact ⟨(hg.block _ hl (fun e => by have := hr _ e.symm; omega)).trans h.1, (hg.block _ (by omega) (fun e => by have := hr _ e.symm; omega)).trans h.2⟩
theorem Book.put {D : Nat} {r : Loop} {W : World} (h : Book D r W) (r' : Loop) : Book D r' (W.putObj (D + 1) (.loop r')) :=
  ⟨World.putObj_heap_same h.lt, (World.putObj_heap_other (by omega)).trans h.2⟩
theorem Book.keeps {D : Nat} {r : Loop} {W W' : World} (h : Book D r W) (hk : KeepsFrom D W W') : Book D r W' :=
  ⟨hk.same _ _ (by omega) h.1 rfl, hk.same _ _ (Nat.le_refl _) h.2 rfl⟩

variable {F : Fence} {n : Nat} {P : Program}

/-- The end of a round: the record is turned, all else stands. -/
theorem round_end {D : Nat} {r : Loop} {W : World} (h : Book D r W) (jump : Option Code) :
    (Instr.endRound (D + 1) jump).run P W = .ok (.bool jump.isNone) (W.putObj (D + 1) (.loop { r with state := if jump.isNone then .ready else .done, pending := jump })) := run_endRound jump h.1

theorem wpIn_rangeFunc_sep {α : Type} {gop : Operand} {ps : Array Tmp} {assign body : Code} {Q : Exit → Act → World → Prop} {a : Act} {w : World}
    (hro : F.round = none) (h1 : 1 ≤ n) {gf : Nat} {lb : Array Value} (hg : a.eval gop = .func (.func gf) #[] lb) (hFg : F.fn gf) (eg : ∀ args w, (callFunc gf args).run P w = .ok (.enter gf args) w)
    {encs : α → Array Value} {S Sp : List α → Prop} {N : Nat} {Prot : Nat → Prop} {g : Nat} (hseq : SeqSep F (n - 1) P gf lb encs S Sp N Prot g w) (hgl : g < w.heap.size) (hps : ∀ x, (encs x).size = ps.size)
    (I : List α → (Nat → Prop) → World → Prop) (Ix : Code → List α → (Nat → Prop) → World → Prop) (hI : ∀ O, OwnFrom w.heap.size (fun s W => I s O W)) (hIx : ∀ c O, OwnFrom w.heap.size (fun s W => Ix c s O W)) (hIg : Loose g I) (hIxg : ∀ c, Loose g (Ix c))
    (O0 : Nat → Prop) (hO0 : ∀ k, Prot k → ¬ O0 k) (hOl : ∀ k, O0 k → k < w.heap.size) (h0 : I [] O0 w) (Ax : α → Act → World → Prop) (hAx : ∀ x a', OwnFrom w.heap.size (fun (_ : Unit) W => Ax x a' W))
    (hassign : ∀ (l : Nat) (pre : List α) (x : α) (O : Nat → Prop) (W : World) (K : Act → World → Prop), w.heap.size < W.heap.size → I pre O W → (∀ a' W', KeepsFrom w.heap.size W W' → Gain O O W W' → I pre O W' → Ax x a' W' → K a' W') →
      assign.wpIn (F.inRound l) (n - 1 - 1) P (Exit.then K (fun _ _ _ => False)) { tmps := (ps.zip (encs x)).foldl (fun t (p, v) => t.setIfInBounds p v) a.tmps, defers := [] } W)
    (hbody : ∀ (l : Nat) (pre : List α) (x : α) (O : Nat → Prop) (a' : Act) (W : World), w.heap.size < W.heap.size → I pre O W → Ax x a' W → pre.length < N → body.wpIn (F.inRound l) (n - 1 - 1) P (sepPost w.heap.size I Ix (pre ++ [x]) O W) a' W)
    (hdone : ∀ (D : Nat) (xs : List α) (O : Nat → Prop) (W : World), w.heap.size ≤ D → S xs → I xs O W → W.heap[D]? = some (.deferred (some [])) → Q .normal { a with defers := { target := .collected D, args := #[] } :: a.defers } W)
    (hstop : ∀ (D : Nat) (c : Code) (pre : List α) (O : Nat → Prop) (W : World), w.heap.size ≤ D → Sp pre → Ix c pre O W → W.heap[D]? = some (.deferred (some [])) → c.wpIn F n P Q { a with defers := { target := .collected D, args := #[] } :: a.defers } W) :
    (Code.rangeFunc gop ps assign body).wpIn F n P Q a w := by
  refine wpIn_rangeFunc fun fn hfn => ?_
  rw [hro]
  obtain ⟨D, hD⟩ : ∃ D, w.heap.size = D := ⟨_, rfl⟩
  obtain ⟨rec, hrec⟩ : ∃ rec : LoopState → Option Code → Loop, rec = fun st pe => { state := st, pending := pe, fn, tmps := a.tmps, params := ps, assign, body, defers := D } := ⟨_, rfl⟩
  obtain ⟨W1, hW1⟩ : ∃ W1, (w.alloc (.deferred (some []))).alloc (.loop (rec .ready none)) = W1 := ⟨_, rfl⟩
  have hbk : Book D (rec .ready none) W1 := by
    refine ⟨?_, ?_⟩
    · have := World.alloc_heap_new (w.alloc (.deferred (some []))) (.loop (rec .ready none))
      rw [World.size_alloc, hD, hW1] at this
      exact this
    · rw [← hW1, ← hD]
      exact (Below.heap_alloc _ _ _ (by simp)).trans (World.alloc_heap_new w _)
  have hI1 : I [] O0 W1 := by
    rw [← hW1]
    exact (hI O0).alloc _ ((hI O0).alloc _ h0)
  have hb1 : Below w.heap.size w W1 := by
    rw [← hW1]
    exact ((Below.refl _ w).alloc (Nat.le_refl _) _).alloc (by simp) _
  have hs1 := hb1.size
  have henter := run_enterLoop_outer (P := P) (w := w) fn a.tmps ps assign body
  rw [hD] at henter
  refine ⟨D + 1, [{ target := .collected D, args := #[] }], W1, { target := .fn (.func gf) lb, args := #[.func (.yield (D + 1)) #[] #[]] }, W1, gf,
    #[.func (.yield (D + 1)) #[] #[]] ++ lb, W1, ?_, ?_, ?_, ?_, fun _ => h1, ?_⟩
  · rw [henter, ← hW1, hrec]
  · simp only [resolve, hg]
    simp [go_sem]
  · intro f' hf'
    simp [Target.leads] at hf'
    subst hf'
    exact hFg
  · simp [invoke, go_sem, eg]
  · refine (hseq (D + 1) (fun pre O W => I pre O W ∧ Book D (rec .ready none) W) (fun pre O W => ∃ c, Ix c pre O W ∧ Book D (rec .done (some c)) W) O0 W1 hb1
      (fun s O A B row hs hg' hr => ⟨hIg s O A B row hs.1 hg' hr, hs.2.grown hg' (fun k e => by have := hr k e; omega)⟩)
      (fun s O A B row hs hg' hr => by
        obtain ⟨c, hc, hk⟩ := hs
        exact ⟨c, hIxg c s O A B row hc hg' hr, hk.grown hg' (fun k e => by have := hr k e; omega)⟩)
      hO0 (fun k hk => Nat.lt_of_lt_of_le (hOl k hk) hs1) ?_ ⟨hI1, hbk⟩).mono ?_
    · rintro pre x O W ⟨hi, hk⟩ hlen
      have hy := run_yield (P := P) (args := encs x) hk.1 (by rw [hrec]; exact hps x)
      rw [hrec] at hy
      refine ⟨fn, _, assign, body, hy, roundIn_of_wpIn hfn (hassign _ pre x O W _ (by have := hk.lt; omega) hi ?_)⟩
      clear hy
      intro a' Wa hka hga hia hax
      rw [hD] at hka
      have hk := hk.keeps hka
      refine ⟨_, run_beginRound hk.1 (by rw [hrec]), ?_⟩
      have hk2 := hk.put { rec .ready none with state := .busy }
      have hg2 : Gain O O W (Wa.putObj (D + 1) (.loop { rec .ready none with state := .busy })) := hga.trans (Gain.put O _ hk.1 rfl)
      have hlt := hk.lt
      refine wpIn_mono (hbody _ pre x O a' _ (by simp; omega) ((hI O).putObj _ hia (by omega) hk.1 rfl) ((hAx x a').putObj (s := ()) _ hax (by omega) hk.1 rfl) hlen) ?_
      rw [hD]
      have hrd : ∀ jump : Option Code, { { rec .ready none with state := .busy } with state := if jump.isNone then .ready else .done, pending := jump } = rec (if jump.isNone then .ready else .done) jump := by
        intro jump
        rw [hrec]
      rintro e a3 W3 hp
      cases e with
      | normal =>
        obtain ⟨hk3, O', hg3, hi3⟩ := hp
        have hb3 := hk2.keeps hk3
        have hr := round_end (P := P) hb3 none
        rw [hrd] at hr
        exact ⟨_, _, hr, .inl ⟨rfl, O', ⟨(hI O').putObj _ hi3 (by omega) hb3.1 rfl, hb3.put _⟩, (hg2.trans hg3).trans (Gain.put O' _ hb3.1 rfl)⟩⟩
      | ret =>
        obtain ⟨hk3, O', hi3⟩ := hp
        have hb3 := hk2.keeps hk3
        have hr := round_end (P := P) hb3 (some .ret)
        rw [hrd] at hr
        exact ⟨_, _, hr, .inr ⟨rfl, O', .ret, (hIx _ O').putObj _ hi3 (by omega) hb3.1 rfl, hb3.put _⟩⟩
      | exit id =>
        obtain ⟨hk3, O', hi3⟩ := hp
        have hb3 := hk2.keeps hk3
        have hr := round_end (P := P) hb3 (some (.exit id))
        rw [hrd] at hr
        exact ⟨_, _, hr, .inr ⟨rfl, O', .exit id, (hIx _ O').putObj _ hi3 (by omega) hb3.1 rfl, hb3.put _⟩⟩
      | goto t =>
        obtain ⟨hk3, O', hi3⟩ := hp
        have hb3 := hk2.keeps hk3
        have hr := round_end (P := P) hb3 (some (.goto t))
        rw [hrd] at hr
        exact ⟨_, _, hr, .inr ⟨rfl, O', .goto t, (hIx _ O').putObj _ hi3 (by omega) hb3.1 rfl, hb3.put _⟩⟩
      | panic ch => exact hp.elim
      | outgrown => exact hp.elim
    · rintro e W2 ⟨⟨v, rfl⟩, (⟨xs, O, hS, hi, hk⟩ | ⟨pre, O, hSp, c, hi, hk⟩)⟩
      · exact ⟨none, _, by have := run_endLoop (P := P) hk.1 (by rw [hrec]; simp); rw [hrec] at this; exact this, hdone D xs O _ (by omega) hS ((hI O).putObj _ hi (by omega) hk.1 rfl) (hk.put _).2⟩
      · exact ⟨some c, _, by have := run_endLoop (P := P) hk.1 (by rw [hrec]; simp); rw [hrec] at this; exact this, hstop D c pre O _ (by omega) hSp ((hIx c O).putObj _ hi (by omega) hk.1 rfl) (hk.put _).2⟩
end Go.Proofs.Ytpjomdkcckamkaa
