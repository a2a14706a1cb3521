/- Searching and deleting by a predicate that may keep a state: walks. -/
import Derived.Test.YtpjomdkcckamkaaDeWalks1
import Derived.Lib.SliceRun
namespace Go.Proofs.Ytpjomdkcckamkaa
open Go.RowKit Go.Sort
namespace De
section
variable {σ : Type} (p : σ → Int × Int → Bool) (st : σ → Int × Int → σ)
def stF : σ → List (Int × Int) → σ
  | s, [] => s
  | s, x :: l => stF (st s x) l
/-- The first place of one that answers yes, and the state behind it. -/
def idxG : σ → List (Int × Int) → Int → Int × σ
  | s, [], _ => (-1, s)
  | s, x :: l, k => if p s x then (k, st s x) else idxG (st s x) l (k + 1)
/-- Those that are kept. -/
def delF : σ → List (Int × Int) → List (Int × Int)
  | _, [] => []
  | s, x :: l => if p s x then delF (st s x) l else x :: delF (st s x) l
theorem stF_snoc : ∀ (l : List (Int × Int)) (s : σ) (x : Int × Int), stF st s (l ++ [x]) = st (stF st s l) x
  | [], _, _ => rfl
  | y :: l, s, x => stF_snoc l (st s y) x
theorem delF_snoc : ∀ (l : List (Int × Int)) (s : σ) (x : Int × Int), delF p st s (l ++ [x]) = delF p st s l ++ if p (stF st s l) x then [] else [x]
  | [], s, x => by by_cases h : p s x = true <;> simp [delF, stF, h]
  | y :: l, s, x => by
    simp only [List.cons_append, delF, stF]
    split
    · exact delF_snoc l _ x
    · rw [delF_snoc l _ x]
      rfl
theorem delF_len : ∀ (l : List (Int × Int)) (s : σ), (delF p st s l).length ≤ l.length
  | [], _ => Nat.le_refl _
  | x :: l, s => by
    simp only [delF]
    have := delF_len l (st s x)
    split
    · simp; omega
    · simp; omega
/-- What the search tells. -/
theorem idxG_spec : ∀ (l : List (Int × Int)) (s : σ) (k : Nat), (∀ r s', idxG p st s l k = (r, s') → (r = -1 ∧ s' = stF st s l ∧ delF p st s l = l) ∨
    ∃ i, i < l.length ∧ r = ((k + i : Nat) : Int) ∧ s' = stF st s (l.take (i + 1)) ∧ delF p st s (l.take (i + 1)) = l.take i ∧ delF p st s (l.take i) = l.take i)
  | [], s, k, r, s', h => by
    simp only [idxG, Prod.mk.injEq] at h
    exact .inl ⟨h.1.symm, h.2.symm, rfl⟩
  | x :: l, s, k, r, s', h => by
    simp only [idxG] at h
    split at h
    · rename_i hp
      simp only [Prod.mk.injEq] at h
      refine .inr ⟨0, by simp, by rw [← h.1]; rfl, ?_, ?_⟩
      · rw [← h.2]; rfl
      · exact ⟨by simp [delF, hp], rfl⟩
    · rename_i hp
      rcases idxG_spec l (st s x) (k + 1) r s' (by rw [← h]; rfl) with ⟨h1, h2, h3⟩ | ⟨i, hi, h1, h2, h3, h4⟩
      · exact .inl ⟨h1, h2, by simp [delF, hp, h3]⟩
      · exact .inr ⟨i + 1, by simpa using hi, by rw [h1]; congr 1; omega, h2, by simp [delF, hp, h3], by simp [delF, hp, h4]⟩
end

/-- A predicate, a closure, that may keep a state in a block of its own (row) from base on, that is not block rb. -/
structure PredS {σ : Type} (g : Nat) (cb : Array Value) (base rb : Nat) (row : Option Nat) (Inv : World → σ → Prop) (Ok : Int × Int → Prop) (p : σ → Int × Int → Bool) (st : σ → Int × Int → σ) : Prop where
  enters : ∀ args w, (callFunc g args).run Try.prog w = .ok (.enter g args) w
  row_ : ∀ k, row = some k → base ≤ k ∧ k ≠ rb
  lt : ∀ (W : World) (s : σ) (k : Nat), row = some k → Inv W s → k < W.heap.size
  call : ∀ (W : World) (s : σ) (x : Int × Int), base ≤ W.heap.size → rb < W.heap.size → Inv W s → Ok x → Rng x → Calls Try.prog g (#[.agg #[.int .i64 x.1, .int .i64 x.2]] ++ cb) W fun e w' =>
    e = .returned (.bool (p s x)) ∧ Inv w' (st s x) ∧ W.grownBy w' row
  alloc : ∀ (W : World) (s : σ) (o : Obj), Inv W s → Inv (W.alloc o) s
  set_ : ∀ (W : World) (s : σ) (q : Addr) (v : Value), q.block = rb → Inv W s → Inv (W.setCell q v) s
theorem PredS.below {σ : Type} {g : Nat} {cb : Array Value} {base rb : Nat} {row : Option Nat} {Inv : World → σ → Prop} {Ok : Int × Int → Prop} {p : σ → Int × Int → Bool} {st : σ → Int × Int → σ} (hP : PredS g cb base rb row Inv Ok p st)
    {W w' : World} (hg : W.grownBy w' row) (hB : base ≤ W.heap.size) : Below base W w' := (Below.refl base W).grown hg hB fun k hk => (hP.row_ k hk).1
theorem PredS.kept {σ : Type} {g : Nat} {cb : Array Value} {base rb : Nat} {row : Option Nat} {Inv : World → σ → Prop} {Ok : Int × Int → Prop} {p : σ → Int × Int → Bool} {st : σ → Int × Int → σ} (hP : PredS g cb base rb row Inv Ok p st)
    {W w' : World} (hg : W.grownBy w' row) (hrb : rb < W.heap.size) : ∀ q : Addr, q.block = rb → w'.cell? q = W.cell? q ∧ w'.frozen? q = W.frozen? q := fun q hq => by
  have hb := hg.block rb hrb (fun e => (hP.row_ rb e.symm).2 rfl)
  exact ⟨by simp only [World.cell?, hq, hb], by simp only [World.frozen?, hq, hb]⟩

theorem Descs.of_keep {w w' : World} {rb : Nat} {A : Option Addr} {n : Nat} {xs : List (Int × Int)} (h : Descs w rb (rb + 1) A n xs) (hk : ∀ q : Addr, q.block = rb → w'.cell? q = w.cell? q ∧ w'.frozen? q = w.frozen? q) : Descs w' rb (rb + 1) A n xs :=
  h.keep fun p h1 h2 => hk p (by omega)
theorem getD_of {xs : List (Int × Int)} {k : Nat} (h : k < xs.length) : xs.drop k = (xs[k]?.getD (0, 0)) :: xs.drop (k + 1) := by
  rw [List.drop_eq_getElem_cons h, List.getElem?_eq_getElem h]
  rfl

set_option maxHeartbeats 800000 in
/-- slices.IndexFunc. -/
theorem IndexFunc_any {σ : Type} {g : Nat} {cb : Array Value} {base rb : Nat} {row : Option Nat} {Inv : World → σ → Prop} {Ok : Int × Int → Prop} {p : σ → Int × Int → Bool} {st : σ → Int × Int → σ} (hP : PredS g cb base rb row Inv Ok p st)
    (w : World) (s0 : σ) (hinv : Inv w s0) (hbase : base ≤ w.heap.size) (hrb : rb < w.heap.size) (A : Option Addr) (n c : Nat) (xs : List (Int × Int)) (hX : Descs w rb (rb + 1) A n xs) (hok : ∀ x ∈ xs, Ok x) (r : Int) (s1 : σ) (hr : idxG p st s0 xs 0 = (r, s1)) :
    Calls Try.prog 76 #[.slice A n c, .func (.func g) #[] cb] w fun e w' => e = .returned (.int .i64 r) ∧ Inv w' s1 ∧ Below base w w' ∧ Descs w' rb (rb + 1) A n xs := by
  have HR := Lib.hid hr
  have HL := Lib.hid hX.len
  have HOK := Lib.hid hok
  have eg := hP.enters
  have hbig := hX.big
  clear hr hok
  go_enter Try.func76, Try.ntmps76
  go_wp2
  go_loopw [5, 8] (fun _ i wr => ∃ k : Nat, ∃ s : σ, i = .int .i64 k ∧ k ≤ n ∧ Hid (idxG p st s (xs.drop k) k = (r, s1)) ∧ Hid (Inv wr s) ∧ Below base w wr ∧ Descs wr rb (rb + 1) A n xs) (fun _ i _ => n - (intOf i).toNat)
  case atStart => exact ⟨0, s0, rfl, Nat.zero_le _, HR.out, hinv, Below.refl _ _, hX⟩
  case round =>
    obtain ⟨k, s, rfl, hk, hidx, hi, hnx, hD⟩ := hrel
    by_cases hlt : k < n
    · obtain ⟨b, off, rfl, h1, h2, hc⟩ := hD.row (by omega)
      obtain rfl : rb = b := by omega
      obtain ⟨⟨g1, g2⟩, g3, g4⟩ := hc k hlt
      have hsz := hnx.size
      have hid2 := hidx.out
      rw [getD_of (by rw [HL.out]; exact hlt)] at hid2
      have hm : xs[k]?.getD (0, 0) ∈ xs := by rw [List.getElem?_eq_getElem (by rw [HL.out]; exact hlt)]; exact List.getElem_mem _
      have hrng := hD.wf _ hm
      have hcall := hP.call wr s _ (by omega) (by omega) hi.out (HOK.out _ hm) hrng
      clear hc g2 g4 hidx
      generalize xs[k]?.getD (0, 0) = x at g1 g3 hid2 hrng hcall
      obtain ⟨x1, x2⟩ := x
      simp only [idxG] at hid2
      have HC := Lib.hid hcall
      clear hcall
      cases hq : p s (x1, x2) with
      | true =>
        have hcall := HC.out
        rw [hq] at hcall hid2
        rw [if_pos rfl] at hid2
        obtain ⟨rfl, rfl⟩ := Prod.mk.inj hid2
        have HC2 := Lib.hid hcall
        clear hcall hq HC hid2 HR
        go_wp2_with fail
        refine HC2.out.mono ?_
        rintro e w' ⟨rfl, i1, hg⟩
        have i2 := hP.below hg (by omega)
        have HI1 := Lib.hid i1
        have HI3 := Lib.hid (hP.kept hg (by omega))
        clear i1 hg
        go_wp2
        go_ret
        exact ⟨rfl, HI1.out, hnx.trans i2, hD.of_keep HI3.out⟩
      | false =>
        have hcall := HC.out
        rw [hq] at hcall hid2
        rw [if_neg (by simp)] at hid2
        have HI2 := Lib.hid hid2
        have HC2 := Lib.hid hcall
        clear hcall hq HC hid2
        go_wp2_with fail
        refine HC2.out.mono ?_
        rintro e w' ⟨rfl, i1, hg⟩
        have i2 := hP.below hg (by omega)
        have HI1 := Lib.hid i1
        have HI3 := Lib.hid (hP.kept hg (by omega))
        clear i1 hg
        go_wp2
        go_roundw
        case rel => exact ⟨k + 1, st s (x1, x2), by go_num, by omega, by simpa [Hid] using HI2.out, HI1, hnx.trans i2, hD.of_keep HI3.out⟩
        case measure => simp [intOf]; omega
    · obtain rfl : k = n := by omega
      have hid2 := hidx.out
      rw [List.drop_eq_nil_of_le (by rw [HL.out]; exact Nat.le_refl _)] at hid2
      obtain ⟨rfl, rfl⟩ := Prod.mk.inj hid2
      clear hid2 hidx HR
      go_wp2
      go_ret
      exact ⟨rfl, hi.out, hnx, hD⟩

/-- slices.ContainsFunc, by a predicate without a state. -/
theorem ContainsFunc_any {g : Nat} {cb : Array Value} {base rb : Nat} {row : Option Nat} {Inv : World → Unit → Prop} {Ok : Int × Int → Prop} {p : Unit → Int × Int → Bool} (hP : PredS g cb base rb row Inv Ok p (fun _ _ => ()))
    (w : World) (hinv : Inv w ()) (hbase : base ≤ w.heap.size) (hrb : rb < w.heap.size) (A : Option Addr) (n c : Nat) (xs : List (Int × Int)) (hX : Descs w rb (rb + 1) A n xs) (hok : ∀ x ∈ xs, Ok x) (b : Bool) (hb : xs.any (p ()) = b) :
    Calls Try.prog 63 #[.slice A n c, .func (.func g) #[] cb] w fun e w' => e = .returned (.bool b) ∧ Below base w w' := by
  obtain ⟨r, hr⟩ : ∃ r, idxG p (fun _ _ => ()) () xs 0 = r := ⟨_, rfl⟩
  obtain ⟨r, u⟩ := r
  have hrb : decide (0 ≤ r) = b := by
    rw [← hb]
    rcases idxG_spec p (fun _ _ => ()) xs () 0 r u hr with ⟨h1, h2, h3⟩ | ⟨i, hi, h1, _, h3, h4⟩
    · rw [h1]
      symm
      rw [show decide ((0 : Int) ≤ -1) = false from rfl, Bool.eq_false_iff, Ne, List.any_eq_true]
      rintro ⟨x, hx, hp⟩
      clear hr h1 h2 hX hok hb
      induction xs with
      | nil => simp at hx
      | cons y l ih =>
        simp only [delF] at h3
        split at h3
        · have := delF_len p (fun _ _ => ()) l ()
          rw [h3] at this
          simp at this
          omega
        · rename_i hn
          rcases List.mem_cons.1 hx with rfl | hx
          · exact hn hp
          · exact ih (List.cons.inj h3).2 hx
    · rw [h1]
      have ht := delF_snoc p (fun _ _ => ()) (xs.take i) () xs[i]
      rw [← List.take_succ_eq_append_getElem hi, h3] at ht
      have hp : p () xs[i] = true := by
        by_cases hp : p () xs[i] = true
        · exact hp
        · exfalso
          rw [if_neg hp] at ht
          rw [h4] at ht
          have h6 := congrArg List.length ht
          rw [List.length_append, List.length_singleton] at h6
          omega
      symm
      rw [decide_eq_true (by omega), List.any_eq_true]
      exact ⟨xs[i], List.getElem_mem _, hp⟩
  have HRB := Lib.hid hrb
  clear hrb hb
  go_enter Try.func63, Try.ntmps63
  go_wp2_with fail
  refine (IndexFunc_any hP _ () hinv hbase (by assumption) A n c xs hX hok r u hr).mono ?_
  rintro e w' ⟨rfl, _, i2, _⟩
  clear hr
  go_wp2
  go_ret
  exact ⟨by rw [← HRB.out]; rfl, i2⟩
end De
end Go.Proofs.Ytpjomdkcckamkaa
