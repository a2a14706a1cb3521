/- The best of each node; which one is fresher: walks. -/
import Derived.Test.YtpjomdkcckamkaaDeWalks5
namespace Go.Proofs.Ytpjomdkcckamkaa
open Go.RowKit Go.Sort Go.Shelf
namespace De
theorem only_alloc {a w : World} {row : Option Nat} (h : a.grownBy w row) (o : Obj) : a.grownBy (w.alloc o) row :=
  ⟨h.os, h.tape, h.output, Nat.le_trans h.size (by simp), fun i hi hne => (Below.heap_alloc w o i (Nat.lt_of_lt_of_le hi h.size)).trans (h.block i hi hne)⟩
theorem only_setCell {a w : World} {g : Nat} (h : a.grownBy w (some g)) {p : Addr} (hp : p.block = g) (u : Value) : a.grownBy (w.setCell p u) (some g) :=
  ⟨h.os, h.tape, h.output, by simpa [World.setCell] using h.size, fun i hi hne => (Below.heap_setCell w p u i (by rintro rfl; exact hne (by rw [hp]))).trans (h.block i hi hne)⟩

def bools (s : List Int) : Array Value := #[.bool (decide ((0 : Int) ∈ s)), .bool (decide ((1 : Int) ∈ s)), .bool (decide ((2 : Int) ∈ s)), .bool (decide ((3 : Int) ∈ s)), .bool (decide ((4 : Int) ∈ s)), .bool (decide ((5 : Int) ∈ s)), .bool (decide ((6 : Int) ∈ s)), .bool (decide ((7 : Int) ∈ s))]
def seenP (s : List Int) (x : Int × Int) : Bool := decide (x.1 ∈ s)
def seenS (s : List Int) (x : Int × Int) : List Int := if x.1 ∈ s then s else x.1 :: s
theorem delF_seen : ∀ (l : List (Int × Int)) (s : List Int), delF seenP seenS s l = firsts s l
  | [], _ => rfl
  | x :: l, s => by
    simp only [delF, firsts, seenP, seenS]
    by_cases h : x.1 ∈ s
    · simp only [h, decide_true, if_true]
      exact delF_seen l s
    · simp only [h, decide_false, if_false]
      rw [delF_seen l]
      rfl
theorem bools_get (s : List Int) : ∀ i : Nat, (bools s)[i]? = if i < 8 then some (.bool (decide ((i : Int) ∈ s))) else none
  | 0 => rfl
  | 1 => rfl
  | 2 => rfl
  | 3 => rfl
  | 4 => rfl
  | 5 => rfl
  | 6 => rfl
  | 7 => rfl
  | i + 8 => by
    rw [if_neg (by omega)]
    rfl
theorem bools_set (s : List Int) (k : Nat) (hk : k < 8) (y : Int) : (bools s).setIfInBounds k (.bool true) = bools (seenS s ((k : Int), y)) := by
  apply Array.ext_getElem?
  intro i
  rw [Array.getElem?_setIfInBounds, bools_get, bools_get]
  have hsz : (bools s).size = 8 := by simp [bools]
  by_cases e : k = i
  · subst e
    rw [if_pos rfl, if_pos (by omega), if_pos hk]
    unfold seenS
    by_cases h : (k : Int) ∈ s <;> simp [h]
  · rw [if_neg e]
    have hne : ¬ (i : Int) = (k : Int) := by omega
    by_cases h8 : i < 8
    · rw [if_pos h8, if_pos h8]
      unfold seenS
      by_cases h : (k : Int) ∈ s <;> simp [h, hne]
    · rw [if_neg h8, if_neg h8]

set_option maxHeartbeats 400000 in
/-- desc.Best's closure. -/
theorem seen_any (W : World) (T : Nat) (t : TypeId) (s : List Int) (x y : Int) (hT : W.heap[T]? = some (.cells (bools s) t (0, 0))) (hx0 : 0 ≤ x) (hx8 : x < 8) :
    Calls Try.prog 56 #[.agg #[.int .i64 x, .int .i64 y], .pointer (some ⟨T, 0, none⟩)] W fun e w' => e = .returned (.bool (seenP s (x, y))) ∧ w'.heap[T]? = some (.cells (bools (seenS s (x, y))) t (0, 0)) ∧ W.grownBy w' (some T) := by
  obtain ⟨k, rfl⟩ : ∃ k : Nat, x = k := ⟨x.toNat, by omega⟩
  have hk : k < 8 := by omega
  have hlt : T < W.heap.size := by
    rcases Nat.lt_or_ge T W.heap.size with h | h
    · exact h
    · rw [Array.getElem?_eq_none h] at hT; cases hT
  have hc : W.cell? ⟨T, k, none⟩ = some (.bool (decide ((k : Int) ∈ s))) := by
    rw [cell_of_row W T k _ t (0, 0) hT]
    rw [bools_get, if_pos hk]
  have hf : W.frozen? ⟨T, k, none⟩ = false := frozen_of_row W T k _ t hT
  have HT := Lib.hid hT
  have HB := Lib.hid (bools_set s k hk y)
  clear hT
  obtain ⟨b, hb⟩ : ∃ b, decide ((k : Int) ∈ s) = b := ⟨_, rfl⟩
  have hp : seenP s ((k : Int), y) = b := hb
  rw [hb] at hc
  rw [hp]
  clear hb hp
  have hfin : ((W.setCell ⟨T, k, none⟩ (.bool true)).alloc (.cells #[.int .i64 k, .int .i64 y] 29)).heap[T]? = some (.cells (bools (seenS s ((k : Int), y))) t (0, 0)) := by
    rw [Below.heap_alloc _ _ T (by simpa [World.setCell] using hlt), heap_setCell_same W T k _ t _ HT.out, HB.out]
  have HF := Lib.hid hfin
  clear hfin
  go_enter Try.func56, Try.ntmps56
  go_wp2
  go_ret
  exact ⟨rfl, HF.out, only_alloc (only_setCell (World.grownBy.refl W _) rfl _) _⟩

theorem seen_pred (base rb T : Nat) (t : TypeId) (h1 : base ≤ T) (h2 : T ≠ rb) : PredS 56 #[.pointer (some ⟨T, 0, none⟩)] base rb (some T) (fun W s => W.heap[T]? = some (.cells (bools s) t (0, 0))) (fun x => 0 ≤ x.1 ∧ x.1 < 8) seenP seenS where
  enters := enters_of Try.func56 (by kernel_rfl) rfl
  row_ k h := by injection h with h; subst h; exact ⟨h1, h2⟩
  lt W s k h hi := by
    injection h with h
    subst h
    rcases Nat.lt_or_ge T W.heap.size with h | h
    · exact h
    · rw [Array.getElem?_eq_none h] at hi; cases hi
  call W s x _ _ hi hok _ := seen_any W T t s x.1 x.2 hi hok.1 hok.2
  alloc W s o hi := by
    have hlt : T < W.heap.size := by
      rcases Nat.lt_or_ge T W.heap.size with h | h
      · exact h
      · rw [Array.getElem?_eq_none h] at hi; cases hi
    exact (Below.heap_alloc W o T hlt).trans hi
  set_ W s q v hq hi := (Below.heap_setCell W q v T (by rw [hq]; exact h2)).trans hi

def BestPost (w : World) (xs : List (Int × Int)) (e : Ending) (w' : World) : Prop :=
  ∃ A' n' c' rb, e = .returned (.tuple #[.slice A' n' c', .int .i64 0]) ∧ n' ≤ c' ∧ Below w.heap.size w w' ∧ (0 < n' → w.heap.size ≤ rb) ∧ rb < w'.heap.size ∧ Descs w' rb (rb + 1) A' n' (best xs)

set_option maxHeartbeats 800000 in
/-- desc.Best, of descriptors that may be. -/
theorem Best_ok (w : World) (lo hi : Nat) (A : Option Addr) (n c : Nat) (xs : List (Int × Int)) (hX : Descs w lo hi A n xs) (hhi : hi ≤ w.heap.size) (h0 : 0 < w.heap.size) (hr : check xs = 0) :
    Calls Try.prog 19 #[.slice A n c] w (BestPost w xs) := by
  have HR := Lib.hid hr
  have hmay : ∀ x ∈ srt xs, 0 ≤ x.1 ∧ x.1 < 8 := fun x hx => by
    have := List.all_eq_true.1 (check_mem hr).2 x (srt_mem.1 hx)
    rw [may_iff] at this
    exact ⟨this.1, this.2.1⟩
  have HM := Lib.hid hmay
  clear hr hmay
  go_enter Try.func19, Try.ntmps19
  go_wp2_with fail
  refine (Order_ok _ lo hi A n c xs hX hhi h0 HR.out).mono ?_
  rintro e w1 ⟨A1, c1, rb, rfl, hc1, hb1, hrb1, hrb2, hD⟩
  have hsz1 := hb1.size
  go_wp2_with fail
  have hnew : (w1.alloc (.cells #[.bool false, .bool false, .bool false, .bool false, .bool false, .bool false, .bool false, .bool false] 81)).heap[w1.heap.size]? = some (.cells (bools []) 81 (0, 0)) := by
    rw [show bools [] = #[.bool false, .bool false, .bool false, .bool false, .bool false, .bool false, .bool false, .bool false] by simp [bools]]
    exact heap_alloc_new _ _
  have hDa : Descs (w1.alloc (.cells #[.bool false, .bool false, .bool false, .bool false, .bool false, .bool false, .bool false, .bool false] 81)) rb (rb + 1) A1 n (srt xs) := hD.alloc (by omega) _
  refine (DeleteFunc_any (seen_pred w.heap.size rb w1.heap.size 81 hsz1 (by omega)) _ [] hnew (by simp; omega) (by simp; omega) A1 n c1 hrb1 (srt xs) hDa HM.out hc1).mono ?_
  rintro e w2 ⟨m, rfl, hm, hb2, hD2⟩
  rw [delF_seen] at hD2
  have hsz2 := hb2.size
  have hmc : m ≤ c1 := by have := hD.len; omega
  have hm0 : 0 < m → 0 < n := by have := hD.len; omega
  clear hnew hDa
  go_wp2
  go_ret2
  exact ⟨A1, m, c1, rb, rfl, hmc, (hb1.alloc hsz1 _).trans hb2, fun h => hrb1 (hm0 h), by simp at hsz2; omega, hD2⟩

/-- desc.Best, of descriptors that may not be. -/
theorem Best_bad (w : World) (lo hi : Nat) (A : Option Addr) (n c : Nat) (xs : List (Int × Int)) (hX : Descs w lo hi A n xs) (hhi : hi ≤ w.heap.size) (h0 : 0 < w.heap.size) (r : Int) (hr : check xs = r) (hne : (r == 0) = false) :
    Calls Try.prog 19 #[.slice A n c] w fun e w' => e = .returned (.tuple #[.slice none 0 0, .int .i64 r]) ∧ Below w.heap.size w w' := by
  have hne2 : (r != 0) = true := by simpa using hne
  go_enter Try.func19, Try.ntmps19
  go_wp2_with fail
  refine (Order_bad _ lo hi A n c xs hX hhi h0 r hr hne).mono ?_
  rintro e w1 ⟨rfl, hb1⟩
  clear hr
  go_wp2
  go_ret2
  exact ⟨rfl, hb1⟩

/-- desc.Same. -/
theorem Same_any (w : World) (lo hi lo' hi' : Nat) (A A' : Option Addr) (n c n' c' : Nat) (xs ys : List (Int × Int)) (hX : Descs w lo hi A n xs) (hY : Descs w lo' hi' A' n' ys) (r : Bool) (hr : Sm xs ys = r) :
    Calls Try.prog 20 #[.slice A n c, .slice A' n' c'] w fun e w' => e = .returned (.bool r) ∧ ∃ m, w' = w.drewN m := by
  have HR := Lib.hid hr
  clear hr
  go_enter Try.func20, Try.ntmps20
  go_wp2_with fail
  refine (Equal_any _ lo hi lo' hi' A A' n c n' c' xs ys hX hY r HR.out).mono ?_
  rintro e w1 ⟨rfl, m, rfl⟩
  go_wp2
  go_ret
  exact ⟨rfl, m, rfl⟩

theorem two_boxes {w w1 : World} {x y z u : Value} {t t' : TypeId} (hb : Below ((w.alloc (.cells #[x, y] t)).alloc (.cells #[z, u] t')).heap.size ((w.alloc (.cells #[x, y] t)).alloc (.cells #[z, u] t')) w1) :
    (w1.cell? ⟨w.heap.size, 0, none⟩ = some x ∧ w1.cell? ⟨w.heap.size, 1, none⟩ = some y ∧ w1.cell? ⟨w.heap.size + 1, 0, none⟩ = some z ∧ w1.cell? ⟨w.heap.size + 1, 1, none⟩ = some u) ∧ w.heap.size + 1 < w1.heap.size ∧ Below w.heap.size w w1 := by
  have hs := hb.size
  simp at hs
  refine ⟨⟨?_, ?_, ?_, ?_⟩, by omega, (((Below.refl w.heap.size w).alloc (Nat.le_refl _) _).alloc (by simp) _).trans (hb.mono (by simp; omega))⟩
  all_goals
    rw [hb.cell (by simp; try omega)]
    simp [go_sem]
theorem Below.keepCell {B : Nat} {w w' : World} (h : Below B w w') {b o : Nat} {v : Value} (hb : b < B) (hc : w.cell? ⟨b, o, none⟩ = some v) : w'.cell? ⟨b, o, none⟩ = some v := (h.cell (p := ⟨b, o, none⟩) hb).trans hc

set_option maxHeartbeats 800000 in
/-- desc.Fresher, of descriptors that may be. -/
theorem Fresher_ok (w : World) (x y z u : Int) (h1 : may (x, y) = true) (h2 : may (z, u) = true) (r : Bool) (hr : ltB (x, y) (z, u) = r) :
    Calls Try.prog 22 #[.agg #[.int .i64 x, .int .i64 y], .agg #[.int .i64 z, .int .i64 u]] w fun e w' => e = .returned (.tuple #[.bool r, .int .i64 0]) ∧ Gr w w' := by
  have H1 := Lib.hid h1
  have H2 := Lib.hid h2
  have hd : decide (cf (x, y) (z, u) < 0) = r := by rw [cf_lt]; exact hr
  obtain ⟨q, hq⟩ : ∃ q, cf (x, y) (z, u) = q := ⟨_, rfl⟩
  rw [hq] at hd
  have HQ := Lib.hid hq
  have HD := Lib.hid hd
  clear h1 h2 hr hq hd
  go_enter Try.func22, Try.ntmps22
  go_wp2_with fail
  refine (may_g _ x y true H1.out).mono ?_
  rintro e w1 ⟨rfl, hg1⟩
  obtain ⟨⟨c1, c2, c3, c4⟩, hs1, _⟩ := two_boxes hg1.below
  have hbb := (((Gr.refl w).alloc _).alloc _).trans hg1
  clear hg1
  go_wp2_with fail
  refine (may_g _ z u true H2.out).mono ?_
  rintro e w2 ⟨rfl, hg2⟩
  have hb2 := hg2.below
  have d1 := Below.keepCell hb2 (by omega) c1
  have d2 := Below.keepCell hb2 (by omega) c2
  have d3 := Below.keepCell hb2 (by omega) c3
  have d4 := Below.keepCell hb2 (by omega) c4
  have hbb2 := hbb.trans hg2
  clear c1 c2 c3 c4 hbb hb2 hg2
  go_wp2_with fail
  refine (comp_any _ x y z u q HQ.out).mono ?_
  rintro e w3 ⟨rfl, m, os, hw⟩
  have hb4 := hbb2.trans ⟨m, os, hw⟩
  clear hw
  go_wp2
  go_ret2
  exact ⟨by rw [← HD.out]; rfl, hb4⟩

set_option maxHeartbeats 800000 in
/-- desc.Fresher, where one may not be. -/
theorem Fresher_bad (w : World) (x y z u : Int) (h : (may (x, y) && may (z, u)) = false) :
    Calls Try.prog 22 #[.agg #[.int .i64 x, .int .i64 y], .agg #[.int .i64 z, .int .i64 u]] w fun e w' => e = .returned (.tuple #[.bool false, .int .i64 8]) ∧ Gr w w' := by
  by_cases h1 : may (x, y) = true
  · have h2 : may (z, u) = false := by rw [h1] at h; simpa using h
    have H1 := Lib.hid h1
    have H2 := Lib.hid h2
    clear h h1 h2
    go_enter Try.func22, Try.ntmps22
    go_wp2_with fail
    refine (may_g _ x y true H1.out).mono ?_
    rintro e w1 ⟨rfl, hg1⟩
    obtain ⟨⟨c1, c2, c3, c4⟩, hs1, _⟩ := two_boxes hg1.below
    have hbb := (((Gr.refl w).alloc _).alloc _).trans hg1
    clear hg1
    go_wp2_with fail
    refine (may_g _ z u false H2.out).mono ?_
    rintro e w2 ⟨rfl, hg2⟩
    have hbb2 := hbb.trans hg2
    clear c1 c2 c3 c4 hbb hg2
    go_wp2
    go_ret2
    exact ⟨rfl, hbb2⟩
  · have h1' : may (x, y) = false := by simpa using h1
    have H1 := Lib.hid h1'
    clear h h1 h1'
    go_enter Try.func22, Try.ntmps22
    go_wp2_with fail
    refine (may_g _ x y false H1.out).mono ?_
    rintro e w1 ⟨rfl, hg1⟩
    obtain ⟨⟨c1, c2, c3, c4⟩, hs1, _⟩ := two_boxes hg1.below
    have hbb := (((Gr.refl w).alloc _).alloc _).trans hg1
    clear hg1
    go_wp2
    go_ret2
    exact ⟨rfl, hbb⟩
end De
end Go.Proofs.Ytpjomdkcckamkaa
