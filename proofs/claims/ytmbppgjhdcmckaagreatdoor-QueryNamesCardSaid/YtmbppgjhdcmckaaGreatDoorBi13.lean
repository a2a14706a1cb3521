/- Slices of descriptors (two whole numbers each) that lie in memory, and how they are kept: no program in sight. -/
/- Descriptors: whether one may be, how two stand: walks. -/
/- Searching and deleting by a predicate that may keep a state: walks. -/
/- Descriptors: checks, copies, whether two lists are the same: walks. -/
/- Timers: walks (printed by a program of mine). -/
/- Lists of frozen parts. No function in sight (printed by a program of mine). -/
/- A frozen part in a block. No function in sight (printed by a program of mine). -/
import Derived.Sort.Row
import Derived.Test.YtmbppgjhdcmckaaGreatDoorBi01
import Derived.Test.YtmbppgjhdcmckaaGreatDoorBi12
import Derived.Test.YtmbppgjhdcmckaaGreatDoorProg
import Derived.Deep.RegionHeld3
import Derived.Sort.Grow
import Derived.Shelf.SlSortCmp.QuietGrown
import Derived.Lib.SliceRun
import Derived.Shelf.Abstract
import Derived.Laws.StructEq
import Derived.Test.YtmbppgjhdcmckaaGreatDoorBi09
import Derived.Deep.MidRow
import Derived.Deep.WholeRow
namespace Go.Proofs.YtmbppgjhdcmckaaGreatDoor
open Go.RowKit
namespace De
/-- A descriptor's cells. -/
def encD (x : Int × Int) : List Value := [.int .i64 x.1, .int .i64 x.2]
def flatD : List (Int × Int) → List Value
 | [] => []
 | x :: l => .int .i64 x.1 :: .int .i64 x.2 :: flatD l
theorem flatD_len : ∀ l, (flatD l).length = l.length * 2
 | [] => rfl
 | x :: l => by simp [flatD, flatD_len l]; omega
theorem flatD_append : ∀ l m, flatD (l ++ m) = flatD l ++ flatD m
 | [], _ => rfl
 | x :: l, m => by simp [flatD, flatD_append l m]
theorem flatD_one : ∀ l, ∀ u ∈ flatD l, u.oneCell' = true
 | [], u, h => by simp [flatD] at h
 | x :: l, u, h => by
  simp only [flatD, List.mem_cons] at h
  rcases h with rfl | rfl | h
  · rfl
  · rfl
  · exact flatD_one l u h
theorem flatD_get : ∀ (l : List (Int × Int)) (j : Nat), j < l.length → (flatD l)[j * 2]? = some (.int .i64 (l[j]?.getD (0, 0)).1) ∧ (flatD l)[j * 2 + 1]? = some (.int .i64 (l[j]?.getD (0, 0)).2)
 | [], j, h => by simp at h
 | x :: l, 0, _ => by simp [flatD]
 | x :: l, j + 1, h => by
  have ih := flatD_get l j (by simpa using h)
  have e : (j + 1) * 2 = j * 2 + 1 + 1 := by omega
  rw [e]
  simp only [flatD, List.getElem?_cons_succ]
  exact ih
def Rng (x : Int × Int) : Prop := (-9223372036854775808 ≤ x.1 ∧ x.1 ≤ 9223372036854775807) ∧ (-9223372036854775808 ≤ x.2 ∧ x.2 ≤ 9223372036854775807)
/-- The value '.slice A n c' holds the descriptors xs, in a block from lo on and below hi. -/
structure Descs (w : World) (lo hi : Nat) (A : Option Addr) (n : Nat) (xs : List (Int × Int)) : Prop where
 len : xs.length = n
 wf : ∀ x ∈ xs, Rng x
 big : n ≤ 9223372036854775807
 row : 0 < n → ∃ b off, A = some ⟨b, off, none⟩ ∧ lo ≤ b ∧ b < hi ∧ ∀ j, j < n → (w.cell? ⟨b, off + j * 2, none⟩ = some (.int .i64 (xs[j]?.getD (0, 0)).1) ∧ w.frozen? ⟨b, off + j * 2, none⟩ = false) ∧
  (w.cell? ⟨b, off + j * 2 + 1, none⟩ = some (.int .i64 (xs[j]?.getD (0, 0)).2) ∧ w.frozen? ⟨b, off + j * 2 + 1, none⟩ = false)
section
variable {w w' : World} {lo hi lo' hi' : Nat} {A : Option Addr} {n : Nat} {xs : List (Int × Int)}
theorem Descs.nil_ (w : World) (lo hi : Nat) (A : Option Addr) : Descs w lo hi A 0 [] :=
 ⟨rfl, by simp, by omega, fun h => absurd h (by omega)⟩
theorem Descs.zero (h : Descs w lo hi A n xs) (h0 : n = 0) : xs = [] := List.eq_nil_of_length_eq_zero (by rw [h.len, h0])
theorem Descs.keep (h : Descs w lo hi A n xs) (hk : ∀ p : Addr, p.block < hi → lo ≤ p.block → w'.cell? p = w.cell? p ∧ w'.frozen? p = w.frozen? p) : Descs w' lo hi A n xs :=
 ⟨h.len, h.wf, h.big, fun hn => by
  obtain ⟨b, off, e, h1, h2, hc⟩ := h.row hn
  refine ⟨b, off, e, h1, h2, fun j hj => ?_⟩
  obtain ⟨⟨a1, a2⟩, a3, a4⟩ := hc j hj
  exact ⟨⟨(hk _ h2 h1).1.trans a1, (hk _ h2 h1).2.trans a2⟩, (hk _ h2 h1).1.trans a3, (hk _ h2 h1).2.trans a4⟩⟩
theorem Descs.more (h : Descs w lo hi A n xs) (hl : lo' ≤ lo) (hh : hi ≤ hi') : Descs w lo' hi' A n xs :=
 ⟨h.len, h.wf, h.big, fun hn => by
  obtain ⟨b, off, e, h1, h2, hc⟩ := h.row hn
  exact ⟨b, off, e, by omega, by omega, hc⟩⟩
theorem Descs.below {B : Nat} (h : Descs w lo hi A n xs) (hb : Below B w w') (hB : hi ≤ B) : Descs w' lo hi A n xs :=
 h.keep fun p hp _ => ⟨hb.cell (by omega), hb.frozen (by omega)⟩
theorem Descs.alloc (h : Descs w lo hi A n xs) (hB : hi ≤ w.heap.size) (o : Obj) : Descs (w.alloc o) lo hi A n xs :=
 h.below ((Below.refl w.heap.size w).alloc (Nat.le_refl _) o) hB
theorem Descs.at_ (h : Descs w lo hi A n xs) (j : Nat) : Rng (xs[j]?.getD (0, 0)) := by
 by_cases hj : j < xs.length
 · exact h.wf _ (by simp [hj])
 · simp [hj, Rng]
theorem Descs.raw (h : Descs w lo hi A n xs) : Raw w lo hi A (n * 2) (flatD xs) := by
 have hl := h.len
 refine ⟨by rw [flatD_len, hl], fun hn => ?_⟩
 obtain ⟨b, off, e, h1, h2, hc⟩ := h.row (by omega)
 refine ⟨b, off, e, h1, h2, fun j hj => ?_⟩
 obtain ⟨⟨a1, a2⟩, a3, a4⟩ := hc (j / 2) (by omega)
 obtain ⟨g1, g2⟩ := flatD_get xs (j / 2) (by omega)
 rcases Nat.mod_two_eq_zero_or_one j with he | he
 · have ej : j = j / 2 * 2 := by omega
   rw [ej]
   exact ⟨a1.trans g1.symm, a2⟩
 · have ej : j = j / 2 * 2 + 1 := by omega
   rw [ej]
   exact ⟨a3.trans g2.symm, a4⟩
/-- Out of what the call owns. -/
theorem Descs.of_own {base : Nat} {e : TypeId} {c : Nat} (h : w.ownsRow base e 2 (.slice A n c) n (flatD xs)) (hw : ∀ x ∈ xs, Rng x) (hn : n ≤ 9223372036854775807) : Descs w base w.heap.size A n xs := by
 have hl : xs.length = n := by have := h.1; rw [flatD_len] at this; omega
 refine ⟨hl, hw, hn, fun h0 => ?_⟩
 obtain ⟨_, h2⟩ := h
 rcases h2 with ⟨_, h3⟩ | ⟨g, cap, cur, hv, hg, hh, hnc, hcm, hcs, ht⟩
 · omega
 · injection hv with ha
   refine ⟨g, 0, ha, hg, (Array.getElem?_eq_some_iff.1 hh).1, fun j hj => ?_⟩
   obtain ⟨g1, g2⟩ := flatD_get xs j (by omega)
   rw [← ht, List.getElem?_take, if_pos (by omega)] at g1 g2
   refine ⟨⟨?_, by simp [World.frozen?, hh]⟩, ?_, by simp [World.frozen?, hh]⟩
   · rw [cell_of_row w g _ cur e (0, 0) hh, Nat.zero_add]
     simpa using g1
   · rw [cell_of_row w g _ cur e (0, 0) hh, Nat.zero_add]
     simpa using g2
end
end De
end Go.Proofs.YtmbppgjhdcmckaaGreatDoor
namespace Go.Proofs.YtmbppgjhdcmckaaGreatDoor
open Go.RowKit Go.Sort
namespace De
/-- Behind a call that reads, draws, and lays blocks of its own. -/
def Gr (w w' : World) : Prop := ∃ q os, w' = grow (w.drewN q) os
theorem Gr.refl (w : World) : Gr w w := ⟨0, #[], by rw [grow_empty]; rfl⟩
theorem Gr.trans {a b c : World} (h : Gr a b) (k : Gr b c) : Gr a c := by
 obtain ⟨q, os, rfl⟩ := h
 obtain ⟨q', os', rfl⟩ := k
 exact ⟨q + q', os ++ os', by show grow (grow ((a.drewN q).drewN q') os) os' = _; rw [grow_grow, World.drewN_drewN]⟩
theorem Gr.alloc {a b : World} (h : Gr a b) (o : Obj) : Gr a (b.alloc o) := h.trans ⟨0, #[o], by rw [alloc_eq_grow]; rfl⟩
theorem Gr.below {a b : World} (h : Gr a b) : Below a.heap.size a b := by
 obtain ⟨q, os, rfl⟩ := h
 exact ⟨rfl, rfl, rfl, by simp, fun k hk => by rw [heap_grow_old _ _ (by simpa using hk)]; rfl⟩
set_option maxHeartbeats 400000 in
/-- desc.may: a block is laid. -/
theorem may_g (w : World) (x y : Int) (b : Bool) (hb : may (x, y) = b) :
  Calls Tryz.prog 221 #[.agg #[.int .i64 x, .int .i64 y]] w fun e w' => e = .returned (.bool b) ∧ Gr w w' := by
 have HB := Lib.hid hb
 clear hb
 by_cases h1 : 0 ≤ x
 · by_cases h2 : x < 8
   · by_cases h3 : 0 ≤ y
     · by_cases h4 : y ≤ 2147483647
       · obtain rfl : b = true := by rw [← HB.out, may_iff]; exact ⟨h1, h2, h3, h4⟩
         go_enter Tryz.func221, Tryz.ntmps221
         go_wp2
         go_ret
         exact ⟨rfl, Gr.alloc (Gr.refl _) _⟩
       · obtain rfl : b = false := by rw [← HB.out, Bool.eq_false_iff, Ne, may_iff]; omega
         go_enter Tryz.func221, Tryz.ntmps221
         go_wp2
         go_ret
         exact ⟨rfl, Gr.alloc (Gr.refl _) _⟩
     · obtain rfl : b = false := by rw [← HB.out, Bool.eq_false_iff, Ne, may_iff]; omega
       go_enter Tryz.func221, Tryz.ntmps221
       go_wp2
       go_ret
       exact ⟨rfl, Gr.alloc (Gr.refl _) _⟩
   · obtain rfl : b = false := by rw [← HB.out, Bool.eq_false_iff, Ne, may_iff]; omega
     go_enter Tryz.func221, Tryz.ntmps221
     go_wp2
     go_ret
     exact ⟨rfl, Gr.alloc (Gr.refl _) _⟩
 · obtain rfl : b = false := by rw [← HB.out, Bool.eq_false_iff, Ne, may_iff]; omega
   go_enter Tryz.func221, Tryz.ntmps221
   go_wp2
   go_ret
   exact ⟨rfl, Gr.alloc (Gr.refl _) _⟩
/-- desc.may. -/
theorem may_any (w : World) (x y : Int) (b : Bool) (hb : may (x, y) = b) :
  Calls Tryz.prog 221 #[.agg #[.int .i64 x, .int .i64 y]] w fun e w' => e = .returned (.bool b) ∧ Below w.heap.size w w' := (may_g w x y b hb).mono fun _ _ ⟨he, hg⟩ => ⟨he, hg.below⟩
set_option maxHeartbeats 400000 in
/-- desc.Check's closure: may one not be? -/
theorem mayNot_any (w : World) (x y : Int) (b : Bool) (hb : may (x, y) = !b) :
  Calls Tryz.prog 220 #[.agg #[.int .i64 x, .int .i64 y]] w fun e w' => e = .returned (.bool b) ∧ Below w.heap.size w w' := by
 have HB := Lib.hid hb
 clear hb
 go_enter Tryz.func220, Tryz.ntmps220
 go_wp2_with fail
 refine (may_any _ x y (!b) HB.out).mono ?_
 rintro e w1 ⟨rfl, hb1⟩
 have hb2 := ((Below.refl w.heap.size w).alloc (Nat.le_refl _) _).trans (hb1.mono (by simp))
 go_wp2
 go_ret
 exact ⟨by simp, hb2⟩
/-- cmp.isNaN at an int. -/
theorem isNaN_int (w : World) (x : Int) : Calls Tryz.prog 235 #[.int .i64 x] w fun e w' => e = .returned (.bool false) ∧ w' = w := by
 go_enter Tryz.func235, Tryz.ntmps235
 go_wp2
 go_ret
 exact ⟨by simp, rfl⟩
/-- cmp.Compare at an int. -/
theorem compare_int (w : World) (x y : Int) (r : Int) (hr : (if x < y then -1 else if y < x then 1 else 0) = r) :
  Calls Tryz.prog 225 #[.int .i64 x, .int .i64 y] w fun e w' => e = .returned (.int .i64 r) ∧ w' = w := by
 have HR := Lib.hid hr
 clear hr
 by_cases h1 : x < y
 · obtain rfl : r = -1 := by rw [← HR.out, if_pos h1]
   go_enter Tryz.func225, Tryz.ntmps225
   go_wp2_with (go_at_call 235; refine (isNaN_int _ _).mono ?_; rintro e w' ⟨rfl, rfl⟩)
   go_ret
   exact ⟨rfl, rfl⟩
 · by_cases h2 : y < x
   · obtain rfl : r = 1 := by rw [← HR.out, if_neg h1, if_pos h2]
     go_enter Tryz.func225, Tryz.ntmps225
     go_wp2_with (go_at_call 235; refine (isNaN_int _ _).mono ?_; rintro e w' ⟨rfl, rfl⟩)
     go_ret
     exact ⟨rfl, rfl⟩
   · obtain rfl : r = 0 := by rw [← HR.out, if_neg h1, if_neg h2]
     go_enter Tryz.func225, Tryz.ntmps225
     go_wp2_with (go_at_call 235; refine (isNaN_int _ _).mono ?_; rintro e w' ⟨rfl, rfl⟩)
     go_ret
     exact ⟨rfl, rfl⟩
def cmpI (x y : Int) : Int := if x < y then -1 else if y < x then 1 else 0
theorem compare_any (w : World) (x y : Int) : Calls Tryz.prog 225 #[.int .i64 x, .int .i64 y] w fun e w' => e = .returned (.int .i64 (cmpI x y)) ∧ w = w' :=
 (compare_int w x y _ rfl).mono fun _ _ ⟨he, hw⟩ => ⟨he, hw.symm⟩
/-- cmp.Or of two ints that lie in a block of their own. -/
theorem or_two (w : World) (g : Nat) (a b r : Int) (h0 : w.cell? ⟨g, 0, none⟩ = some (.int .i64 a)) (h1 : w.cell? ⟨g, 1, none⟩ = some (.int .i64 b)) (hr : (if a = 0 then b else a) = r) :
  Calls Tryz.prog 224 #[.slice (some ⟨g, 0, none⟩) 2 2] w fun e w' => e = .returned (.int .i64 r) ∧ w' = w := by
 have HR := Lib.hid hr
 clear hr
 go_enter Tryz.func224, Tryz.ntmps224
 go_wp2
 go_loop [8] (fun i => ∃ k : Nat, k ≤ 2 ∧ i = .int .i64 k ∧ Hid (0 < k → a = 0) ∧ Hid (1 < k → b = 0)) (fun i => 2 - (intOf i).toNat)
 case atStart => exact ⟨0, by omega, rfl, fun h => absurd h (by omega), fun h => absurd h (by omega)⟩
 case round =>
  obtain ⟨k, hk, rfl, ha, hb⟩ := hrel
  obtain rfl | rfl | rfl : k = 0 ∨ k = 1 ∨ k = 2 := by omega
  · by_cases h : a = 0
    · subst h
      go_wp2
      go_round
      case rel => exact ⟨1, by omega, rfl, (by first | exact fun _ => rfl | (intro _; trivial)), fun h => absurd h (by omega)⟩
      case measure => simp [intOf]
    · obtain rfl : a = r := by rw [← HR.out, if_neg h]
      have hb : (a == 0) = false := by simpa using h
      have hb' : (a != 0) = true := by simpa using h
      go_wp2
      go_ret
      exact ⟨rfl, rfl⟩
  · have h := ha.out (by omega)
    subst h
    have e : b = r := by rw [← HR.out, if_pos rfl]
    subst e
    by_cases h : b = 0
    · subst h
      go_wp2
      go_round
      case rel => exact ⟨2, by omega, rfl, (by first | exact fun _ => rfl | (intro _; trivial)), (by first | exact fun _ => rfl | (intro _; trivial))⟩
      case measure => simp [intOf]
    · have hb : (b == 0) = false := by simpa using h
      have hb' : (b != 0) = true := by simpa using h
      go_wp2
      go_ret
      exact ⟨rfl, rfl⟩
  · have e1 := ha.out (by omega)
    have e2 := hb.out (by omega)
    subst e1
    subst e2
    have e : r = 0 := by rw [← HR.out, if_pos rfl]
    subst e
    go_wp2
    go_ret
    exact ⟨rfl, rfl⟩
def cf (a b : Int × Int) : Int := if (if b.2 < a.2 then (-1 : Int) else if a.2 < b.2 then 1 else 0) = 0 then (if a.1 < b.1 then -1 else if b.1 < a.1 then 1 else 0) else (if b.2 < a.2 then -1 else if a.2 < b.2 then 1 else 0)
theorem cf_lt (a b : Int × Int) : decide (cf a b < 0) = ltB a b := by
 rw [Bool.eq_iff_iff, lt_iff, decide_eq_true_iff]
 unfold cf
 repeat' split
 all_goals omega
set_option maxHeartbeats 400000 in
/-- desc.compare. -/
theorem comp_any (w : World) (x y z u : Int) (r : Int) (hr : cf (x, y) (z, u) = r) :
  Calls Tryz.prog 217 #[.agg #[.int .i64 x, .int .i64 y], .agg #[.int .i64 z, .int .i64 u]] w fun e w' => e = .returned (.int .i64 r) ∧ ∃ q os, w' = grow (w.drewN q) os := by
 have HR := Lib.hid hr
 clear hr
 have hpq : (if cmpI u y = 0 then cmpI x z else cmpI u y) = r := by rw [← HR.out]; rfl
 have HPQ := Lib.hid hpq
 clear hpq HR
 go_enter Tryz.func217, Tryz.ntmps217
 go_wp2
 go_region_held3 (fun w' => w'.cell? ⟨w.heap.size, 0, none⟩ = some (.int .i64 x) ∧ w'.cell? ⟨w.heap.size, 1, none⟩ = some (.int .i64 y) ∧ w'.cell? ⟨w.heap.size + 1, 0, none⟩ = some (.int .i64 z) ∧ w'.cell? ⟨w.heap.size + 1, 1, none⟩ = some (.int .i64 u)) (go_keep)
  (first
   | (go_at_call 225; refine (compare_any _ _ _).mono ?_; rintro e w' ⟨rfl, rfl⟩)
   | (go_at_call 224; refine (or_two _ _ (cmpI u y) (cmpI x z) r (by simp [go_sem]) (by simp [go_sem]) HPQ.out).mono ?_; rintro e w' ⟨rfl, rfl⟩))
 go_wp2
 go_ret
 exact ⟨rfl, 1, #[_, _, _], by simp only [alloc_eq_grow, grow_grow]; rfl⟩
end De
end Go.Proofs.YtmbppgjhdcmckaaGreatDoor
namespace Go.Proofs.YtmbppgjhdcmckaaGreatDoor
open Go.RowKit Go.Sort
namespace De
section
variable {σ : Type} (p : σ → Int × Int → Bool) (st : σ → Int × Int → σ)
def stF : σ → List (Int × Int) → σ
 | s, [] => s
 | s, x :: l => stF (st s x) l
/-- The first place of one that answers yes, and the state behind it. -/
def idxG : σ → List (Int × Int) → Int → Int × σ
 | s, [], _ => (-1, s)
 | s, x :: l, k => if p s x then (k, st s x) else idxG (st s x) l (k + 1)
/-- Those that are kept. -/
def delF : σ → List (Int × Int) → List (Int × Int)
 | _, [] => []
 | s, x :: l => if p s x then delF (st s x) l else x :: delF (st s x) l
theorem stF_snoc : ∀ (l : List (Int × Int)) (s : σ) (x : Int × Int), stF st s (l ++ [x]) = st (stF st s l) x
 | [], _, _ => rfl
 | y :: l, s, x => stF_snoc l (st s y) x
theorem delF_snoc : ∀ (l : List (Int × Int)) (s : σ) (x : Int × Int), delF p st s (l ++ [x]) = delF p st s l ++ if p (stF st s l) x then [] else [x]
 | [], s, x => by by_cases h : p s x = true <;> simp [delF, stF, h]
 | y :: l, s, x => by
  simp only [List.cons_append, delF, stF]
  split
  · exact delF_snoc l _ x
  · rw [delF_snoc l _ x]
    rfl
theorem delF_len : ∀ (l : List (Int × Int)) (s : σ), (delF p st s l).length ≤ l.length
 | [], _ => Nat.le_refl _
 | x :: l, s => by
  simp only [delF]
  have := delF_len l (st s x)
  split
  · simp; omega
  · simp; omega
/-- What the search tells. -/
theorem idxG_spec : ∀ (l : List (Int × Int)) (s : σ) (k : Nat), (∀ r s', idxG p st s l k = (r, s') → (r = -1 ∧ s' = stF st s l ∧ delF p st s l = l) ∨
  ∃ i, i < l.length ∧ r = ((k + i : Nat) : Int) ∧ s' = stF st s (l.take (i + 1)) ∧ delF p st s (l.take (i + 1)) = l.take i ∧ delF p st s (l.take i) = l.take i)
 | [], s, k, r, s', h => by
  simp only [idxG, Prod.mk.injEq] at h
  exact .inl ⟨h.1.symm, h.2.symm, rfl⟩
 | x :: l, s, k, r, s', h => by
  simp only [idxG] at h
  split at h
  · rename_i hp
    simp only [Prod.mk.injEq] at h
    refine .inr ⟨0, by simp, by rw [← h.1]; rfl, ?_, ?_⟩
    · rw [← h.2]; rfl
    · exact ⟨by simp [delF, hp], rfl⟩
  · rename_i hp
    rcases idxG_spec l (st s x) (k + 1) r s' (by rw [← h]; rfl) with ⟨h1, h2, h3⟩ | ⟨i, hi, h1, h2, h3, h4⟩
    · exact .inl ⟨h1, h2, by simp [delF, hp, h3]⟩
    · exact .inr ⟨i + 1, by simpa using hi, by rw [h1]; congr 1; omega, h2, by simp [delF, hp, h3], by simp [delF, hp, h4]⟩
end
/-- A predicate, a closure, that may keep a state in a block of its own (row) from base on, that is not block rb. -/
structure PredS {σ : Type} (g : Nat) (cb : Array Value) (base rb : Nat) (row : Option Nat) (Inv : World → σ → Prop) (Ok : Int × Int → Prop) (p : σ → Int × Int → Bool) (st : σ → Int × Int → σ) : Prop where
 enters : ∀ args w, (callFunc g args).run Tryz.prog w = .ok (.enter g args) w
 row_ : ∀ k, row = some k → base ≤ k ∧ k ≠ rb
 lt : ∀ (W : World) (s : σ) (k : Nat), row = some k → Inv W s → k < W.heap.size
 call : ∀ (W : World) (s : σ) (x : Int × Int), base ≤ W.heap.size → rb < W.heap.size → Inv W s → Ok x → Rng x → Calls Tryz.prog g (#[.agg #[.int .i64 x.1, .int .i64 x.2]] ++ cb) W fun e w' =>
  e = .returned (.bool (p s x)) ∧ Inv w' (st s x) ∧ W.grownBy w' row
 alloc : ∀ (W : World) (s : σ) (o : Obj), Inv W s → Inv (W.alloc o) s
 set_ : ∀ (W : World) (s : σ) (q : Addr) (v : Value), q.block = rb → Inv W s → Inv (W.setCell q v) s
theorem PredS.below {σ : Type} {g : Nat} {cb : Array Value} {base rb : Nat} {row : Option Nat} {Inv : World → σ → Prop} {Ok : Int × Int → Prop} {p : σ → Int × Int → Bool} {st : σ → Int × Int → σ} (hP : PredS g cb base rb row Inv Ok p st)
  {W w' : World} (hg : W.grownBy w' row) (hB : base ≤ W.heap.size) : Below base W w' := (Below.refl base W).grown hg hB fun k hk => (hP.row_ k hk).1
theorem PredS.kept {σ : Type} {g : Nat} {cb : Array Value} {base rb : Nat} {row : Option Nat} {Inv : World → σ → Prop} {Ok : Int × Int → Prop} {p : σ → Int × Int → Bool} {st : σ → Int × Int → σ} (hP : PredS g cb base rb row Inv Ok p st)
  {W w' : World} (hg : W.grownBy w' row) (hrb : rb < W.heap.size) : ∀ q : Addr, q.block = rb → w'.cell? q = W.cell? q ∧ w'.frozen? q = W.frozen? q := fun q hq => by
 have hb := hg.block rb hrb (fun e => (hP.row_ rb e.symm).2 rfl)
 exact ⟨by simp only [World.cell?, hq, hb], by simp only [World.frozen?, hq, hb]⟩
theorem Descs.of_keep {w w' : World} {rb : Nat} {A : Option Addr} {n : Nat} {xs : List (Int × Int)} (h : Descs w rb (rb + 1) A n xs) (hk : ∀ q : Addr, q.block = rb → w'.cell? q = w.cell? q ∧ w'.frozen? q = w.frozen? q) : Descs w' rb (rb + 1) A n xs :=
 h.keep fun p h1 h2 => hk p (by omega)
theorem getD_of {xs : List (Int × Int)} {k : Nat} (h : k < xs.length) : xs.drop k = (xs[k]?.getD (0, 0)) :: xs.drop (k + 1) := by
 rw [List.drop_eq_getElem_cons h, List.getElem?_eq_getElem h]
 rfl
set_option maxHeartbeats 800000 in
/-- slices.IndexFunc. -/
theorem IndexFunc_any {σ : Type} {g : Nat} {cb : Array Value} {base rb : Nat} {row : Option Nat} {Inv : World → σ → Prop} {Ok : Int × Int → Prop} {p : σ → Int × Int → Bool} {st : σ → Int × Int → σ} (hP : PredS g cb base rb row Inv Ok p st)
  (w : World) (s0 : σ) (hinv : Inv w s0) (hbase : base ≤ w.heap.size) (hrb : rb < w.heap.size) (A : Option Addr) (n c : Nat) (xs : List (Int × Int)) (hX : Descs w rb (rb + 1) A n xs) (hok : ∀ x ∈ xs, Ok x) (r : Int) (s1 : σ) (hr : idxG p st s0 xs 0 = (r, s1)) :
  Calls Tryz.prog 206 #[.slice A n c, .func (.func g) #[] cb] w fun e w' => e = .returned (.int .i64 r) ∧ Inv w' s1 ∧ Below base w w' ∧ Descs w' rb (rb + 1) A n xs := by
 have HR := Lib.hid hr
 have HL := Lib.hid hX.len
 have HOK := Lib.hid hok
 have eg := hP.enters
 have hbig := hX.big
 clear hr hok
 go_enter Tryz.func206, Tryz.ntmps206
 go_wp2
 go_loopw [5, 8] (fun _ i wr => ∃ k : Nat, ∃ s : σ, i = .int .i64 k ∧ k ≤ n ∧ Hid (idxG p st s (xs.drop k) k = (r, s1)) ∧ Hid (Inv wr s) ∧ Below base w wr ∧ Descs wr rb (rb + 1) A n xs) (fun _ i _ => n - (intOf i).toNat)
 case atStart => exact ⟨0, s0, rfl, Nat.zero_le _, HR.out, hinv, Below.refl _ _, hX⟩
 case round =>
  obtain ⟨k, s, rfl, hk, hidx, hi, hnx, hD⟩ := hrel
  by_cases hlt : k < n
  · obtain ⟨b, off, rfl, h1, h2, hc⟩ := hD.row (by omega)
    obtain rfl : rb = b := by omega
    obtain ⟨⟨g1, g2⟩, g3, g4⟩ := hc k hlt
    have hsz := hnx.size
    have hid2 := hidx.out
    rw [getD_of (by rw [HL.out]; exact hlt)] at hid2
    have hm : xs[k]?.getD (0, 0) ∈ xs := by rw [List.getElem?_eq_getElem (by rw [HL.out]; exact hlt)]; exact List.getElem_mem _
    have hrng := hD.wf _ hm
    have hcall := hP.call wr s _ (by omega) (by omega) hi.out (HOK.out _ hm) hrng
    clear hc g2 g4 hidx
    generalize xs[k]?.getD (0, 0) = x at g1 g3 hid2 hrng hcall
    obtain ⟨x1, x2⟩ := x
    simp only [idxG] at hid2
    have HC := Lib.hid hcall
    clear hcall
    cases hq : p s (x1, x2) with
    | true =>
     have hcall := HC.out
     rw [hq] at hcall hid2
     rw [if_pos rfl] at hid2
     obtain ⟨rfl, rfl⟩ := Prod.mk.inj hid2
     have HC2 := Lib.hid hcall
     clear hcall hq HC hid2 HR
     go_wp2_with fail
     refine HC2.out.mono ?_
     rintro e w' ⟨rfl, i1, hg⟩
     have i2 := hP.below hg (by omega)
     have HI1 := Lib.hid i1
     have HI3 := Lib.hid (hP.kept hg (by omega))
     clear i1 hg
     go_wp2
     go_ret
     exact ⟨rfl, HI1.out, hnx.trans i2, hD.of_keep HI3.out⟩
    | false =>
     have hcall := HC.out
     rw [hq] at hcall hid2
     rw [if_neg (by simp)] at hid2
     have HI2 := Lib.hid hid2
     have HC2 := Lib.hid hcall
     clear hcall hq HC hid2
     go_wp2_with fail
     refine HC2.out.mono ?_
     rintro e w' ⟨rfl, i1, hg⟩
     have i2 := hP.below hg (by omega)
     have HI1 := Lib.hid i1
     have HI3 := Lib.hid (hP.kept hg (by omega))
     clear i1 hg
     go_wp2
     go_roundw
     case rel => exact ⟨k + 1, st s (x1, x2), by go_num, by omega, by simpa [Hid] using HI2.out, HI1, hnx.trans i2, hD.of_keep HI3.out⟩
     case measure => simp [intOf]; omega
  · obtain rfl : k = n := by omega
    have hid2 := hidx.out
    rw [List.drop_eq_nil_of_le (by rw [HL.out]; exact Nat.le_refl _)] at hid2
    obtain ⟨rfl, rfl⟩ := Prod.mk.inj hid2
    clear hid2 hidx HR
    go_wp2
    go_ret
    exact ⟨rfl, hi.out, hnx, hD⟩
/-- slices.ContainsFunc, by a predicate without a state. -/
theorem ContainsFunc_any {g : Nat} {cb : Array Value} {base rb : Nat} {row : Option Nat} {Inv : World → Unit → Prop} {Ok : Int × Int → Prop} {p : Unit → Int × Int → Bool} (hP : PredS g cb base rb row Inv Ok p (fun _ _ => ()))
  (w : World) (hinv : Inv w ()) (hbase : base ≤ w.heap.size) (hrb : rb < w.heap.size) (A : Option Addr) (n c : Nat) (xs : List (Int × Int)) (hX : Descs w rb (rb + 1) A n xs) (hok : ∀ x ∈ xs, Ok x) (b : Bool) (hb : xs.any (p ()) = b) :
  Calls Tryz.prog 219 #[.slice A n c, .func (.func g) #[] cb] w fun e w' => e = .returned (.bool b) ∧ Below base w w' := by
 obtain ⟨r, hr⟩ : ∃ r, idxG p (fun _ _ => ()) () xs 0 = r := ⟨_, rfl⟩
 obtain ⟨r, u⟩ := r
 have hrb : decide (0 ≤ r) = b := by
  rw [← hb]
  rcases idxG_spec p (fun _ _ => ()) xs () 0 r u hr with ⟨h1, h2, h3⟩ | ⟨i, hi, h1, _, h3, h4⟩
  · rw [h1]
    symm
    rw [show decide ((0 : Int) ≤ -1) = false from rfl, Bool.eq_false_iff, Ne, List.any_eq_true]
    rintro ⟨x, hx, hp⟩
    clear hr h1 h2 hX hok hb
    induction xs with
    | nil => simp at hx
    | cons y l ih =>
     simp only [delF] at h3
     split at h3
     · have := delF_len p (fun _ _ => ()) l ()
       rw [h3] at this
       simp at this
       omega
     · rename_i hn
       rcases List.mem_cons.1 hx with rfl | hx
       · exact hn hp
       · exact ih (List.cons.inj h3).2 hx
  · rw [h1]
    have ht := delF_snoc p (fun _ _ => ()) (xs.take i) () xs[i]
    rw [← List.take_succ_eq_append_getElem hi, h3] at ht
    have hp : p () xs[i] = true := by
     by_cases hp : p () xs[i] = true
     · exact hp
     · exfalso
       rw [if_neg hp] at ht
       rw [h4] at ht
       have h6 := congrArg List.length ht
       rw [List.length_append, List.length_singleton] at h6
       omega
    symm
    rw [decide_eq_true (by omega), List.any_eq_true]
    exact ⟨xs[i], List.getElem_mem _, hp⟩
 have HRB := Lib.hid hrb
 clear hrb hb
 go_enter Tryz.func219, Tryz.ntmps219
 go_wp2_with fail
 refine (IndexFunc_any hP _ () hinv hbase (by assumption) A n c xs hX hok r u hr).mono ?_
 rintro e w' ⟨rfl, _, i2, _⟩
 clear hr
 go_wp2
 go_ret
 exact ⟨by rw [← HRB.out]; rfl, i2⟩
end De
end Go.Proofs.YtmbppgjhdcmckaaGreatDoor
namespace Go.Proofs.YtmbppgjhdcmckaaGreatDoor
open Go.RowKit Go.Sort Go.Shelf
namespace De
theorem Descs.exact {w : World} {lo hi : Nat} {A : Option Addr} {n : Nat} {xs : List (Int × Int)} (h : Descs w lo hi A n xs) (hw : hi ≤ w.heap.size) (h0 : 0 < w.heap.size) : ∃ rb, rb < w.heap.size ∧ (0 < n → lo ≤ rb ∧ rb < hi) ∧ Descs w rb (rb + 1) A n xs := by
 by_cases hn : 0 < n
 · obtain ⟨b, off, e, h1, h2, hc⟩ := h.row hn
   exact ⟨b, by omega, fun _ => ⟨h1, h2⟩, h.len, h.wf, h.big, fun _ => ⟨b, off, e, Nat.le_refl _, by omega, hc⟩⟩
 · obtain rfl : n = 0 := by omega
   have := h.zero rfl
   subst this
   exact ⟨0, h0, fun h => absurd h (by omega), Descs.nil_ ..⟩
theorem grown_of_below {B : Nat} {w w' : World} (h : Below B w w') (hB : w.heap.size ≤ B) (row : Option Nat) : w.grownBy w' row := ⟨h.os, h.tape, h.output, h.size, fun i hi _ => h.block i (by omega)⟩
theorem mayNot_pred (base rb : Nat) : PredS 220 #[] base rb none (fun _ (_ : Unit) => True) (fun _ => True) (fun _ x => !may x) (fun _ _ => ()) where
 enters := enters_of Tryz.func220 (by kernel_rfl) rfl
 row_ _ h := by cases h
 lt _ _ _ h _ := by cases h
 call W s x h1 h2 _ _ _ := (mayNot_any W x.1 x.2 (!may x) (by simp)).mono fun e w' ⟨he, hb⟩ => ⟨he, trivial, grown_of_below hb (Nat.le_refl _) _⟩
 alloc _ _ _ _ := trivial
 set_ _ _ _ _ _ _ := trivial
set_option maxHeartbeats 400000 in
/-- desc.Check. -/
theorem Check_any (w : World) (lo hi : Nat) (A : Option Addr) (n c : Nat) (xs : List (Int × Int)) (hX : Descs w lo hi A n xs) (hhi : hi ≤ w.heap.size) (h0 : 0 < w.heap.size) (r : Int) (hr : check xs = r) :
  Calls Tryz.prog 213 #[.slice A n c] w fun e w' => e = .returned (.int .i64 r) ∧ Below w.heap.size w w' := by
 have HR := Lib.hid hr
 have HL := Lib.hid hX.len
 have hbig := hX.big
 clear hr
 by_cases h64 : n > 64
 · have e : r = 4 := by rw [← HR.out, check, if_pos (by rw [HL.out]; exact h64)]
   subst e
   go_enter Tryz.func213, Tryz.ntmps213
   go_wp2
   go_ret
   exact ⟨rfl, Below.refl _ _⟩
 · obtain ⟨rb, hrb, _, hXe⟩ := hX.exact hhi h0
   have hc0 := ContainsFunc_any (mayNot_pred w.heap.size rb) w trivial (Nat.le_refl _) hrb A n c xs hXe (fun _ _ => trivial)
   by_cases hall : xs.all may = true
   · have e : r = 0 := by rw [← HR.out, check, if_neg (by rw [HL.out]; exact h64), if_pos hall]
     subst e
     have hc := hc0 false (by rw [List.any_eq_not_all_not]; simpa using hall)
     have HC := Lib.hid hc
     clear hc hc0 hall hXe hX
     go_enter Tryz.func213, Tryz.ntmps213
     go_wp2_with fail
     refine HC.out.mono ?_
     rintro e w' ⟨rfl, hb⟩
     go_wp2
     go_ret
     exact ⟨rfl, hb⟩
   · have e : r = 8 := by rw [← HR.out, check, if_neg (by rw [HL.out]; exact h64), if_neg hall]
     subst e
     have hc := hc0 true (by rw [List.any_eq_not_all_not]; simpa using hall)
     have HC := Lib.hid hc
     clear hc hc0 hall hXe hX
     go_enter Tryz.func213, Tryz.ntmps213
     go_wp2_with fail
     refine HC.out.mono ?_
     rintro e w' ⟨rfl, hb⟩
     go_wp2
     go_ret
     exact ⟨rfl, hb⟩
theorem check_mem {xs : List (Int × Int)} (h : check xs = 0) : xs.length ≤ 64 ∧ xs.all may = true := by
 unfold check at h
 split at h
 · cases h
 · split at h
   · exact ⟨by omega, by assumption⟩
   · cases h
theorem Tryz.info195 : (Tryz.prog.info? 195).map (fun i => (i.zero, i.size, i.bytes)) = some (some (.agg #[.int .i64 0, .int .i64 0]), 2, 16) := by kernel_rfl
set_option maxHeartbeats 400000 in
/-- slices.Clone. -/
theorem Clone_any (w : World) (lo hi : Nat) (A : Option Addr) (n c : Nat) (xs : List (Int × Int)) (hX : Descs w lo hi A n xs) (hhi : hi ≤ w.heap.size) (hn : n ≤ 1000000) :
  Calls Tryz.prog 214 #[.slice A n c] w fun e w' => ∃ A' c', e = .returned (.slice A' n c') ∧ n ≤ c' ∧ Below w.heap.size w w' ∧ w'.ownsRow w.heap.size 195 2 (.slice A' n c') n (flatD xs) := by
 obtain ⟨i0, hi0, hz0, hz1, hz2⟩ := info_parts Tryz.info195
 have HL := Lib.hid hX.len
 have hbig := hX.big
 rcases A with _ | a
 · by_cases hn : n = 0
   · subst hn
     have := hX.zero rfl
     subst this
     have hnil := Lib.run_eql_slice_nil (P := Tryz.prog) w 57 195 none 0 c 0 0 Tryz.underlying57
     go_enter Tryz.func214, Tryz.ntmps214
     go_wp2
     go_ret
     exact ⟨none, 0, rfl, Nat.le_refl _, Below.refl _ _, World.ownsRow_nil _ _ _ _⟩
   · obtain ⟨_, _, e, _⟩ := hX.row (by omega)
     cases e
 · have hnil := Lib.run_eql_slice_nil (P := Tryz.prog) w 57 195 (some a) n c 0 0 Tryz.underlying57
   go_enter Tryz.func214, Tryz.ntmps214
   go_wp2_with (first
    | (at_builtin; refine wpList_append_raw _ rfl (.tmp 5) (.tmp 6) 57 rfl w.heap.size 195 i0 _ 2 16 Tryz.underlying57 hi0 hz0 hz1 hz2 rfl (by decide) _ _ _ rfl (own_empty w w.heap.size _ 2 (Nat.le_refl _)) _ _ _ n _ _ rfl (hX.alloc hhi _).raw ?c1 ?c2 ?c3 ?c4 ?_))
   case c1 => exact flatD_one _
   case c2 => unfold maxLen; omega
   case c3 => omega
   case c4 => simp
   intro A2 c2 w2 hown2 hgrow2 _
   have hb2 : Below w.heap.size w w2 := ((Below.refl _ w).alloc (Nat.le_refl _) _).grown hgrow2 (by simp) (fun q hq => by simp [Value.ownBlock] at hq; omega)
   have hc2 := own_cap hown2
   clear hgrow2
   go_wp2
   go_ret
   exact ⟨A2, c2, by simp, hc2, hb2, hown2⟩
def Sm (a b : List (Int × Int)) : Bool := a == b
theorem neqD (w : World) (a b c d : Int) : (binOp .neq 195 (.agg #[.int .i64 a, .int .i64 b]) (.agg #[.int .i64 c, .int .i64 d])).run Tryz.prog w = .ok (.bool (!(a == c && b == d))) w := by
 have u3 := Tryz.underlying3
 have hS : Tryz.prog.underlying 195 = some (.struct (Tryz.prog.fieldsOf 195)) := by kernel_rfl
 have hp : Tryz.prog.stoodInHeld 195 = false := by kernel_rfl
 rw [run_neq_struct, show (10000 : Nat) = 9999 + 1 from rfl, run_equalIn_agg w 9999 195 _ _ hS hp]
 simp only [Program.fieldsOf, Tryz.underlying195]
 go_simp
 by_cases h1 : a = c <;> by_cases h2 : b = d <;> simp [h1, h2]
theorem guardD : Tryz.prog.eqGuardType Tryz.prog.depth 195 = false := by kernel_rfl
theorem take_eq {xs ys : List (Int × Int)} {k : Nat} (h1 : k < xs.length) (h2 : k < ys.length) (h : xs.take k = ys.take k) (he : xs[k]?.getD (0, 0) = ys[k]?.getD (0, 0)) : xs.take (k + 1) = ys.take (k + 1) := by
 rw [List.take_succ_eq_append_getElem h1, List.take_succ_eq_append_getElem h2, h]
 rw [List.getElem?_eq_getElem h1, List.getElem?_eq_getElem h2] at he
 congr 1
 simpa using he
set_option maxHeartbeats 400000 in
/-- slices.Equal. -/
theorem Equal_any (w : World) (lo hi lo' hi' : Nat) (A A' : Option Addr) (n c n' c' : Nat) (xs ys : List (Int × Int)) (hX : Descs w lo hi A n xs) (hY : Descs w lo' hi' A' n' ys) (r : Bool) (hr : Sm xs ys = r) :
  Calls Tryz.prog 193 #[.slice A n c, .slice A' n' c'] w fun e w' => e = .returned (.bool r) ∧ ∃ m, w' = w.drewN m := by
 have HR := Lib.hid hr
 have HL := Lib.hid hX.len
 have HL' := Lib.hid hY.len
 have hbig := hX.big
 have hbig' := hY.big
 clear hr
 by_cases hn : n = n'
 · subst hn
   have hne : ((n : Int) != (n : Int)) = false := by simp
   go_enter Tryz.func193, Tryz.ntmps193
   go_wp2
   go_loopw [5, 13] (fun _ i wr => ∃ k m : Nat, i = .int .i64 k ∧ k ≤ n ∧ Hid (xs.take k = ys.take k) ∧ wr = w.drewN m) (fun _ i _ => n - (intOf i).toNat)
   case atStart => exact ⟨0, 0, rfl, Nat.zero_le _, rfl, rfl⟩
   case round =>
    obtain ⟨k, m, rfl, hk, heq, rfl⟩ := hrel
    by_cases hlt : k < n
    · obtain ⟨b, off, rfl, h1, h2, hc⟩ := hX.row (by omega)
      obtain ⟨b', off', rfl, h1', h2', hc'⟩ := hY.row (by omega)
      obtain ⟨⟨g1, _⟩, g3, _⟩ := hc k hlt
      obtain ⟨⟨f1, _⟩, f3, _⟩ := hc' k hlt
      clear hc hc'
      have hkn : (k : Int) < n := by omega
      have hk0 : (0 : Int) ≤ k := by omega
      generalize hx : xs[k]?.getD (0, 0) = x at g1 g3
      generalize hy : ys[k]?.getD (0, 0) = y at f1 f3
      obtain ⟨x1, x2⟩ := x
      obtain ⟨y1, y2⟩ := y
      have HX := Lib.hid hx
      have HY := Lib.hid hy
      have hneq := fun W => neqD W x1 x2 y1 y2
      have hgd := guardD
      clear hx hy
      by_cases hxy : x1 = y1 ∧ x2 = y2
      · obtain ⟨rfl, rfl⟩ := hxy
        rw [show (!(x1 == x1 && x2 == x2)) = false by simp] at hneq
        go_wp2
        go_quiet (fail)
        go_wp2
        go_roundw
        case rel => exact ⟨k + 1, _, by go_num, by omega, take_eq (by rw [HL.out]; exact hlt) (by rw [HL'.out]; exact hlt) heq.out (by rw [HX.out, HY.out]), rfl⟩
        case measure => simp [intOf]; omega
      · have hf : (!(x1 == y1 && x2 == y2)) = true := by
          by_cases h1 : x1 = y1
          · have h2 : x2 ≠ y2 := fun h => hxy ⟨h1, h⟩
            simp [h2]
          · simp [h1]
        rw [hf] at hneq
        have e : r = false := by
         rw [← HR.out]
         unfold Sm
         rw [beq_eq_false_iff_ne]
         intro h
         have h3 := HX.out
         rw [h, HY.out] at h3
         have h4 := Prod.mk.inj h3
         exact hxy ⟨h4.1.symm, h4.2.symm⟩
        subst e
        go_wp2
        go_quiet (fail)
        go_wp2
        go_ret
        exact ⟨rfl, _, World.drewN_drewN _ _ _⟩
    · obtain rfl : k = n := by omega
      have e : r = true := by
       rw [← HR.out]
       unfold Sm
       have h := heq.out
       rw [List.take_of_length_le (by rw [HL.out]; exact Nat.le_refl _), List.take_of_length_le (by rw [HL'.out]; exact Nat.le_refl _)] at h
       rw [h]
       exact beq_self_eq_true _
      subst e
      clear heq
      go_wp2
      go_ret
      exact ⟨rfl, _, rfl⟩
 · have hne : ((n : Int) != (n' : Int)) = true := by rw [bne_iff_ne]; omega
   have e : r = false := by
    rw [← HR.out]
    unfold Sm
    rw [beq_eq_false_iff_ne]
    intro h
    have h1 := HL.out
    have h2 := HL'.out
    rw [h] at h1
    omega
   subst e
   go_enter Tryz.func193, Tryz.ntmps193
   go_wp2
   go_ret
   exact ⟨rfl, 0, rfl⟩
end De
end Go.Proofs.YtmbppgjhdcmckaaGreatDoor
namespace Go.Proofs.YtmbppgjhdcmckaaGreatDoor
open Go.RowKit
namespace NoT
open De (Descs Sm flatD Rng)
open Ma (mayT aheadT timerMay_any timerAhead_any alloc_ti)
open Dy
theorem Tryz.info146 : (Tryz.prog.info? 146).map (fun i => (i.zero, i.size, i.bytes)) = some (some (.agg #[.int .i64 0, .int .i64 0]), 2, 16) := by kernel_rfl
theorem neqD (w : World) (a b c d : Int) : (binOp .neq 146 (.agg #[.int .i64 a, .int .i64 b]) (.agg #[.int .i64 c, .int .i64 d])).run Tryz.prog w = .ok (.bool (!(a == c && b == d))) w := by
 have u3 := Tryz.underlying3
 have hS : Tryz.prog.underlying 146 = some (.struct (Tryz.prog.fieldsOf 146)) := by kernel_rfl
 have hp : Tryz.prog.stoodInHeld 146 = false := by kernel_rfl
 rw [run_neq_struct, show (10000 : Nat) = 9999 + 1 from rfl, run_equalIn_agg w 9999 146 _ _ hS hp]
 simp only [Program.fieldsOf, Tryz.underlying146]
 go_simp
 by_cases h1 : a = c <;> by_cases h2 : b = d <;> simp [h1, h2]
theorem guardD : Tryz.prog.eqGuardType Tryz.prog.depth 146 = false := by kernel_rfl
theorem take_eq {xs ys : List (Int × Int)} {k : Nat} (h1 : k < xs.length) (h2 : k < ys.length) (h : xs.take k = ys.take k) (he : xs[k]?.getD (0, 0) = ys[k]?.getD (0, 0)) : xs.take (k + 1) = ys.take (k + 1) := by
 rw [List.take_succ_eq_append_getElem h1, List.take_succ_eq_append_getElem h2, h]
 rw [List.getElem?_eq_getElem h1, List.getElem?_eq_getElem h2] at he
 congr 1
 simpa using he
set_option maxHeartbeats 400000 in
/-- slices.Equal. -/
theorem EqualT_any (w : World) (lo hi lo' hi' : Nat) (A A' : Option Addr) (n c n' c' : Nat) (xs ys : List (Int × Int)) (hX : Descs w lo hi A n xs) (hY : Descs w lo' hi' A' n' ys) (r : Bool) (hr : Sm xs ys = r) :
  Calls Tryz.prog 113 #[.slice A n c, .slice A' n' c'] w fun e w' => e = .returned (.bool r) ∧ ∃ m, w' = w.drewN m := by
 have HR := Lib.hid hr
 have HL := Lib.hid hX.len
 have HL' := Lib.hid hY.len
 have hbig := hX.big
 have hbig' := hY.big
 clear hr
 by_cases hn : n = n'
 · subst hn
   have hne : ((n : Int) != (n : Int)) = false := by simp
   go_enter Tryz.func113, Tryz.ntmps113
   go_wp2
   go_loopw [5, 13] (fun _ i wr => ∃ k m : Nat, i = .int .i64 k ∧ k ≤ n ∧ Hid (xs.take k = ys.take k) ∧ wr = w.drewN m) (fun _ i _ => n - (intOf i).toNat)
   case atStart => exact ⟨0, 0, rfl, Nat.zero_le _, rfl, rfl⟩
   case round =>
    obtain ⟨k, m, rfl, hk, heq, rfl⟩ := hrel
    by_cases hlt : k < n
    · obtain ⟨b, off, rfl, h1, h2, hc⟩ := hX.row (by omega)
      obtain ⟨b', off', rfl, h1', h2', hc'⟩ := hY.row (by omega)
      obtain ⟨⟨g1, _⟩, g3, _⟩ := hc k hlt
      obtain ⟨⟨f1, _⟩, f3, _⟩ := hc' k hlt
      clear hc hc'
      have hkn : (k : Int) < n := by omega
      have hk0 : (0 : Int) ≤ k := by omega
      generalize hx : xs[k]?.getD (0, 0) = x at g1 g3
      generalize hy : ys[k]?.getD (0, 0) = y at f1 f3
      obtain ⟨x1, x2⟩ := x
      obtain ⟨y1, y2⟩ := y
      have HX := Lib.hid hx
      have HY := Lib.hid hy
      have hneq := fun W => neqD W x1 x2 y1 y2
      have hgd := guardD
      clear hx hy
      by_cases hxy : x1 = y1 ∧ x2 = y2
      · obtain ⟨rfl, rfl⟩ := hxy
        rw [show (!(x1 == x1 && x2 == x2)) = false by simp] at hneq
        go_wp2
        go_quiet (fail)
        go_wp2
        go_roundw
        case rel => exact ⟨k + 1, _, by go_num, by omega, take_eq (by rw [HL.out]; exact hlt) (by rw [HL'.out]; exact hlt) heq.out (by rw [HX.out, HY.out]), rfl⟩
        case measure => simp [intOf]; omega
      · have hf : (!(x1 == y1 && x2 == y2)) = true := by
          by_cases h1 : x1 = y1
          · have h2 : x2 ≠ y2 := fun h => hxy ⟨h1, h⟩
            simp [h2]
          · simp [h1]
        rw [hf] at hneq
        have e : r = false := by
         rw [← HR.out]
         unfold Sm
         rw [beq_eq_false_iff_ne]
         intro h
         have h3 := HX.out
         rw [h, HY.out] at h3
         have h4 := Prod.mk.inj h3
         exact hxy ⟨h4.1.symm, h4.2.symm⟩
        subst e
        go_wp2
        go_quiet (fail)
        go_wp2
        go_ret
        exact ⟨rfl, _, World.drewN_drewN _ _ _⟩
    · obtain rfl : k = n := by omega
      have e : r = true := by
       rw [← HR.out]
       unfold Sm
       have h := heq.out
       rw [List.take_of_length_le (by rw [HL.out]; exact Nat.le_refl _), List.take_of_length_le (by rw [HL'.out]; exact Nat.le_refl _)] at h
       rw [h]
       exact beq_self_eq_true _
      subst e
      clear heq
      go_wp2
      go_ret
      exact ⟨rfl, _, rfl⟩
 · have hne : ((n : Int) != (n' : Int)) = true := by rw [bne_iff_ne]; omega
   have e : r = false := by
    rw [← HR.out]
    unfold Sm
    rw [beq_eq_false_iff_ne]
    intro h
    have h1 := HL.out
    have h2 := HL'.out
    rw [h] at h1
    omega
   subst e
   go_enter Tryz.func113, Tryz.ntmps113
   go_wp2
   go_ret
   exact ⟨rfl, 0, rfl⟩
/-- May the first timers be? -/
def tOk (xs : List (Int × Int)) : Nat → Bool
 | 0 => true
 | k + 1 => tOk xs k && (mayT (xs[k]?.getD (0, 0)).1 (xs[k]?.getD (0, 0)).2 && (decide (k = 0) || aheadT (xs[k - 1]?.getD (0, 0)).1 (xs[k - 1]?.getD (0, 0)).2 (xs[k]?.getD (0, 0)).1 (xs[k]?.getD (0, 0)).2))
def timersC (xs : List (Int × Int)) : Int := if 1024 < xs.length then 4 else if tOk xs xs.length = true then 0 else 8
theorem tOk_succ (xs : List (Int × Int)) (k : Nat) : tOk xs (k + 1) = (tOk xs k && (mayT (xs[k]?.getD (0, 0)).1 (xs[k]?.getD (0, 0)).2 && (decide (k = 0) || aheadT (xs[k - 1]?.getD (0, 0)).1 (xs[k - 1]?.getD (0, 0)).2 (xs[k]?.getD (0, 0)).1 (xs[k]?.getD (0, 0)).2))) := rfl
theorem tOk_stop {xs : List (Int × Int)} {k : Nat} (h : tOk xs k = false) : ∀ n, k ≤ n → tOk xs n = false
 | 0, hn => by
  have : k = 0 := by omega
  rw [this] at h
  exact h
 | n + 1, hn => by
  by_cases e : k = n + 1
  · rw [← e]; exact h
  · rw [tOk_succ, tOk_stop h n (by omega)]
    rfl
theorem timers_bad {xs : List (Int × Int)} {k : Nat} (hk : k < xs.length) (h : tOk xs (k + 1) = false) (hn : ¬ 1024 < xs.length) : timersC xs = 8 := by
 unfold timersC
 rw [if_neg hn, tOk_stop h xs.length (by omega)]
 rfl
theorem timers_good {xs : List (Int × Int)} (h : tOk xs xs.length = true) (hn : ¬ 1024 < xs.length) : timersC xs = 0 := by
 unfold timersC
 rw [if_neg hn, h]
 rfl
set_option maxHeartbeats 6400000 in
set_option maxRecDepth 100000 in
/-- timer.Check. -/
theorem TimerChk_any (w : World) (lo hi : Nat) (A : Option Addr) (n c : Nat) (xs : List (Int × Int)) (hX : Descs w lo hi A n xs) (hhi : hi ≤ w.heap.size) (code : Int) (hcode : timersC xs = code) :
  Calls Tryz.prog 122 #[.slice A n c] w fun e w' => e = .returned (.int .i64 code) ∧ Below w.heap.size w w' := by
 have HL := Lib.hid hX.len
 have hbig := hX.big
 have HC := Lib.hid hcode
 clear hcode
 by_cases h8 : (1024 : Int) < n
 · have e4 : code = 4 := by rw [← HC.out]; unfold timersC; rw [if_pos (by have := HL.out; omega)]
   subst e4
   go_enter Tryz.func122, Tryz.ntmps122
   go_wp2
   go_ret
   exact ⟨rfl, Below.refl _ _⟩
 · have H8 : Hid (¬ 1024 < xs.length) := Lib.hid (by have := HL.out; omega)
   go_enter Tryz.func122, Tryz.ntmps122
   go_wp2
   go_loopw [10] (fun iv wr => ∃ k : Nat, iv = .int .i64 k ∧ k ≤ n ∧ Hid (tOk xs k = true) ∧ Below w.heap.size w wr) (fun iv _ => n - (intOf iv).toNat)
   case atStart => exact ⟨0, rfl, Nat.zero_le _, rfl, Below.refl _ _⟩
   case round =>
    obtain ⟨k, rfl, hk, hok, hb⟩ := hrel
    have lw := hb.size
    have hXr := hX.below hb hhi
    by_cases hlt : k < n
    · obtain ⟨b, off, rfl, hb1, hb2, hc⟩ := hXr.row (by omega)
      obtain ⟨⟨g1, _⟩, g3, _⟩ := hc k hlt
      have hk0 : (0 : Int) ≤ k := by omega
      have hkn : (k : Int) < n := by omega
      have hsu := tOk_succ xs k
      rw [hok.out, Bool.true_and] at hsu
      have HO := Lib.hid hsu
      have hno : Hid (tOk xs (k + 1) = false → code = 8) := fun h => HC.out.symm.trans (timers_bad (by have := HL.out; omega) h H8.out)
      clear hsu
      generalize hx : xs[k]?.getD (0, 0) = x at g1 g3
      obtain ⟨x1, x2⟩ := x
      simp only at g1 g3
      have HX := Lib.hid hx
      have Hc := Lib.hid hc
      clear hc
      obtain ⟨t, ht⟩ : ∃ t, mayT x1 x2 = t := ⟨_, rfl⟩
      have HT := Lib.hid ht
      have HO2 : Hid (tOk xs (k + 1) = (t && (decide (k = 0) || aheadT (xs[k - 1]?.getD (0, 0)).1 (xs[k - 1]?.getD (0, 0)).2 x1 x2))) := Lib.hid (by rw [HO.out, hx, ← ht])
      clear hx ht HO
      obtain ⟨u, hu, bT, ju, Su⟩ := alloc_ti wr x1 x2
      go_upto_region 6 with fail
      try rw [hu]
      try clear hu
      cases t
      · skip
        try clear hw
        refine region_E (Keeps u) [] (m := 17) (L := #[zF,zF,zF,zF,zF,zF,zF,zF,zF,zF,zF,zF,zF,zF,zF,zF,zF]) (by kernel_rfl) (by rfl) (by rfl) ?_
        have j2 : Below u.heap.size u u.drew := (Below.refl _ _).drew
        generalize u.drew = v1 at *
        have c1_ : u.cell? ⟨wr.heap.size, 0, none⟩ = some (.int .i64 x1) := cell_of_row u wr.heap.size 0 _ _ _ bT
        have c2_ : u.cell? ⟨wr.heap.size, 0 + 1, none⟩ = some (.int .i64 x2) := cell_of_row u wr.heap.size 1 _ _ _ bT
        have kpy3 : Keeps u v1 := fun p hp => Below.block j2 p hp
        refine readE (i := 0) (L := #[zT,zF,zF,zF,zF,zF,zF,zF,zF,zF,zF,zF,zF,zF,zF,zF,zF]) (v := .agg #[.int .i64 x1, .int .i64 x2]) rfl (by rfl) (by kernel_rfl) (by kernel_rfl) (by kernel_rfl) (fun _ _ _ h => h) (by assumption) (by rfl) ?y3 ?z4
        case y3 =>
         intro w' h1
         have k1_ : w'.cell? ⟨wr.heap.size, 0, none⟩ = _ := (World.cell?_of_block (h1 _ (show wr.heap.size < u.heap.size from Su))).trans c1_
         have k2_ : w'.cell? ⟨wr.heap.size, 0 + 1, none⟩ = _ := (World.cell?_of_block (h1 _ (show wr.heap.size < u.heap.size from Su))).trans c2_
         go_simp
        try simp only [Act.put, zp]
        refine stepK (i := 1) (L := #[zT,zT,zF,zF,zF,zF,zF,zF,zF,zF,zF,zF,zF,zF,zF,zF,zF]) rfl (by rfl) (by kernel_rfl) (by rfl) (fun K hK => ?_)
        go_simp
        go_at_call 167
        refine (timerMay_any v1 x1 x2 false HT.out).mono ?_
        rintro e' v5 ⟨rfl, j6⟩
        refine hK _ _ ⟨fun _ _ => fun p hp => Below.block (later j2 j6) p hp, ?_⟩
        clear hK K
        try simp only [Act.put, zp]
        refine zE 2 #[zT,zT,zT,zF,zF,zF,zF,zF,zF,zF,zF,zF,zF,zF,zF,zF,zF] ?_ rfl ?hy3 ?rest3
        case hy3 => intro w; go_simp; (try with_reducible rfl)
        try simp only [Act.put, zp]
        refine zE 3 #[zT,zT,zT,zT,zF,zF,zF,zF,zF,zF,zF,zF,zF,zF,zF,zF,zF] ?_ rfl ?hy4 ?rest4
        case hy4 => intro w; go_simp; (try with_reducible rfl)
        try simp only [Act.put, zp]
        refine skipE (i := 4) (L := #[zT,zT,zT,zT,zT,zF,zF,zF,zF,zF,zF,zF,zF,zF,zF,zF,zF]) rfl (by rfl) (by kernel_rfl) (by kernel_rfl) (by kernel_rfl) (fun _ _ _ h => h) (by rfl) ?_
        try simp only [Act.put, zp]
        refine skipE (i := 5) (L := #[zT,zT,zT,zT,zT,zT,zF,zF,zF,zF,zF,zF,zF,zF,zF,zF,zF]) rfl (by rfl) (by kernel_rfl) (by kernel_rfl) (by kernel_rfl) (fun _ _ _ h => h) (by rfl) ?_
        try simp only [Act.put, zp]
        refine skipE (i := 6) (L := #[zT,zT,zT,zT,zT,zT,zT,zF,zF,zF,zF,zF,zF,zF,zF,zF,zF]) rfl (by rfl) (by kernel_rfl) (by kernel_rfl) (by kernel_rfl) (fun _ _ _ h => h) (by rfl) ?_
        try simp only [Act.put, zp]
        refine skipE (i := 7) (L := #[zT,zT,zT,zT,zT,zT,zT,zT,zF,zF,zF,zF,zF,zF,zF,zF,zF]) rfl (by rfl) (by kernel_rfl) (by kernel_rfl) (by kernel_rfl) (fun _ _ _ h => h) (by rfl) ?_
        try simp only [Act.put, zp]
        refine skipE (i := 8) (L := #[zT,zT,zT,zT,zT,zT,zT,zT,zT,zF,zF,zF,zF,zF,zF,zF,zF]) rfl (by rfl) (by kernel_rfl) (by kernel_rfl) (by kernel_rfl) (fun _ _ _ h => h) (by rfl) ?_
        try simp only [Act.put, zp]
        refine skipE (i := 9) (L := #[zT,zT,zT,zT,zT,zT,zT,zT,zT,zT,zF,zF,zF,zF,zF,zF,zF]) rfl (by rfl) (by kernel_rfl) (by kernel_rfl) (by kernel_rfl) (fun _ _ _ h => h) (by rfl) ?_
        try simp only [Act.put, zp]
        refine skipE (i := 10) (L := #[zT,zT,zT,zT,zT,zT,zT,zT,zT,zT,zT,zF,zF,zF,zF,zF,zF]) rfl (by rfl) (by kernel_rfl) (by kernel_rfl) (by kernel_rfl) (fun _ _ _ h => h) (by rfl) ?_
        try simp only [Act.put, zp]
        refine skipE (i := 11) (L := #[zT,zT,zT,zT,zT,zT,zT,zT,zT,zT,zT,zT,zF,zF,zF,zF,zF]) rfl (by rfl) (by kernel_rfl) (by kernel_rfl) (by kernel_rfl) (fun _ _ _ h => h) (by rfl) ?_
        try simp only [Act.put, zp]
        refine skipE (i := 12) (L := #[zT,zT,zT,zT,zT,zT,zT,zT,zT,zT,zT,zT,zT,zF,zF,zF,zF]) rfl (by rfl) (by kernel_rfl) (by kernel_rfl) (by kernel_rfl) (fun _ _ _ h => h) (by rfl) ?_
        try simp only [Act.put, zp]
        refine skipE (i := 13) (L := #[zT,zT,zT,zT,zT,zT,zT,zT,zT,zT,zT,zT,zT,zT,zF,zF,zF]) rfl (by rfl) (by kernel_rfl) (by kernel_rfl) (by kernel_rfl) (fun _ _ _ h => h) (by rfl) ?_
        try simp only [Act.put, zp]
        refine skipE (i := 14) (L := #[zT,zT,zT,zT,zT,zT,zT,zT,zT,zT,zT,zT,zT,zT,zT,zF,zF]) rfl (by rfl) (by kernel_rfl) (by kernel_rfl) (by kernel_rfl) (fun _ _ _ h => h) (by rfl) ?_
        try simp only [Act.put, zp]
        refine skipE (i := 15) (L := #[zT,zT,zT,zT,zT,zT,zT,zT,zT,zT,zT,zT,zT,zT,zT,zT,zF]) rfl (by rfl) (by kernel_rfl) (by kernel_rfl) (by kernel_rfl) (fun _ _ _ h => h) (by rfl) ?_
        try simp only [Act.put, zp]
        refine zE 16 #[zT,zT,zT,zT,zT,zT,zT,zT,zT,zT,zT,zT,zT,zT,zT,zT,zT] ?_ rfl ?hy5 ?rest5
        case hy5 => intro w; go_simp; (try with_reducible rfl)
        try simp only [Act.put, zp]
        refine doneE (by kernel_rfl) ?_ _
        obtain rfl : code = 8 := hno.out (by rw [HO2.out]; rfl)
        go_wp2
        go_ret
        exact ⟨rfl, hb.trans (Below.mono (later ju (later j2 j6)) lw)⟩
      · skip
        by_cases hkp : 0 < k
        · skip
          have h0 : Hid (¬ k = 0) := Lib.hid (by omega)
          obtain ⟨⟨f1, _⟩, f3, _⟩ := Hc.out (k - 1) (by omega)
          have hks : IntKind.i64.wrap ((k : Int) - 1) = ((k - 1 : Nat) : Int) := by rw [IntKind.wrap_i64]; omega
          have hkq : (((k - 1 : Nat) : Int)) < n := by omega
          have hkr : (0 : Int) ≤ ((k - 1 : Nat) : Int) := by omega
          generalize hy : xs[k - 1]?.getD (0, 0) = y at f1 f3
          obtain ⟨y1, y2⟩ := y
          simp only at f1 f3
          have HY := Lib.hid hy
          clear hy
          generalize hkk : k - 1 = kp at *
          obtain ⟨s, hs⟩ : ∃ s, aheadT y1 y2 x1 x2 = s := ⟨_, rfl⟩
          have HS := Lib.hid hs
          clear hs
          try clear hw
          refine region_E (Keeps u) [] (m := 17) (L := #[zF,zF,zF,zF,zF,zF,zF,zF,zF,zF,zF,zF,zF,zF,zF,zF,zF]) (by kernel_rfl) (by rfl) (by rfl) ?_
          have j8 : Below u.heap.size u u.drew := (Below.refl _ _).drew
          generalize u.drew = v7 at *
          have c1_ : u.cell? ⟨wr.heap.size, 0, none⟩ = some (.int .i64 x1) := cell_of_row u wr.heap.size 0 _ _ _ bT
          have c2_ : u.cell? ⟨wr.heap.size, 0 + 1, none⟩ = some (.int .i64 x2) := cell_of_row u wr.heap.size 1 _ _ _ bT
          have kpy9 : Keeps u v7 := fun p hp => Below.block j8 p hp
          refine readE (i := 0) (L := #[zT,zF,zF,zF,zF,zF,zF,zF,zF,zF,zF,zF,zF,zF,zF,zF,zF]) (v := .agg #[.int .i64 x1, .int .i64 x2]) rfl (by rfl) (by kernel_rfl) (by kernel_rfl) (by kernel_rfl) (fun _ _ _ h => h) (by assumption) (by rfl) ?y9 ?z10
          case y9 =>
           intro w' h1
           have k1_ : w'.cell? ⟨wr.heap.size, 0, none⟩ = _ := (World.cell?_of_block (h1 _ (show wr.heap.size < u.heap.size from Su))).trans c1_
           have k2_ : w'.cell? ⟨wr.heap.size, 0 + 1, none⟩ = _ := (World.cell?_of_block (h1 _ (show wr.heap.size < u.heap.size from Su))).trans c2_
           go_simp
          try simp only [Act.put, zp]
          refine stepK (i := 1) (L := #[zT,zT,zF,zF,zF,zF,zF,zF,zF,zF,zF,zF,zF,zF,zF,zF,zF]) rfl (by rfl) (by kernel_rfl) (by rfl) (fun K hK => ?_)
          go_simp
          go_at_call 167
          refine (timerMay_any v7 x1 x2 true HT.out).mono ?_
          rintro e' v11 ⟨rfl, j12⟩
          refine hK _ _ ⟨fun _ _ => fun p hp => Below.block (later j8 j12) p hp, ?_⟩
          clear hK K
          try simp only [Act.put, zp]
          refine zE 2 #[zT,zT,zT,zF,zF,zF,zF,zF,zF,zF,zF,zF,zF,zF,zF,zF,zF] ?_ rfl ?hy8 ?rest8
          case hy8 => intro w; go_simp; (try with_reducible rfl)
          try simp only [Act.put, zp]
          refine zE 3 #[zT,zT,zT,zT,zF,zF,zF,zF,zF,zF,zF,zF,zF,zF,zF,zF,zF] ?_ rfl ?hy9 ?rest9
          case hy9 => intro w; go_simp; (try with_reducible rfl)
          try simp only [Act.put, zp]
          refine zE 4 #[zT,zT,zT,zT,zT,zF,zF,zF,zF,zF,zF,zF,zF,zF,zF,zF,zF] ?_ rfl ?hy10 ?rest10
          case hy10 => intro w; go_simp; (try with_reducible rfl)
          try simp only [Act.put, zp]
          refine zE 5 #[zT,zT,zT,zT,zT,zT,zF,zF,zF,zF,zF,zF,zF,zF,zF,zF,zF] ?_ rfl ?hy11 ?rest11
          case hy11 => intro w; go_simp; (try with_reducible rfl)
          try simp only [Act.put, zp]
          refine zE 6 #[zT,zT,zT,zT,zT,zT,zT,zF,zF,zF,zF,zF,zF,zF,zF,zF,zF] ?_ rfl ?hy12 ?rest12
          case hy12 => intro w; go_simp; (try with_reducible rfl)
          try simp only [Act.put, zp]
          refine zE 7 #[zT,zT,zT,zT,zT,zT,zT,zT,zF,zF,zF,zF,zF,zF,zF,zF,zF] ?_ rfl ?hy13 ?rest13
          case hy13 => intro w; go_simp; (try with_reducible rfl)
          try simp only [Act.put, zp]
          refine zE 8 #[zT,zT,zT,zT,zT,zT,zT,zT,zT,zF,zF,zF,zF,zF,zF,zF,zF] ?_ rfl ?hy14 ?rest14
          case hy14 => intro w; go_simp; (try with_reducible rfl)
          try simp only [Act.put, zp]
          refine zE 9 #[zT,zT,zT,zT,zT,zT,zT,zT,zT,zT,zF,zF,zF,zF,zF,zF,zF] ?_ rfl ?hy15 ?rest15
          case hy15 => intro w; go_simp; (try with_reducible rfl)
          try simp only [Act.put, zp]
          refine zE 10 #[zT,zT,zT,zT,zT,zT,zT,zT,zT,zT,zT,zF,zF,zF,zF,zF,zF] ?_ rfl ?hy16 ?rest16
          case hy16 => intro w; go_simp; (try with_reducible rfl)
          try simp only [Act.put, zp]
          have kpy13 : Keeps u v11 := fun p hp => Below.block (later j8 j12) p hp
          refine readE (i := 11) (L := #[zT,zT,zT,zT,zT,zT,zT,zT,zT,zT,zT,zT,zF,zF,zF,zF,zF]) (v := .agg #[.int .i64 y1, .int .i64 y2]) rfl (by rfl) (by kernel_rfl) (by kernel_rfl) (by kernel_rfl) (fun _ _ _ h => h) (by assumption) (by rfl) ?y13 ?z14
          case y13 =>
           intro w' h1
           have k1_ : w'.cell? ⟨b, off + kp * 2, none⟩ = _ := (World.cell?_of_block (h1 _ (show b < u.heap.size by have := ju.size; omega))).trans ((World.cell?_of_block (ju.block _ (show b < wr.heap.size by omega))).trans f1)
           have k2_ : w'.cell? ⟨b, off + kp * 2 + 1, none⟩ = _ := (World.cell?_of_block (h1 _ (show b < u.heap.size by have := ju.size; omega))).trans ((World.cell?_of_block (ju.block _ (show b < wr.heap.size by omega))).trans f3)
           go_simp
          try simp only [Act.put, zp]
          have kpy15 : Keeps u v11 := fun p hp => Below.block (later j8 j12) p hp
          refine readE (i := 12) (L := #[zT,zT,zT,zT,zT,zT,zT,zT,zT,zT,zT,zT,zT,zF,zF,zF,zF]) (v := .agg #[.int .i64 x1, .int .i64 x2]) rfl (by rfl) (by kernel_rfl) (by kernel_rfl) (by kernel_rfl) (fun _ _ _ h => h) (by assumption) (by rfl) ?y15 ?z16
          case y15 =>
           intro w' h1
           have k1_ : w'.cell? ⟨wr.heap.size, 0, none⟩ = _ := (World.cell?_of_block (h1 _ (show wr.heap.size < u.heap.size from Su))).trans c1_
           have k2_ : w'.cell? ⟨wr.heap.size, 0 + 1, none⟩ = _ := (World.cell?_of_block (h1 _ (show wr.heap.size < u.heap.size from Su))).trans c2_
           go_simp
          try simp only [Act.put, zp]
          refine stepK (i := 13) (L := #[zT,zT,zT,zT,zT,zT,zT,zT,zT,zT,zT,zT,zT,zT,zF,zF,zF]) rfl (by rfl) (by kernel_rfl) (by rfl) (fun K hK => ?_)
          go_simp
          go_at_call 168
          refine (timerAhead_any v11 y1 y2 x1 x2 s HS.out).mono ?_
          rintro e' v17 ⟨rfl, j18⟩
          refine hK _ _ ⟨fun _ _ => fun p hp => Below.block (later j8 (later j12 j18)) p hp, ?_⟩
          clear hK K
          try simp only [Act.put, zp]
          refine zE 14 #[zT,zT,zT,zT,zT,zT,zT,zT,zT,zT,zT,zT,zT,zT,zT,zF,zF] ?_ rfl ?hy20 ?rest20
          case hy20 => intro w; go_simp; (try with_reducible rfl)
          try simp only [Act.put, zp]
          refine zE 15 #[zT,zT,zT,zT,zT,zT,zT,zT,zT,zT,zT,zT,zT,zT,zT,zT,zF] ?_ rfl ?hy21 ?rest21
          case hy21 => intro w; go_simp; (try with_reducible rfl)
          try simp only [Act.put, zp]
          refine zE 16 #[zT,zT,zT,zT,zT,zT,zT,zT,zT,zT,zT,zT,zT,zT,zT,zT,zT] ?_ rfl ?hy22 ?rest22
          case hy22 => intro w; go_simp; (try with_reducible rfl)
          try simp only [Act.put, zp]
          refine doneE (by kernel_rfl) ?_ _
          cases s
          · obtain rfl : code = 8 := hno.out (by rw [HO2.out, HY.out, decide_eq_false h0.out, HS.out]; rfl)
            go_wp2
            go_ret
            exact ⟨rfl, hb.trans (Below.mono (later ju (later j8 (later j12 j18))) lw)⟩
          have hn2 : Hid (tOk xs (k + 1) = true) := Lib.hid (by rw [HO2.out, HY.out, decide_eq_false h0.out, HS.out]; rfl)
          go_wp2
          go_roundw
          case rel => exact ⟨k + 1, by go_num, by omega, hn2, hb.trans (Below.mono (later ju (later j8 (later j12 j18))) lw)⟩
          case measure => first | (simp [intOf]; done) | (simp [intOf]; omega)
        · skip
          try clear hw
          refine region_E (Keeps u) [] (m := 17) (L := #[zF,zF,zF,zF,zF,zF,zF,zF,zF,zF,zF,zF,zF,zF,zF,zF,zF]) (by kernel_rfl) (by rfl) (by rfl) ?_
          have j20 : Below u.heap.size u u.drew := (Below.refl _ _).drew
          generalize u.drew = v19 at *
          have c1_ : u.cell? ⟨wr.heap.size, 0, none⟩ = some (.int .i64 x1) := cell_of_row u wr.heap.size 0 _ _ _ bT
          have c2_ : u.cell? ⟨wr.heap.size, 0 + 1, none⟩ = some (.int .i64 x2) := cell_of_row u wr.heap.size 1 _ _ _ bT
          have kpy21 : Keeps u v19 := fun p hp => Below.block j20 p hp
          refine readE (i := 0) (L := #[zT,zF,zF,zF,zF,zF,zF,zF,zF,zF,zF,zF,zF,zF,zF,zF,zF]) (v := .agg #[.int .i64 x1, .int .i64 x2]) rfl (by rfl) (by kernel_rfl) (by kernel_rfl) (by kernel_rfl) (fun _ _ _ h => h) (by assumption) (by rfl) ?y21 ?z22
          case y21 =>
           intro w' h1
           have k1_ : w'.cell? ⟨wr.heap.size, 0, none⟩ = _ := (World.cell?_of_block (h1 _ (show wr.heap.size < u.heap.size from Su))).trans c1_
           have k2_ : w'.cell? ⟨wr.heap.size, 0 + 1, none⟩ = _ := (World.cell?_of_block (h1 _ (show wr.heap.size < u.heap.size from Su))).trans c2_
           go_simp
          try simp only [Act.put, zp]
          refine stepK (i := 1) (L := #[zT,zT,zF,zF,zF,zF,zF,zF,zF,zF,zF,zF,zF,zF,zF,zF,zF]) rfl (by rfl) (by kernel_rfl) (by rfl) (fun K hK => ?_)
          go_simp
          go_at_call 167
          refine (timerMay_any v19 x1 x2 true HT.out).mono ?_
          rintro e' v23 ⟨rfl, j24⟩
          refine hK _ _ ⟨fun _ _ => fun p hp => Below.block (later j20 j24) p hp, ?_⟩
          clear hK K
          try simp only [Act.put, zp]
          refine zE 2 #[zT,zT,zT,zF,zF,zF,zF,zF,zF,zF,zF,zF,zF,zF,zF,zF,zF] ?_ rfl ?hy25 ?rest25
          case hy25 => intro w; go_simp; (try with_reducible rfl)
          try simp only [Act.put, zp]
          refine zE 3 #[zT,zT,zT,zT,zF,zF,zF,zF,zF,zF,zF,zF,zF,zF,zF,zF,zF] ?_ rfl ?hy26 ?rest26
          case hy26 => intro w; go_simp; (try with_reducible rfl)
          try simp only [Act.put, zp]
          refine zE 4 #[zT,zT,zT,zT,zT,zF,zF,zF,zF,zF,zF,zF,zF,zF,zF,zF,zF] ?_ rfl ?hy27 ?rest27
          case hy27 => intro w; go_simp; (try with_reducible rfl)
          try simp only [Act.put, zp]
          refine zE 5 #[zT,zT,zT,zT,zT,zT,zF,zF,zF,zF,zF,zF,zF,zF,zF,zF,zF] ?_ rfl ?hy28 ?rest28
          case hy28 => intro w; go_simp; (try with_reducible rfl)
          try simp only [Act.put, zp]
          refine zE 6 #[zT,zT,zT,zT,zT,zT,zT,zF,zF,zF,zF,zF,zF,zF,zF,zF,zF] ?_ rfl ?hy29 ?rest29
          case hy29 => intro w; go_simp; (try with_reducible rfl)
          try simp only [Act.put, zp]
          refine skipE (i := 7) (L := #[zT,zT,zT,zT,zT,zT,zT,zT,zF,zF,zF,zF,zF,zF,zF,zF,zF]) rfl (by rfl) (by kernel_rfl) (by kernel_rfl) (by kernel_rfl) (fun _ _ _ h => h) (by rfl) ?_
          try simp only [Act.put, zp]
          refine skipE (i := 8) (L := #[zT,zT,zT,zT,zT,zT,zT,zT,zT,zF,zF,zF,zF,zF,zF,zF,zF]) rfl (by rfl) (by kernel_rfl) (by kernel_rfl) (by kernel_rfl) (fun _ _ _ h => h) (by rfl) ?_
          try simp only [Act.put, zp]
          refine skipE (i := 9) (L := #[zT,zT,zT,zT,zT,zT,zT,zT,zT,zT,zF,zF,zF,zF,zF,zF,zF]) rfl (by rfl) (by kernel_rfl) (by kernel_rfl) (by kernel_rfl) (fun _ _ _ h => h) (by rfl) ?_
          try simp only [Act.put, zp]
          refine skipE (i := 10) (L := #[zT,zT,zT,zT,zT,zT,zT,zT,zT,zT,zT,zF,zF,zF,zF,zF,zF]) rfl (by rfl) (by kernel_rfl) (by kernel_rfl) (by kernel_rfl) (fun _ _ _ h => h) (by rfl) ?_
          try simp only [Act.put, zp]
          refine skipE (i := 11) (L := #[zT,zT,zT,zT,zT,zT,zT,zT,zT,zT,zT,zT,zF,zF,zF,zF,zF]) rfl (by rfl) (by kernel_rfl) (by kernel_rfl) (by kernel_rfl) (fun _ _ _ h => h) (by rfl) ?_
          try simp only [Act.put, zp]
          refine skipE (i := 12) (L := #[zT,zT,zT,zT,zT,zT,zT,zT,zT,zT,zT,zT,zT,zF,zF,zF,zF]) rfl (by rfl) (by kernel_rfl) (by kernel_rfl) (by kernel_rfl) (fun _ _ _ h => h) (by rfl) ?_
          try simp only [Act.put, zp]
          refine skipE (i := 13) (L := #[zT,zT,zT,zT,zT,zT,zT,zT,zT,zT,zT,zT,zT,zT,zF,zF,zF]) rfl (by rfl) (by kernel_rfl) (by kernel_rfl) (by kernel_rfl) (fun _ _ _ h => h) (by rfl) ?_
          try simp only [Act.put, zp]
          refine skipE (i := 14) (L := #[zT,zT,zT,zT,zT,zT,zT,zT,zT,zT,zT,zT,zT,zT,zT,zF,zF]) rfl (by rfl) (by kernel_rfl) (by kernel_rfl) (by kernel_rfl) (fun _ _ _ h => h) (by rfl) ?_
          try simp only [Act.put, zp]
          refine zE 15 #[zT,zT,zT,zT,zT,zT,zT,zT,zT,zT,zT,zT,zT,zT,zT,zT,zF] ?_ rfl ?hy30 ?rest30
          case hy30 => intro w; go_simp; (try with_reducible rfl)
          try simp only [Act.put, zp]
          refine zE 16 #[zT,zT,zT,zT,zT,zT,zT,zT,zT,zT,zT,zT,zT,zT,zT,zT,zT] ?_ rfl ?hy31 ?rest31
          case hy31 => intro w; go_simp; (try with_reducible rfl)
          try simp only [Act.put, zp]
          refine doneE (by kernel_rfl) ?_ _
          have hn2 : Hid (tOk xs (k + 1) = true) := Lib.hid (by rw [HO2.out, decide_eq_true (show k = 0 by omega)]; rfl)
          go_wp2
          go_roundw
          case rel => exact ⟨k + 1, by go_num, by omega, hn2, hb.trans (Below.mono (later ju (later j20 j24)) lw)⟩
          case measure => first | (simp [intOf]; done) | (simp [intOf]; omega)
    · obtain rfl : k = n := by omega
      have e2 : code = 0 := HC.out.symm.trans (timers_good (by rw [HL.out]; exact hok.out) H8.out)
      subst e2
      go_wp2
      go_ret
      exact ⟨rfl, hb⟩
end NoT
end Go.Proofs.YtmbppgjhdcmckaaGreatDoor
namespace Go.Proofs.YtmbppgjhdcmckaaGreatDoor
open Go.RowKit
namespace Ma
open Dp Dy
structure Fv where
 e : Int
 P : Pv
def FCells (w : World) (b o : Nat) (f : Fv) : Prop := w.cell? ⟨b, o, none⟩ = some (.int .i64 f.e) ∧ PCells w b (o + 1) f.P
theorem FCells.blk {w w' : World} {b o : Nat} {f : Fv} (h : FCells w b o f) (hk : w'.heap[b]? = w.heap[b]?) : FCells w' b o f := ⟨by rw [World.cell?_of_block hk]; exact h.1, h.2.blk hk⟩
/-- Frozen parts in a row. -/
structure LFs (w : World) (lo hi : Nat) (A : Option Addr) (n : Nat) (fs : List Fv) : Prop where
 len : fs.length = n
 big : n ≤ 9223372036854775807
 row : 0 < n → ∃ b off, A = some ⟨b, off, none⟩ ∧ lo ≤ b ∧ b < hi ∧ ∀ j (h : j < fs.length), FCells w b (off + j * 17) fs[j]
 rows : ∀ j (h : j < fs.length), PRows w lo hi fs[j].P
theorem LFs.below {w w' : World} {lo hi B : Nat} {A : Option Addr} {n : Nat} {fs : List Fv} (h : LFs w lo hi A n fs) (hb : Below B w w') (hB : hi ≤ B) : LFs w' lo hi A n fs :=
 ⟨h.len, h.big, fun h0 => by
  obtain ⟨b, off, e, h1, h2, hc⟩ := h.row h0
  exact ⟨b, off, e, h1, h2, fun j hj => (hc j hj).blk (hb.block b (by omega))⟩, fun j hj => (h.rows j hj).below hb hB⟩
theorem LFs.more {w : World} {lo hi lo' hi' : Nat} {A : Option Addr} {n : Nat} {fs : List Fv} (h : LFs w lo hi A n fs) (hl : lo' ≤ lo) (hh : hi ≤ hi') : LFs w lo' hi' A n fs :=
 ⟨h.len, h.big, fun h0 => by
  obtain ⟨b, off, e, h1, h2, hc⟩ := h.row h0
  exact ⟨b, off, e, by omega, by omega, hc⟩, fun j hj => (h.rows j hj).more hl hh⟩
theorem LFs.on {w w' : World} {A : Option Addr} {n : Nat} {fs : List Fv} (h : LFs w 0 w.heap.size A n fs) (hb : Below w.heap.size w w') : LFs w' 0 w'.heap.size A n fs := (h.below hb (Nat.le_refl _)).more (Nat.le_refl _) hb.size
/-- The rows of a part, in all. -/
def bigP (p : Pv) : Int := (p.M.S.n : Int) + p.M.W.n + p.M.C.n + p.M.A.n + p.n
/-- More than statements go through. -/
def greatF (n : Nat) (fs : List Fv) : Bool := (decide (40 < n) && decide (n < 1024)) || decide (1028 < n) || fs.any fun f => greatP f.P || (decide (40 < n) && decide (4 < bigP f.P))
/-- Two lists are the same. -/
def sameF (fs gs : List Fv) : Bool := decide (fs.length = gs.length) && (fs.zip gs).all fun x => decide (x.1.e = x.2.e) && sameP x.1.P x.2.P
theorem any_at {f : Fv → Bool} : ∀ {l : List Fv} {i : Nat} (h : i < l.length), f l[i] = true → l.any f = true
 | a :: l, 0, _, h => by simp at h; simp [h]
 | a :: l, i + 1, h, k => by
  have := any_at (f := f) (l := l) (i := i) (by simpa using h) (by simpa using k)
  simp [this]
theorem any_none {f : Fv → Bool} {l : List Fv} (h : ∀ i (hi : i < l.length), f l[i] = false) : l.any f = false := by
 cases hx : l.any f
 · rfl
 · obtain ⟨a, ha, k⟩ := List.any_eq_true.1 hx
   obtain ⟨i, hi, rfl⟩ := List.mem_iff_getElem.1 ha
   rw [h i hi] at k
   cases k
end Ma
end Go.Proofs.YtmbppgjhdcmckaaGreatDoor
namespace Go.Proofs.YtmbppgjhdcmckaaGreatDoor
open Go.RowKit
namespace Ma
open Dp Dy
/-- A whole row is laid into the block that was made last: one step of a walk. -/
theorem wpList_store_new {P : Program} {ops : Array Oper} {rest : List Oper} {op : Oper} {a : Act} {w : World} {Q : Exit → Act → World → Prop} (hgd : op.guard = none) (ty : TypeId) (x y : Operand) (ho : op.op = .store ty x y) (c c' : Array Value)
  (hx : a.eval x = .pointer (some ⟨w.heap.size, 0, none⟩)) (hy : a.eval y = .agg c') (hi : (P.info? ty).map (·.size) = some c'.size) (hs : c.size = c'.size) (h1 : c'.all (·.oneCell') = true)
  (h : wpList P ops Q rest (a.put op.dst undef) (w.alloc (.cells c' ty))) : wpList P ops Q (op :: rest) a (w.alloc (.cells c ty)) :=
 wpList_plain hgd fun _ hK => by
  unfold Oper.wp execOp
  simp only [ho, hx, hy, Instr.storeAt, Instr.sureAddr, Sem.run_bind, Sem.run_pure, Result.andThen_ok, run_storeVar_new w ty c c' hi hs h1]
  exact hK _ _ h
def FBox (w : World) (g : Nat) (f : Fv) : Prop := w.heap[g]? = some (.cells #[.int .i64 f.e, .bool f.P.M.S.s, .slice f.P.M.S.A f.P.M.S.n f.P.M.S.c, .int .i64 f.P.M.S.e, .bool f.P.M.W.s, .slice f.P.M.W.A f.P.M.W.n f.P.M.W.c, .int .i64 f.P.M.W.e, .bool f.P.M.C.s, .slice f.P.M.C.A f.P.M.C.n f.P.M.C.c, .int .i64 f.P.M.C.e, .bool f.P.M.A.s, .slice f.P.M.A.A f.P.M.A.n f.P.M.A.c, .int .i64 f.P.M.A.e, .bool f.P.h, .int .i64 f.P.mn, .int .i64 f.P.mx, .slice f.P.A f.P.n f.P.c] 115 (0, 0))
theorem FBox.cell {w : World} {g : Nat} {f : Fv} (h : FBox w g f) : (w.cell? ⟨g, 0, none⟩ = some (.int .i64 f.e) ∧ w.cell? ⟨g, 1, none⟩ = some (.bool f.P.M.S.s) ∧ w.cell? ⟨g, 2, none⟩ = some (.slice f.P.M.S.A f.P.M.S.n f.P.M.S.c) ∧ w.cell? ⟨g, 3, none⟩ = some (.int .i64 f.P.M.S.e) ∧ w.cell? ⟨g, 4, none⟩ = some (.bool f.P.M.W.s) ∧ w.cell? ⟨g, 5, none⟩ = some (.slice f.P.M.W.A f.P.M.W.n f.P.M.W.c) ∧ w.cell? ⟨g, 6, none⟩ = some (.int .i64 f.P.M.W.e) ∧ w.cell? ⟨g, 7, none⟩ = some (.bool f.P.M.C.s) ∧ w.cell? ⟨g, 8, none⟩ = some (.slice f.P.M.C.A f.P.M.C.n f.P.M.C.c) ∧ w.cell? ⟨g, 9, none⟩ = some (.int .i64 f.P.M.C.e) ∧ w.cell? ⟨g, 10, none⟩ = some (.bool f.P.M.A.s) ∧ w.cell? ⟨g, 11, none⟩ = some (.slice f.P.M.A.A f.P.M.A.n f.P.M.A.c) ∧ w.cell? ⟨g, 12, none⟩ = some (.int .i64 f.P.M.A.e) ∧ w.cell? ⟨g, 13, none⟩ = some (.bool f.P.h) ∧ w.cell? ⟨g, 14, none⟩ = some (.int .i64 f.P.mn) ∧ w.cell? ⟨g, 15, none⟩ = some (.int .i64 f.P.mx) ∧ w.cell? ⟨g, 16, none⟩ = some (.slice f.P.A f.P.n f.P.c)) ∧ ∀ k, w.frozen? ⟨g, k, none⟩ = false := by
 have hf : ∀ k, w.frozen? ⟨g, k, none⟩ = false := fun k => frozen_of_row w g k _ _ h
 have hc : ∀ k v, (#[.int .i64 f.e, .bool f.P.M.S.s, .slice f.P.M.S.A f.P.M.S.n f.P.M.S.c, .int .i64 f.P.M.S.e, .bool f.P.M.W.s, .slice f.P.M.W.A f.P.M.W.n f.P.M.W.c, .int .i64 f.P.M.W.e, .bool f.P.M.C.s, .slice f.P.M.C.A f.P.M.C.n f.P.M.C.c, .int .i64 f.P.M.C.e, .bool f.P.M.A.s, .slice f.P.M.A.A f.P.M.A.n f.P.M.A.c, .int .i64 f.P.M.A.e, .bool f.P.h, .int .i64 f.P.mn, .int .i64 f.P.mx, .slice f.P.A f.P.n f.P.c] : Array Value)[k]? = some v → w.cell? ⟨g, k, none⟩ = some v := fun k v hk => by
  unfold FBox at h
  simp [World.cell?, h]
  simpa using hk
 exact ⟨⟨hc 0 _ rfl, hc 1 _ rfl, hc 2 _ rfl, hc 3 _ rfl, hc 4 _ rfl, hc 5 _ rfl, hc 6 _ rfl, hc 7 _ rfl, hc 8 _ rfl, hc 9 _ rfl, hc 10 _ rfl, hc 11 _ rfl, hc 12 _ rfl, hc 13 _ rfl, hc 14 _ rfl, hc 15 _ rfl, hc 16 _ rfl⟩, hf⟩
theorem alloc_f (w : World) (f : Fv) : ∃ U, w.alloc (.cells #[.int .i64 f.e, .bool f.P.M.S.s, .slice f.P.M.S.A f.P.M.S.n f.P.M.S.c, .int .i64 f.P.M.S.e, .bool f.P.M.W.s, .slice f.P.M.W.A f.P.M.W.n f.P.M.W.c, .int .i64 f.P.M.W.e, .bool f.P.M.C.s, .slice f.P.M.C.A f.P.M.C.n f.P.M.C.c, .int .i64 f.P.M.C.e, .bool f.P.M.A.s, .slice f.P.M.A.A f.P.M.A.n f.P.M.A.c, .int .i64 f.P.M.A.e, .bool f.P.h, .int .i64 f.P.mn, .int .i64 f.P.mx, .slice f.P.A f.P.n f.P.c] 115) = U ∧ FBox U w.heap.size f ∧ Below w.heap.size w U ∧ w.heap.size < U.heap.size :=
 ⟨_, rfl, heap_alloc_last _ _, (Below.refl _ w).alloc (Nat.le_refl _) _, by simp⟩
theorem FBox.range {w : World} {g : Nat} {f : Fv} (h : FBox w g f) : w.rangeAt g 0 [.int .i64 f.e, .bool f.P.M.S.s, .slice f.P.M.S.A f.P.M.S.n f.P.M.S.c, .int .i64 f.P.M.S.e, .bool f.P.M.W.s, .slice f.P.M.W.A f.P.M.W.n f.P.M.W.c, .int .i64 f.P.M.W.e, .bool f.P.M.C.s, .slice f.P.M.C.A f.P.M.C.n f.P.M.C.c, .int .i64 f.P.M.C.e, .bool f.P.M.A.s, .slice f.P.M.A.A f.P.M.A.n f.P.M.A.c, .int .i64 f.P.M.A.e, .bool f.P.h, .int .i64 f.P.mn, .int .i64 f.P.mx, .slice f.P.A f.P.n f.P.c] := fun j v hj => by
 rw [Nat.zero_add]
 unfold FBox at h
 simp [World.cell?, h]
 simpa using hj
/-- Its cells amid a row, counted from the row's own beginning. -/
theorem FCells.flat {w : World} {b o : Nat} {f : Fv} (h : FCells w b o f) : w.cell? ⟨b, o, none⟩ = some (.int .i64 f.e) ∧ w.cell? ⟨b, o + 1, none⟩ = some (.bool f.P.M.S.s) ∧ w.cell? ⟨b, o + 2, none⟩ = some (.slice f.P.M.S.A f.P.M.S.n f.P.M.S.c) ∧ w.cell? ⟨b, o + 3, none⟩ = some (.int .i64 f.P.M.S.e) ∧ w.cell? ⟨b, o + 4, none⟩ = some (.bool f.P.M.W.s) ∧ w.cell? ⟨b, o + 5, none⟩ = some (.slice f.P.M.W.A f.P.M.W.n f.P.M.W.c) ∧ w.cell? ⟨b, o + 6, none⟩ = some (.int .i64 f.P.M.W.e) ∧ w.cell? ⟨b, o + 7, none⟩ = some (.bool f.P.M.C.s) ∧ w.cell? ⟨b, o + 8, none⟩ = some (.slice f.P.M.C.A f.P.M.C.n f.P.M.C.c) ∧ w.cell? ⟨b, o + 9, none⟩ = some (.int .i64 f.P.M.C.e) ∧ w.cell? ⟨b, o + 10, none⟩ = some (.bool f.P.M.A.s) ∧ w.cell? ⟨b, o + 11, none⟩ = some (.slice f.P.M.A.A f.P.M.A.n f.P.M.A.c) ∧ w.cell? ⟨b, o + 12, none⟩ = some (.int .i64 f.P.M.A.e) ∧ w.cell? ⟨b, o + 13, none⟩ = some (.bool f.P.h) ∧ w.cell? ⟨b, o + 14, none⟩ = some (.int .i64 f.P.mn) ∧ w.cell? ⟨b, o + 15, none⟩ = some (.int .i64 f.P.mx) ∧ w.cell? ⟨b, o + 16, none⟩ = some (.slice f.P.A f.P.n f.P.c) := by
 obtain ⟨k_, k0, k1, k2, k3, k4, k5, k6, k7, k8, k9, k10, k11, k12, k13, k14, k15⟩ := h
 exact ⟨k_, k0, k1, k2, k3, k4, k5, k6, k7, k8, k9, k10, k11, k12, k13, k14, k15⟩
theorem FCells.range {w : World} {b o : Nat} {f : Fv} (h : FCells w b o f) : w.rangeAt b o [.int .i64 f.e, .bool f.P.M.S.s, .slice f.P.M.S.A f.P.M.S.n f.P.M.S.c, .int .i64 f.P.M.S.e, .bool f.P.M.W.s, .slice f.P.M.W.A f.P.M.W.n f.P.M.W.c, .int .i64 f.P.M.W.e, .bool f.P.M.C.s, .slice f.P.M.C.A f.P.M.C.n f.P.M.C.c, .int .i64 f.P.M.C.e, .bool f.P.M.A.s, .slice f.P.M.A.A f.P.M.A.n f.P.M.A.c, .int .i64 f.P.M.A.e, .bool f.P.h, .int .i64 f.P.mn, .int .i64 f.P.mx, .slice f.P.A f.P.n f.P.c] := fun j v hj => by
 obtain ⟨k0, k1, k2, k3, k4, k5, k6, k7, k8, k9, k10, k11, k12, k13, k14, k15, k16⟩ := h.flat
 have hl : j < 17 := by
  rcases Nat.lt_or_ge j 17 with h' | h'
  · exact h'
  · rw [List.getElem?_eq_none (by simpa using h')] at hj
    cases hj
 have hc : j = 0 ∨ j = 1 ∨ j = 2 ∨ j = 3 ∨ j = 4 ∨ j = 5 ∨ j = 6 ∨ j = 7 ∨ j = 8 ∨ j = 9 ∨ j = 10 ∨ j = 11 ∨ j = 12 ∨ j = 13 ∨ j = 14 ∨ j = 15 ∨ j = 16 := by omega
 rcases hc with rfl | rfl | rfl | rfl | rfl | rfl | rfl | rfl | rfl | rfl | rfl | rfl | rfl | rfl | rfl | rfl | rfl <;> (simp at hj; subst hj; assumption)
theorem FBox.part {w : World} {g : Nat} {f : Fv} (h : FBox w g f) : w.rangeAt g 1 (cells16 f.P) := fun j v hj => by
 have k := h.range (j + 1) v hj
 rw [Nat.zero_add, Nat.add_comm] at k
 exact k
theorem FCells.part {w : World} {b o : Nat} {f : Fv} (h : FCells w b o f) : w.rangeAt b (o + 1) (cells16 f.P) := fun j v hj => by
 have k := h.range (j + 1) v hj
 rw [show o + 1 + j = o + (j + 1) by omega]
 exact k
end Ma
end Go.Proofs.YtmbppgjhdcmckaaGreatDoor