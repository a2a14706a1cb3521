/- Descriptors: whether one may be, how two stand: walks. -/
import Derived.Test.YtpjomdkcckamkaaDeBase
import Derived.Test.YtpjomdkcckamkaaProg
import Derived.Deep.RegionHeld3
import Derived.Sort.Grow
import Derived.Shelf.SlSortCmp.QuietGrown
namespace Go.Proofs.Ytpjomdkcckamkaa
open Go.RowKit Go.Sort
namespace De
/-- Behind a call that reads, draws, and lays blocks of its own. -/
def Gr (w w' : World) : Prop := ∃ q os, w' = grow (w.drewN q) os
theorem Gr.refl (w : World) : Gr w w := ⟨0, #[], by rw [grow_empty]; rfl⟩
theorem Gr.trans {a b c : World} (h : Gr a b) (k : Gr b c) : Gr a c := by
  obtain ⟨q, os, rfl⟩ := h
  obtain ⟨q', os', rfl⟩ := k
  exact ⟨q + q', os ++ os', by show grow (grow ((a.drewN q).drewN q') os) os' = _; rw [grow_grow, World.drewN_drewN]⟩
theorem Gr.alloc {a b : World} (h : Gr a b) (o : Obj) : Gr a (b.alloc o) := h.trans ⟨0, #[o], by rw [alloc_eq_grow]; rfl⟩
theorem Gr.drewN {a b : World} (h : Gr a b) (n : Nat) : Gr a (b.drewN n) := h.trans ⟨n, #[], by rw [grow_empty]⟩
theorem Gr.below {a b : World} (h : Gr a b) : Below a.heap.size a b := by
  obtain ⟨q, os, rfl⟩ := h
  exact ⟨rfl, rfl, rfl, by simp, fun k hk => by rw [heap_grow_old _ _ (by simpa using hk)]; rfl⟩
theorem Calls.gr {P : Program} {f : FuncId} {args : Array Value} {w : World} {n : Nat} {os : Array Obj} {v : Value} (h : Calls P f args (grow (w.drewN n) os) fun e w' => e = .returned v ∧ Gr (grow (w.drewN n) os) w') :
    Calls P f args (grow (w.drewN n) os) fun e w'' => e = .returned v ∧ ∃ p : GrownBy, w'' = grow (w.drewN p.n) p.os :=
  Calls.grown_of (h.mono fun _ _ ⟨he, q, os', hq⟩ => ⟨he, q, os', hq⟩)

set_option maxHeartbeats 400000 in
/-- desc.may: a block is laid. -/
theorem may_g (w : World) (x y : Int) (b : Bool) (hb : may (x, y) = b) :
    Calls Try.prog 58 #[.agg #[.int .i64 x, .int .i64 y]] w fun e w' => e = .returned (.bool b) ∧ Gr w w' := by
  have HB := Lib.hid hb
  clear hb
  by_cases h1 : 0 ≤ x
  · by_cases h2 : x < 8
    · by_cases h3 : 0 ≤ y
      · by_cases h4 : y ≤ 2147483647
        · obtain rfl : b = true := by rw [← HB.out, may_iff]; exact ⟨h1, h2, h3, h4⟩
          go_enter Try.func58, Try.ntmps58
          go_wp2
          go_ret
          exact ⟨rfl, Gr.alloc (Gr.refl _) _⟩
        · obtain rfl : b = false := by rw [← HB.out, Bool.eq_false_iff, Ne, may_iff]; omega
          go_enter Try.func58, Try.ntmps58
          go_wp2
          go_ret
          exact ⟨rfl, Gr.alloc (Gr.refl _) _⟩
      · obtain rfl : b = false := by rw [← HB.out, Bool.eq_false_iff, Ne, may_iff]; omega
        go_enter Try.func58, Try.ntmps58
        go_wp2
        go_ret
        exact ⟨rfl, Gr.alloc (Gr.refl _) _⟩
    · obtain rfl : b = false := by rw [← HB.out, Bool.eq_false_iff, Ne, may_iff]; omega
      go_enter Try.func58, Try.ntmps58
      go_wp2
      go_ret
      exact ⟨rfl, Gr.alloc (Gr.refl _) _⟩
  · obtain rfl : b = false := by rw [← HB.out, Bool.eq_false_iff, Ne, may_iff]; omega
    go_enter Try.func58, Try.ntmps58
    go_wp2
    go_ret
    exact ⟨rfl, Gr.alloc (Gr.refl _) _⟩

/-- desc.may. -/
theorem may_any (w : World) (x y : Int) (b : Bool) (hb : may (x, y) = b) :
    Calls Try.prog 58 #[.agg #[.int .i64 x, .int .i64 y]] w fun e w' => e = .returned (.bool b) ∧ Below w.heap.size w w' := (may_g w x y b hb).mono fun _ _ ⟨he, hg⟩ => ⟨he, hg.below⟩

set_option maxHeartbeats 400000 in
/-- desc.Check's closure: may one not be? -/
theorem mayNot_any (w : World) (x y : Int) (b : Bool) (hb : may (x, y) = !b) :
    Calls Try.prog 64 #[.agg #[.int .i64 x, .int .i64 y]] w fun e w' => e = .returned (.bool b) ∧ Below w.heap.size w w' := by
  have HB := Lib.hid hb
  clear hb
  go_enter Try.func64, Try.ntmps64
  go_wp2_with fail
  refine (may_any _ x y (!b) HB.out).mono ?_
  rintro e w1 ⟨rfl, hb1⟩
  have hb2 := ((Below.refl w.heap.size w).alloc (Nat.le_refl _) _).trans (hb1.mono (by simp))
  go_wp2
  go_ret
  exact ⟨by simp, hb2⟩

/-- cmp.isNaN at an int. -/
theorem isNaN_int (w : World) (x : Int) : Calls Try.prog 85 #[.int .i64 x] w fun e w' => e = .returned (.bool false) ∧ w' = w := by
  go_enter Try.func85, Try.ntmps85
  go_wp2
  go_ret
  exact ⟨by simp, rfl⟩

/-- cmp.Compare at an int. -/
theorem compare_int (w : World) (x y : Int) (r : Int) (hr : (if x < y then -1 else if y < x then 1 else 0) = r) :
    Calls Try.prog 78 #[.int .i64 x, .int .i64 y] w fun e w' => e = .returned (.int .i64 r) ∧ w' = w := by
  have HR := Lib.hid hr
  clear hr
  by_cases h1 : x < y
  · obtain rfl : r = -1 := by rw [← HR.out, if_pos h1]
    go_enter Try.func78, Try.ntmps78
    go_wp2_with (go_at_call 85; refine (isNaN_int _ _).mono ?_; rintro e w' ⟨rfl, rfl⟩)
    go_ret
    exact ⟨rfl, rfl⟩
  · by_cases h2 : y < x
    · obtain rfl : r = 1 := by rw [← HR.out, if_neg h1, if_pos h2]
      go_enter Try.func78, Try.ntmps78
      go_wp2_with (go_at_call 85; refine (isNaN_int _ _).mono ?_; rintro e w' ⟨rfl, rfl⟩)
      go_ret
      exact ⟨rfl, rfl⟩
    · obtain rfl : r = 0 := by rw [← HR.out, if_neg h1, if_neg h2]
      go_enter Try.func78, Try.ntmps78
      go_wp2_with (go_at_call 85; refine (isNaN_int _ _).mono ?_; rintro e w' ⟨rfl, rfl⟩)
      go_ret
      exact ⟨rfl, rfl⟩

def cmpI (x y : Int) : Int := if x < y then -1 else if y < x then 1 else 0
theorem compare_any (w : World) (x y : Int) : Calls Try.prog 78 #[.int .i64 x, .int .i64 y] w fun e w' => e = .returned (.int .i64 (cmpI x y)) ∧ w = w' :=
  (compare_int w x y _ rfl).mono fun _ _ ⟨he, hw⟩ => ⟨he, hw.symm⟩

/-- cmp.Or of two ints that lie in a block of their own. -/
theorem or_two (w : World) (g : Nat) (a b r : Int) (h0 : w.cell? ⟨g, 0, none⟩ = some (.int .i64 a)) (h1 : w.cell? ⟨g, 1, none⟩ = some (.int .i64 b)) (hr : (if a = 0 then b else a) = r) :
    Calls Try.prog 77 #[.slice (some ⟨g, 0, none⟩) 2 2] w fun e w' => e = .returned (.int .i64 r) ∧ w' = w := by
  have HR := Lib.hid hr
  clear hr
  go_enter Try.func77, Try.ntmps77
  go_wp2
  go_loop [8] (fun i => ∃ k : Nat, k ≤ 2 ∧ i = .int .i64 k ∧ Hid (0 < k → a = 0) ∧ Hid (1 < k → b = 0)) (fun i => 2 - (intOf i).toNat)
  case atStart => exact ⟨0, by omega, rfl, fun h => absurd h (by omega), fun h => absurd h (by omega)⟩
  case round =>
    obtain ⟨k, hk, rfl, ha, hb⟩ := hrel
    obtain rfl | rfl | rfl : k = 0 ∨ k = 1 ∨ k = 2 := by omega
    · by_cases h : a = 0
      · subst h
        go_wp2
        go_round
        case rel => exact ⟨1, by omega, rfl, (by first | exact fun _ => rfl | (intro _; trivial)), fun h => absurd h (by omega)⟩
        case measure => simp [intOf]
      · obtain rfl : a = r := by rw [← HR.out, if_neg h]
        have hb : (a == 0) = false := by simpa using h
        have hb' : (a != 0) = true := by simpa using h
        go_wp2
        go_ret
        exact ⟨rfl, rfl⟩
    · have h := ha.out (by omega)
      subst h
      have e : b = r := by rw [← HR.out, if_pos rfl]
      subst e
      by_cases h : b = 0
      · subst h
        go_wp2
        go_round
        case rel => exact ⟨2, by omega, rfl, (by first | exact fun _ => rfl | (intro _; trivial)), (by first | exact fun _ => rfl | (intro _; trivial))⟩
        case measure => simp [intOf]
      · have hb : (b == 0) = false := by simpa using h
        have hb' : (b != 0) = true := by simpa using h
        go_wp2
        go_ret
        exact ⟨rfl, rfl⟩
    · have e1 := ha.out (by omega)
      have e2 := hb.out (by omega)
      subst e1
      subst e2
      have e : r = 0 := by rw [← HR.out, if_pos rfl]
      subst e
      go_wp2
      go_ret
      exact ⟨rfl, rfl⟩

def cf (a b : Int × Int) : Int := if (if b.2 < a.2 then (-1 : Int) else if a.2 < b.2 then 1 else 0) = 0 then (if a.1 < b.1 then -1 else if b.1 < a.1 then 1 else 0) else (if b.2 < a.2 then -1 else if a.2 < b.2 then 1 else 0)
theorem cf_lt (a b : Int × Int) : decide (cf a b < 0) = ltB a b := by
  rw [Bool.eq_iff_iff, lt_iff, decide_eq_true_iff]
  unfold cf
  repeat' split
  all_goals omega

set_option maxHeartbeats 400000 in
/-- desc.compare. -/
theorem comp_any (w : World) (x y z u : Int) (r : Int) (hr : cf (x, y) (z, u) = r) :
    Calls Try.prog 59 #[.agg #[.int .i64 x, .int .i64 y], .agg #[.int .i64 z, .int .i64 u]] w fun e w' => e = .returned (.int .i64 r) ∧ ∃ q os, w' = grow (w.drewN q) os := by
  have HR := Lib.hid hr
  clear hr
  have hpq : (if cmpI u y = 0 then cmpI x z else cmpI u y) = r := by rw [← HR.out]; rfl
  have HPQ := Lib.hid hpq
  clear hpq HR
  go_enter Try.func59, Try.ntmps59
  go_wp2
  go_region_held3 (fun w' => w'.cell? ⟨w.heap.size, 0, none⟩ = some (.int .i64 x) ∧ w'.cell? ⟨w.heap.size, 1, none⟩ = some (.int .i64 y) ∧ w'.cell? ⟨w.heap.size + 1, 0, none⟩ = some (.int .i64 z) ∧ w'.cell? ⟨w.heap.size + 1, 1, none⟩ = some (.int .i64 u)) (go_keep)
    (first
      | (go_at_call 78; refine (compare_any _ _ _).mono ?_; rintro e w' ⟨rfl, rfl⟩)
      | (go_at_call 77; refine (or_two _ _ (cmpI u y) (cmpI x z) r (by simp [go_sem]) (by simp [go_sem]) HPQ.out).mono ?_; rintro e w' ⟨rfl, rfl⟩))
  go_wp2
  go_ret
  exact ⟨rfl, 1, #[_, _, _], by simp only [alloc_eq_grow, grow_grow]; rfl⟩
end De
end Go.Proofs.Ytpjomdkcckamkaa
