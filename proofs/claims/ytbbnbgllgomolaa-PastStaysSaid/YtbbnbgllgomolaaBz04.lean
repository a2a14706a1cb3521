/- ratio.divide: a walk (printed by a program of mine). -/
/- Slices of limbs: whether two are the same, copies: walks. -/
/- Dyads: whether two are the same, copies: walks. -/
/- Dyads: copies; the reference's: whether they are great, the same, copies: walks. -/
/- Sums, differences, halves and comparisons of dyads as they lie in memory. -/
/- ratio.Near: a walk (printed by a program of mine). -/
/- The examples of the chapter: a walk. -/
/- Blocks that stay. -/
import Derived.Laws.EntriesVeiled
import Derived.Laws.StructEq
import Derived.Test.YtbbnbgllgomolaaBz02
import Derived.Test.YtbbnbgllgomolaaBz03
import Derived.Test.YtbbnbgllgomolaaProg
import Derived.Lib.SmallJoins
import Derived.RangeFuncNested
import Derived.Test.YtbbnbgllgomolaaBz01
namespace Go.Proofs.Ytbbnbgllgomolaa
open Go.RowKit
namespace Dy
open Dp
attribute [local go_sem] Oper.semAt_some
theorem lt_heapR {w : World} {g : Nat} {o : Obj} (h : w.heap[g]? = some o) : g < w.heap.size := (Array.getElem?_eq_some_iff.1 h).1
/-- What stands amid the rounds of 'divide'. -/
structure DivI (w : World) (gq gr gy gf X Y n : Nat) (ys : List Int) (pre : List Nat) (O : Nat → Prop) (W : World) : Prop where
 oq : O gq
 or_ : O gr
 q : ∃ qs, WideR W gq qs ∧ num 4294967296 qs = 2 ^ (n - pre.length) * (X / 2 ^ (n - pre.length) / Y)
 r : ∃ rs, WideR W gr rs ∧ num 4294967296 rs = X / 2 ^ (n - pre.length) % Y
 y : WideR W gy ys
 f : W.heap[gf]? = some (.cells #[.func (.func 129) #[.pointer (some ⟨gr, 0, none⟩)] #[]] 167 (0, 0))
 bel : Below w.heap.size w W
theorem DivI.grown {w : World} {gq gr gy gf X Y n : Nat} {ys : List Int} {pre : List Nat} {O : Nat → Prop} {W W' : World} {row : Option Nat} (h : DivI w gq gr gy gf X Y n ys pre O W) (hg : W.grownBy W' row)
  (hr : ∀ r, row = some r → w.heap.size ≤ r ∧ r ≠ gq ∧ r ≠ gr ∧ r ≠ gy ∧ r ≠ gf) : DivI w gq gr gy gf X Y n ys pre O W' where
 oq := h.oq
 or_ := h.or_
 q := by
  obtain ⟨qs, h1, h2⟩ := h.q
  exact ⟨qs, h1.of_heap (hg.block _ h1.lt (fun e => (hr _ e.symm).2.1 rfl)), h2⟩
 r := by
  obtain ⟨rs, h1, h2⟩ := h.r
  exact ⟨rs, h1.of_heap (hg.block _ h1.lt (fun e => (hr _ e.symm).2.2.1 rfl)), h2⟩
 y := h.y.of_heap (hg.block _ h.y.lt (fun e => (hr _ e.symm).2.2.2.1 rfl))
 f := (hg.block _ (lt_heapR h.f) (fun e => (hr _ e.symm).2.2.2.2 rfl)).trans h.f
 bel := h.bel.grown hg h.bel.size (fun k e => (hr _ e).1)
theorem results_row_slot {P : Program} {fn : Func} {p q : Tmp} {ty : TypeId} (h : fn.results = #[.cell p ty, .tmp q]) (tmps : Array Value) (w : World) (g : Nat) (t : TypeId) (cs : Array Value) (fr : Nat × Nat) (d : TypeDesc) (v : Value)
  (hp : tmps.getD p undef = .pointer (some ⟨g, 0, none⟩)) (hq : tmps.getD q undef = v) (hg : w.heap[g]? = some (.cells cs t fr))
  (hu : P.underlying ty = some d) (hd : (match d with | .struct _ | .array _ _ => true | _ => false) = true) (hi : (P.info? ty).map (·.size) = some cs.size) :
  (results fn tmps).run P w = .ok (.tuple #[.agg cs, v]) w := by
 have hp' : tmps[p]?.getD undef = .pointer (some ⟨g, 0, none⟩) := by simpa using hp
 have hq' : tmps[q]?.getD undef = v := by simpa using hq
 simp [results, h, hp', hq', asAddr, run_loadVar_row w g t ty cs fr d hg hu hd hi]
theorem boxes5 (w : World) (o1 o2 o3 o4 o5 : Obj) {w1 : World} (hw : ((((w.alloc o1).alloc o2).alloc o3).alloc o4).alloc o5 = w1) : w1.heap[w.heap.size]? = some o1 ∧ w1.heap[w.heap.size + 1]? = some o2 ∧ w1.heap[w.heap.size + 1 + 1]? = some o3 ∧ w1.heap[w.heap.size + 1 + 1 + 1]? = some o4 ∧ w1.heap[w.heap.size + 1 + 1 + 1 + 1]? = some o5 ∧ Below w.heap.size w w1 ∧ w.heap.size + 5 ≤ w1.heap.size ∧ w1.heap.size ≤ w.heap.size + 5 := by
 subst hw
 have a1 := heap_alloc_last w o1
 have a2 := heap_alloc_last (w.alloc o1) o2
 have a3 := heap_alloc_last ((w.alloc o1).alloc o2) o3
 have a4 := heap_alloc_last (((w.alloc o1).alloc o2).alloc o3) o4
 have a5 := heap_alloc_last ((((w.alloc o1).alloc o2).alloc o3).alloc o4) o5
 have s1 : (w.alloc o1).heap.size = w.heap.size + 1 := by simp
 have s2 : ((w.alloc o1).alloc o2).heap.size = w.heap.size + 1 + 1 := by simp
 have s3 : (((w.alloc o1).alloc o2).alloc o3).heap.size = w.heap.size + 1 + 1 + 1 := by simp
 have s4 : ((((w.alloc o1).alloc o2).alloc o3).alloc o4).heap.size = w.heap.size + 1 + 1 + 1 + 1 := by simp
 have s5 : (((((w.alloc o1).alloc o2).alloc o3).alloc o4).alloc o5).heap.size = w.heap.size + 1 + 1 + 1 + 1 + 1 := by simp
 rw [s1] at a2
 rw [s2] at a3
 rw [s3] at a4
 rw [s4] at a5
 refine ⟨?_, ?_, ?_, ?_, a5, ?_, by omega, by omega⟩
 · rw [Below.heap_alloc _ _ _ (by omega), Below.heap_alloc _ _ _ (by omega), Below.heap_alloc _ _ _ (by omega), Below.heap_alloc _ _ _ (by omega)]
   exact a1
 · rw [Below.heap_alloc _ _ _ (by omega), Below.heap_alloc _ _ _ (by omega), Below.heap_alloc _ _ _ (by omega)]
   exact a2
 · rw [Below.heap_alloc _ _ _ (by omega), Below.heap_alloc _ _ _ (by omega)]
   exact a3
 · rw [Below.heap_alloc _ _ _ (by omega)]
   exact a4
 · exact (((((Below.refl _ w).alloc (Nat.le_refl _) _).alloc (by omega) _).alloc (by omega) _).alloc (by omega) _).alloc (by omega) _
end Dy
end Go.Proofs.Ytbbnbgllgomolaa
namespace Go.Proofs.Ytbbnbgllgomolaa
open Go.RowKit
theorem lt_of_heapP {W : World} {g : Nat} {o : Obj} (h : W.heap[g]? = some o) : g < W.heap.size := (Array.getElem?_eq_some_iff.1 h).1
theorem heap_newP (w : World) (o : Obj) (g : Nat) (h : g = w.heap.size) : (w.alloc o).heap[g]? = some o := by
 subst h
 exact World.alloc_heap_new w o
theorem drewN_add (w : World) (a b : Nat) : (w.drewN a).drewN b = w.drewN (a + b) := by simp [World.drewN, Nat.add_assoc]
namespace Pa
/-- Are two lists of numbers the same? -/
def Sm (a b : List Int) : Bool := a == b
theorem Sm_refl (a : List Int) : Sm a a = true := beq_self_eq_true _
theorem Sm_len {a b : List Int} (h : a.length ≠ b.length) : Sm a b = false := by
 unfold Sm
 rw [beq_eq_false_iff_ne]
 exact fun e => h (by rw [e])
theorem Sm_at {a b : List Int} {k : Nat} (h : a[k]?.getD 0 ≠ b[k]?.getD 0) : Sm a b = false := by
 unfold Sm
 rw [beq_eq_false_iff_ne]
 exact fun e => h (by rw [e])
theorem take_next {a b : List Int} {k : Nat} (h1 : k < a.length) (h2 : k < b.length) (h : a.take k = b.take k) (he : a[k]?.getD 0 = b[k]?.getD 0) : a.take (k + 1) = b.take (k + 1) := by
 rw [List.take_succ_eq_append_getElem h1, List.take_succ_eq_append_getElem h2, h]
 rw [List.getElem?_eq_getElem h1, List.getElem?_eq_getElem h2] at he
 simp only [Option.getD_some] at he
 rw [he]
set_option maxHeartbeats 800000 in
/-- slices.Equal. -/
theorem Equal_any (w : World) (lo hi lo' hi' : Nat) (A A' : Option Addr) (n c n' c' : Nat) (xs ys : List Int) (hX : Ints w lo hi .u32 A n xs) (hY : Ints w lo' hi' .u32 A' n' ys) (r : Bool) (hr : Sm xs ys = r) :
  Calls Try.prog 62 #[.slice A n c, .slice A' n' c'] w fun e w' => e = .returned (.bool r) ∧ ∃ m, w' = w.drewN m := by
 have HR := Lib.hid hr
 have HX := Lib.hid hX.len
 have HY := Lib.hid hY.len
 have hbx := hX.big
 have hby := hY.big
 clear hr
 by_cases hnn : n = n'
 · subst hnn
   go_enter Try.func62, Try.ntmps62
   go_wp2
   go_loopw [13] (fun iv wr => ∃ k : Nat, iv = .int .i64 k ∧ k ≤ n ∧ Hid (xs.take k = ys.take k) ∧ ∃ m, wr = w.drewN m) (fun iv _ => n - (intOf iv).toNat)
   case atStart => exact ⟨0, rfl, Nat.zero_le _, rfl, 0, rfl⟩
   case round =>
    obtain ⟨k, rfl, hk, htk, m, rfl⟩ := hrel
    by_cases hlt : k < n
    · obtain ⟨b, off, rfl, _, _, hc⟩ := hX.row (by omega)
      obtain ⟨b', off', rfl, _, _, hc'⟩ := hY.row (by omega)
      have g1 := (hc k hlt).1
      have g2 := (hc' k hlt).1
      have hk0 : (0 : Int) ≤ k := by omega
      have hkn : (k : Int) < n := by omega
      have hnx : Hid (xs[k]?.getD 0 = ys[k]?.getD 0 → xs.take (k + 1) = ys.take (k + 1)) := fun he => take_next (by rw [HX.out]; exact hlt) (by rw [HY.out]; exact hlt) htk.out he
      have hno : Hid (xs[k]?.getD 0 ≠ ys[k]?.getD 0 → Sm xs ys = false) := fun he => Sm_at he
      clear hc hc'
      generalize xs[k]?.getD 0 = x at g1 hnx hno
      generalize ys[k]?.getD 0 = y at g2 hnx hno
      by_cases he : x = y
      · subst he
        have hn2 := Lib.hid (hnx.out rfl)
        have hne : (x != x) = false := by simp
        go_wp2
        go_quiet (fail)
        go_wp2
        go_roundw
        case rel => exact ⟨k + 1, by go_num, by omega, hn2, _, rfl⟩
        case measure => simp [intOf]; omega
      · have e2 : r = false := by rw [← HR.out]; exact hno.out he
        subst e2
        have hne : (x != y) = true := by simpa using he
        go_wp2
        go_quiet (fail)
        go_wp2
        go_ret
        exact ⟨rfl, _, drewN_add ..⟩
    · obtain rfl : k = n := by omega
      have e2 : r = true := by
       rw [← HR.out]
       have := htk.out
       rw [List.take_of_length_le (by rw [HX.out]; exact Nat.le_refl _), List.take_of_length_le (by rw [HY.out]; exact Nat.le_refl _)] at this
       rw [this]
       exact Sm_refl _
      subst e2
      go_wp2
      go_ret
      exact ⟨rfl, m, rfl⟩
 · have e2 : r = false := by rw [← HR.out]; exact Sm_len (by rw [HX.out, HY.out]; exact hnn)
   subst e2
   have hne : ((n : Int) != n') = true := by simpa using (show ¬ (n : Int) = n' by omega)
   have hne2 : (n != n') = true := by simpa using hnn
   go_enter Try.func62, Try.ntmps62
   go_wp2
   go_ret
   exact ⟨rfl, 0, rfl⟩
end Pa
end Go.Proofs.Ytbbnbgllgomolaa
namespace Go.Proofs.Ytbbnbgllgomolaa
open Go.RowKit
namespace Pa
theorem infoU32 : (Try.prog.info? 70).map (fun i => (i.zero, i.size, i.bytes)) = some (some (.int .u32 0), 1, 4) := by kernel_rfl
theorem u32_one (xs : List Int) : ∀ u ∈ xs.map (Value.int .u32), u.oneCell' = true := fun u hu => by
 obtain ⟨x, _, rfl⟩ := List.mem_map.1 hu
 rfl
/-- limb.Same. -/
theorem limbSame_any (w : World) (lo hi lo' hi' : Nat) (A A' : Option Addr) (n c n' c' : Nat) (xs ys : List Int) (hX : Ints w lo hi .u32 A n xs) (hY : Ints w lo' hi' .u32 A' n' ys) (r : Bool) (hr : Sm xs ys = r) :
  Calls Try.prog 115 #[.slice A n c, .slice A' n' c'] w fun e w' => e = .returned (.bool r) ∧ ∃ m, w' = w.drewN m := by
 have HR := Lib.hid hr
 clear hr
 go_enter Try.func115, Try.ntmps115
 go_wp2_with fail
 refine (Equal_any _ lo hi lo' hi' A A' n c n' c' xs ys hX hY r HR.out).mono ?_
 rintro e w1 ⟨rfl, m, rfl⟩
 go_wp2
 go_ret
 exact ⟨rfl, m, rfl⟩
/-- A dyad's datum: whether it is below 0, its limbs, its exponent. -/
structure Dy where
 neg : Bool
 limbs : List Int
 exp : Int
def Dy.same (a b : Dy) : Bool := a.neg == b.neg && (a.exp == b.exp && Sm a.limbs b.limbs)
theorem Dy.same_refl (a : Dy) : a.same a = true := by simp [Dy.same, Sm_refl]
set_option maxHeartbeats 1600000 in
/-- dyad.Same. -/
theorem dyadSame_any (w : World) (s s' : Bool) (A A' : Option Addr) (n c n' c' : Nat) (xs ys : List Int) (e e' : Int) (hX : Ints w 0 w.heap.size .u32 A n xs) (hY : Ints w 0 w.heap.size .u32 A' n' ys) (r : Bool) (hr : Dy.same ⟨s, xs, e⟩ ⟨s', ys, e'⟩ = r) :
  Calls Try.prog 86 #[.agg #[.bool s, .slice A n c, .int .i64 e], .agg #[.bool s', .slice A' n' c', .int .i64 e']] w fun e w' => e = .returned (.bool r) ∧ Below w.heap.size w w' := by
 have fin := ((Below.refl w.heap.size w).alloc (Nat.le_refl _) (.cells #[.bool s, .slice A n c, .int .i64 e] 25)).alloc (by simp) (.cells #[.bool s', .slice A' n' c', .int .i64 e'] 25)
 have hX2 := (hX.alloc (Nat.le_refl _) (.cells #[.bool s, .slice A n c, .int .i64 e] 25)).alloc (by simp) (.cells #[.bool s', .slice A' n' c', .int .i64 e'] 25)
 have hY2 := (hY.alloc (Nat.le_refl _) (.cells #[.bool s, .slice A n c, .int .i64 e] 25)).alloc (by simp) (.cells #[.bool s', .slice A' n' c', .int .i64 e'] 25)
 have HR := Lib.hid hr
 clear hr
 by_cases h1 : s = s'
 · subst h1
   have h1' : (s == s) = true := by simp
   by_cases h2 : e = e'
   · subst h2
     have h2' : (e == e) = true := by simp
     have hs : Hid (Sm xs ys = r) := by rw [Hid, ← HR.out]; simp [Dy.same]
     go_enter Try.func86, Try.ntmps86
     go_wp2_with fail
     refine (limbSame_any _ _ _ _ _ A A' n c n' c' xs ys hX2 hY2 r hs.out).mono ?_
     rintro e w1 ⟨rfl, m, rfl⟩
     go_wp2
     go_ret
     exact ⟨rfl, below_drewN fin m⟩
   · have h2' : (e == e') = false := by simpa using h2
     have e2 : r = false := by rw [← HR.out]; simp [Dy.same, h2]
     subst e2
     go_enter Try.func86, Try.ntmps86
     go_wp2
     go_ret
     exact ⟨rfl, fin⟩
 · have h1' : (s == s') = false := by simpa using h1
   have e2 : r = false := by rw [← HR.out]; simp [Dy.same, h1]
   subst e2
   go_enter Try.func86, Try.ntmps86
   go_wp2
   go_ret
   exact ⟨rfl, fin⟩
end Pa
end Go.Proofs.Ytbbnbgllgomolaa
namespace Go.Proofs.Ytbbnbgllgomolaa
open Go.RowKit
namespace Pa
/-- The cells of a box of three behind a callee. -/
theorem boxP3 {w : World} {g : Nat} {x y z : Value} {t : TypeId} (h : w.heap[g]? = some (.cells #[x, y, z] t (0, 0))) :
  (w.cell? ⟨g, 0, none⟩ = some x ∧ w.cell? ⟨g, 1, none⟩ = some y ∧ w.cell? ⟨g, 2, none⟩ = some z) ∧ (w.frozen? ⟨g, 0, none⟩ = false ∧ w.frozen? ⟨g, 1, none⟩ = false ∧ w.frozen? ⟨g, 2, none⟩ = false) :=
 ⟨⟨cell_of_row w g 0 _ t _ h, cell_of_row w g 1 _ t _ h, cell_of_row w g 2 _ t _ h⟩, frozen_of_row w g 0 _ t h, frozen_of_row w g 1 _ t h, frozen_of_row w g 2 _ t h⟩
theorem heapKeep {base g : Nat} {w w' : World} {x} (hb : Below base w w') (hg : g < base) (h : w.heap[g]? = some x) : w'.heap[g]? = some x := (hb.block _ hg).trans h
theorem heapAll {g : Nat} {w : World} {x} (o) (h : w.heap[g]? = some x) : (w.alloc o).heap[g]? = some x := (Below.heap_alloc _ _ _ (lt_of_heapP h)).trans h
theorem ints_far {w : World} {lo hi : Nat} {k : IntKind} {A : Option Addr} {n : Nat} {xs : List Int} (h : Ints w lo hi k A n xs) {p : Addr} (hp : p.block < lo ∨ hi ≤ p.block) (u : Value) : Ints (w.setCell p u) lo hi k A n xs :=
 ⟨h.len, h.wf, h.big, fun hn => by
  obtain ⟨b, off, e, h1, h2, hc⟩ := h.row hn
  exact ⟨b, off, e, h1, h2, fun j hj => ⟨(World.cell?_setCell_other w p _ u (fun e => by subst e; simp at hp; omega)).trans (hc j hj).1, (World.frozen?_setCell ..).trans (hc j hj).2⟩⟩⟩
theorem own_emptyg (w : World) (g base : Nat) (e : TypeId) (size : Nat) (hg : g = w.heap.size) (h : base ≤ w.heap.size) : (w.alloc (.cells #[] e)).ownsRow base e size (.slice (some ⟨g, 0, none⟩) 0 0) 0 [] := by
 subst hg
 exact own_empty w base e size h
/-- Is a dyad greater than statements go through? -/
def Dy.great (a : Dy) : Bool := decide (42 < a.limbs.length) || decide (1100 < a.exp)
set_option maxHeartbeats 800000 in
/-- headcountref02.Great. -/
theorem rGreat_any (w : World) (s : Bool) (A : Option Addr) (n c : Nat) (xs : List Int) (e : Int) (hl : xs.length = n) (r : Bool) (hr : Dy.great ⟨s, xs, e⟩ = r) :
  Calls Try.prog 34 #[.agg #[.bool s, .slice A n c, .int .i64 e]] w fun q w' => q = .returned (.bool r) ∧ Below w.heap.size w w' := by
 have HR := Lib.hid hr
 have HL := Lib.hid hl
 have fin := (Below.refl w.heap.size w).alloc (Nat.le_refl _) (.cells #[.bool s, .slice A n c, .int .i64 e] 25)
 clear hr hl
 by_cases h1 : 42 < n
 · have e2 : r = true := by rw [← HR.out, Dy.great]; simp; left; rw [HL.out]; exact h1
   subst e2
   have h1' : decide ((42 : Int) < n) = true := by simp; omega
   go_enter Try.func34, Try.ntmps34
   go_wp2
   go_ret
   exact ⟨rfl, fin⟩
 · have h1' : decide ((42 : Int) < n) = false := by simp; omega
   have e2 : Hid (decide ((1100 : Int) < e) = r) := by rw [Hid, ← HR.out, Dy.great]; simp [HL.out, h1]
   go_enter Try.func34, Try.ntmps34
   go_wp2
   go_ret
   exact ⟨by rw [← e2.out]; rfl, fin⟩
end Pa
end Go.Proofs.Ytbbnbgllgomolaa
namespace Go.Proofs.Ytbbnbgllgomolaa
open Go.RowKit
namespace Dy
open Dp
theorem dig_ints {w : World} {lo hi : Nat} {A : Option Addr} {n : Nat} {xs : List Int} (h : Ints w lo hi .u32 A n xs) : Dig 4294967296 xs := fun x hx => by
 have h1 := h.wf x hx
 have h2 : 0 ≤ x ∧ x ≤ 4294967295 := by simpa [IntKind.min, IntKind.max, IntKind.signed, IntKind.bits] using h1
 omega
/-- A dyad's numbers. -/
def dn (s : Bool) (xs : List Int) (e : Int) : Dn := ⟨s, num 4294967296 xs, e.toNat⟩
theorem dn_ok {s : Bool} {xs : List Int} {e : Int} (hd : Dig 4294967296 xs) (h : MayD s xs e) : (dn s xs e).May ∧ canon 4294967296 (dn s xs e).m = xs ∧ ((dn s xs e).e : Int) = e :=
 ⟨(may_dn hd h).1, (may_dn hd h).2, by have := h.2.1; show ((e.toNat : Nat) : Int) = e; omega⟩
theorem dn_of {r : Dn} : dn r.neg (canon 4294967296 r.m) r.e = r := by
 unfold dn
 rw [(canon_spec 4294967296 r.m (by decide)).2.2]
 rfl
end Dy
end Go.Proofs.Ytbbnbgllgomolaa
namespace Go.Proofs.Ytbbnbgllgomolaa
open Go.RowKit
namespace Dy
open Dp
/-- What stands amid the rounds of 'Near'. -/
def HalfI (M i : Nat) (cur : List Int) : Prop := ∀ j, j < i → cur[j]?.getD 0 = ((M / 4294967296 ^ j % 4294967296 : Nat) : Int)
theorem HalfI.set {M i d : Nat} {cur : List Int} (h : HalfI M i cur) (hi : i < cur.length) (hv : d = M / 4294967296 ^ i % 4294967296) : HalfI M (i + 1) (cur.set i (d : Int)) := fun j hj => by
 by_cases hji : j = i
 · subst hji
   rw [List.getElem?_set_self hi, ← hv]
   rfl
 · rw [set_far _ _ (fun e => hji e.symm)]
   exact h j (by omega)
end Dy
end Go.Proofs.Ytbbnbgllgomolaa
namespace Go.Proofs.Ytbbnbgllgomolaa
open Go.RowKit
namespace Dy
open Dp
theorem may_small (s : Bool) (m e : Nat) (h0 : m ≠ 0) (h1 : m < 16) (h2 : e ≤ 1024) (h3 : 0 < e → m % 2 = 1) : Dn.May ⟨s, m, e⟩ :=
 ⟨capD_gt (k := 4) h1 (by decide), h2, fun h => absurd h h0, h3⟩
theorem canon_one (m : Nat) (h0 : m ≠ 0) (h1 : m < 4294967296) : canon 4294967296 m = [(m : Int)] := by
 refine (canon_of (by decide) (fun x hx => ?_) (fun _ => ?_) ?_).symm
 · rw [List.mem_singleton.1 hx]
   omega
 · simp
   exact h0
 · simp [num]
/-- A dyad in a box. -/
structure Box (w : World) (g : Nat) (d : Dn) : Prop where
 some_ : ∃ A n c, w.heap[g]? = some (.cells #[.bool d.neg, .slice A n c, .int .i64 d.e] 25 (0, 0)) ∧ Ints w 0 w.heap.size .u32 A n (canon 4294967296 d.m)
theorem Box.below {w w' : World} {g : Nat} {d : Dn} (h : Box w g d) (hb : Below w.heap.size w w') : Box w' g d := by
 obtain ⟨A, n, c, h1, h2⟩ := h.some_
 exact ⟨A, n, c, (hb.block g (Array.getElem?_eq_some_iff.1 h1).1).trans h1, (h2.below hb (Nat.le_refl _)).more (Nat.le_refl _) hb.size⟩
theorem Box.new {w : World} (d : Dn) (A : Option Addr) (n c : Nat) (h : Ints w 0 w.heap.size .u32 A n (canon 4294967296 d.m)) (s : Bool) (e : Int) (hs : s = d.neg) (he : e = d.e) : Box (w.alloc (.cells #[.bool s, .slice A n c, .int .i64 e] 25)) w.heap.size d := by
 subst hs he
 exact ⟨A, n, c, heap_alloc_last _ _, (h.alloc (Nat.le_refl _) _).more (Nat.le_refl _) (by simp)⟩
/-- Amid a walk: nothing of what was has changed, the table is there. -/
structure Amid (w0 w : World) : Prop where
 below : Below w0.heap.size w0 w
 tab : Tab w
theorem Amid.on {w0 w w' : World} (h : Amid w0 w) (hb : Below w.heap.size w w') : Amid w0 w' := ⟨h.below.trans (hb.mono h.below.size), h.tab.below hb h.tab.lt⟩
theorem Amid.alloc {w0 w : World} (h : Amid w0 w) (o : Obj) : Amid w0 (w.alloc o) := h.on ((Below.refl _ w).alloc (Nat.le_refl _) o)
end Dy
end Go.Proofs.Ytbbnbgllgomolaa
namespace Go.Proofs.Ytbbnbgllgomolaa
open Go.RowKit
namespace Dy
open Dp
/-- Blocks that were there are as they were. -/
def Keeps (W w : World) : Prop := ∀ p, p < W.heap.size → w.heap[p]? = W.heap[p]?
theorem Keeps.refl (W : World) : Keeps W W := fun _ _ => rfl
theorem Keeps.on {W w w' : World} (h : Keeps W w) (hs : W.heap.size ≤ w.heap.size) (hb : Below w.heap.size w w') : Keeps W w' := fun p hp => (hb.block p (Nat.lt_of_lt_of_le hp hs)).trans (h p hp)
theorem Amid.drew {w0 w : World} (h : Amid w0 w) : Amid w0 w.drew := ⟨h.below.drew, h.tab.keep rfl⟩
end Dy
end Go.Proofs.Ytbbnbgllgomolaa