/- (*ratio.wide).form: a walk (printed by a program of mine). -/
/- ratio.divide: a walk (printed by a program of mine). -/
/- dyad.Check, whatever the dyad is; boxes. -/
/- Slices of limbs: whether two are the same, copies: walks. -/
/- Dyads: whether two are the same, copies: walks. -/
/- Dyads: copies; the reference's: whether they are great, the same, copies: walks. -/
/- Sums, differences, halves and comparisons of dyads as they lie in memory. -/
/- ratio.Near: a walk (printed by a program of mine). -/
import Derived.Deep.Cut
import Derived.Lib.MinMax
import Derived.Test.YtbbnbgllgomolaaDoorBh03
import Derived.Test.YtbbnbgllgomolaaDoorBh05
import Derived.Test.YtbbnbgllgomolaaDoorBh01
import Derived.Test.YtbbnbgllgomolaaDoorBh02
import Derived.Laws.EntriesVeiled
import Derived.Laws.StructEq
import Derived.Test.YtbbnbgllgomolaaDoorBh04
import Derived.Test.YtbbnbgllgomolaaDoorProg
import Derived.Lib.SmallJoins
import Derived.RangeFuncNested
namespace Go.Proofs.YtbbnbgllgomolaaDoor
open Go.RowKit
namespace Dy
open Dp
theorem zputR {w : World} {g : Nat} {x y z : Value} {t : TypeId} (h : w.heap[g]? = some (.cells #[x, y, z] t (0, 0))) (a b c : Value) : ∃ U, ((w.setCell ⟨g, 0, none⟩ a).setCell ⟨g, 1, none⟩ b).setCell ⟨g, 2, none⟩ c = U ∧ U.heap[g]? = some (.cells #[a, b, c] t (0, 0)) ∧ (∀ w0 B, Below B w0 w → B ≤ g → Below B w0 U) ∧ (∀ j, j ≠ g → U.heap[j]? = w.heap[j]?) ∧ U.heap.size ≤ w.heap.size ∧ w.heap.size ≤ U.heap.size := by
  refine ⟨_, rfl, by simp [World.setCell, Array.getElem?_modify, h], fun w0 B hb hg => ((hb.setCell hg _).setCell hg _).setCell hg _, fun j hj => setCell3_other _ hj _ _ _, by simp [World.setCell], by simp [World.setCell]⟩
theorem intsR {w w' : World} {lo hi n : Nat} {k : IntKind} {A : Option Addr} {xs : List Int} (h : Ints w lo hi k A n xs) (hk : ∀ b, lo ≤ b → b < hi → w'.heap[b]? = w.heap[b]?) : Ints w' lo hi k A n xs :=
  ⟨h.len, h.wf, h.big, fun h0 => by
    obtain ⟨b, off, e, h1, h2, hc⟩ := h.row h0
    have h3 := hk b h1 h2
    exact ⟨b, off, e, h1, h2, fun j hj => ⟨by rw [World.cell?_of_block h3]; exact (hc j hj).1, by rw [World.frozen?_of_block h3]; exact (hc j hj).2⟩⟩⟩
end Dy
end Go.Proofs.YtbbnbgllgomolaaDoor
namespace Go.Proofs.YtbbnbgllgomolaaDoor
open Go.RowKit
namespace Dy
open Dp
attribute [local go_sem] Oper.semAt_some
theorem lt_heapR {w : World} {g : Nat} {o : Obj} (h : w.heap[g]? = some o) : g < w.heap.size := (Array.getElem?_eq_some_iff.1 h).1
/-- What stands amid the rounds of 'divide'. -/
structure DivI (w : World) (gq gr gy gf X Y n : Nat) (ys : List Int) (pre : List Nat) (O : Nat → Prop) (W : World) : Prop where
  oq : O gq
  or_ : O gr
  q : ∃ qs, WideR W gq qs ∧ num 4294967296 qs = 2 ^ (n - pre.length) * (X / 2 ^ (n - pre.length) / Y)
  r : ∃ rs, WideR W gr rs ∧ num 4294967296 rs = X / 2 ^ (n - pre.length) % Y
  y : WideR W gy ys
  f : W.heap[gf]? = some (.cells #[.func (.func 99) #[.pointer (some ⟨gr, 0, none⟩)] #[]] 129 (0, 0))
  bel : Below w.heap.size w W
theorem DivI.grown {w : World} {gq gr gy gf X Y n : Nat} {ys : List Int} {pre : List Nat} {O : Nat → Prop} {W W' : World} {row : Option Nat} (h : DivI w gq gr gy gf X Y n ys pre O W) (hg : W.grownBy W' row)
    (hr : ∀ r, row = some r → w.heap.size ≤ r ∧ r ≠ gq ∧ r ≠ gr ∧ r ≠ gy ∧ r ≠ gf) : DivI w gq gr gy gf X Y n ys pre O W' where
  oq := h.oq
  or_ := h.or_
  q := by
    obtain ⟨qs, h1, h2⟩ := h.q
    exact ⟨qs, h1.of_heap (hg.block _ h1.lt (fun e => (hr _ e.symm).2.1 rfl)), h2⟩
  r := by
    obtain ⟨rs, h1, h2⟩ := h.r
    exact ⟨rs, h1.of_heap (hg.block _ h1.lt (fun e => (hr _ e.symm).2.2.1 rfl)), h2⟩
  y := h.y.of_heap (hg.block _ h.y.lt (fun e => (hr _ e.symm).2.2.2.1 rfl))
  f := (hg.block _ (lt_heapR h.f) (fun e => (hr _ e.symm).2.2.2.2 rfl)).trans h.f
  bel := h.bel.grown hg h.bel.size (fun k e => (hr _ e).1)
end Dy
end Go.Proofs.YtbbnbgllgomolaaDoor
namespace Go.Proofs.YtbbnbgllgomolaaDoor
open Go.RowKit
namespace Dy
open Dp
theorem boxes2R (w : World) (o1 o2 : Obj) {w1 : World} (hw : (w.alloc o1).alloc o2 = w1) : w1.heap[w.heap.size]? = some o1 ∧ w1.heap[w.heap.size + 1]? = some o2 ∧ Below w.heap.size w w1 ∧ w.heap.size + 2 ≤ w1.heap.size ∧ w1.heap.size ≤ w.heap.size + 2 := by
  subst hw
  have a2 := heap_alloc_last (w.alloc o1) o2
  have s1 : (w.alloc o1).heap.size = w.heap.size + 1 := by simp
  have s2 : ((w.alloc o1).alloc o2).heap.size = w.heap.size + 1 + 1 := by simp
  rw [s1] at a2
  refine ⟨?_, a2, ?_, by omega, by omega⟩
  · rw [Below.heap_alloc _ _ _ (by omega)]
    exact heap_alloc_last w o1
  · exact ((Below.refl _ w).alloc (Nat.le_refl _) _).alloc (by omega) _
theorem boxes3R (w : World) (o1 o2 o3 : Obj) {w1 : World} (hw : ((w.alloc o1).alloc o2).alloc o3 = w1) : w1.heap[w.heap.size]? = some o1 ∧ w1.heap[w.heap.size + 1]? = some o2 ∧ w1.heap[w.heap.size + 1 + 1]? = some o3 ∧ Below w.heap.size w w1 ∧ w.heap.size + 3 ≤ w1.heap.size ∧ w1.heap.size ≤ w.heap.size + 3 := by
  subst hw
  obtain ⟨a1, a2, b, l1, l2⟩ := boxes2R w o1 o2 rfl
  have a3 := heap_alloc_last ((w.alloc o1).alloc o2) o3
  have s2 : ((w.alloc o1).alloc o2).heap.size = w.heap.size + 1 + 1 := by simp
  have s3 : (((w.alloc o1).alloc o2).alloc o3).heap.size = w.heap.size + 1 + 1 + 1 := by simp
  rw [s2] at a3
  refine ⟨?_, ?_, a3, b.alloc (by omega) _, by omega, by omega⟩
  · rw [Below.heap_alloc _ _ _ (by omega)]
    exact a1
  · rw [Below.heap_alloc _ _ _ (by omega)]
    exact a2
end Dy
end Go.Proofs.YtbbnbgllgomolaaDoor
namespace Go.Proofs.YtbbnbgllgomolaaDoor
open Go.RowKit
theorem lt_of_heapP {W : World} {g : Nat} {o : Obj} (h : W.heap[g]? = some o) : g < W.heap.size := (Array.getElem?_eq_some_iff.1 h).1
theorem heap_newP (w : World) (o : Obj) (g : Nat) (h : g = w.heap.size) : (w.alloc o).heap[g]? = some o := by
  subst h
  exact World.alloc_heap_new w o
theorem drewN_add (w : World) (a b : Nat) : (w.drewN a).drewN b = w.drewN (a + b) := by simp [World.drewN, Nat.add_assoc]
namespace Pa
/-- Are two lists of numbers the same? -/
def Sm (a b : List Int) : Bool := a == b
theorem Sm_refl (a : List Int) : Sm a a = true := beq_self_eq_true _
theorem Sm_len {a b : List Int} (h : a.length ≠ b.length) : Sm a b = false := by
  unfold Sm
  rw [beq_eq_false_iff_ne]
  exact fun e => h (by rw [e])
theorem Sm_at {a b : List Int} {k : Nat} (h : a[k]?.getD 0 ≠ b[k]?.getD 0) : Sm a b = false := by
  unfold Sm
  rw [beq_eq_false_iff_ne]
  exact fun e => h (by rw [e])
theorem take_next {a b : List Int} {k : Nat} (h1 : k < a.length) (h2 : k < b.length) (h : a.take k = b.take k) (he : a[k]?.getD 0 = b[k]?.getD 0) : a.take (k + 1) = b.take (k + 1) := by
  rw [List.take_succ_eq_append_getElem h1, List.take_succ_eq_append_getElem h2, h]
  rw [List.getElem?_eq_getElem h1, List.getElem?_eq_getElem h2] at he
  simp only [Option.getD_some] at he
  rw [he]
end Pa
end Go.Proofs.YtbbnbgllgomolaaDoor
namespace Go.Proofs.YtbbnbgllgomolaaDoor
open Go.RowKit
namespace Pa
theorem infoU32 : (Tryd.prog.info? 58).map (fun i => (i.zero, i.size, i.bytes)) = some (some (.int .u32 0), 1, 4) := by kernel_rfl
theorem u32_one (xs : List Int) : ∀ u ∈ xs.map (Value.int .u32), u.oneCell' = true := fun u hu => by
  obtain ⟨x, _, rfl⟩ := List.mem_map.1 hu
  rfl
set_option maxHeartbeats 800000 in
/-- slices.Clone. -/
theorem Clone_any (w : World) (lo hi : Nat) (A : Option Addr) (n c : Nat) (xs : List Int) (hX : Ints w lo hi .u32 A n xs) (hhi : hi ≤ w.heap.size) (hn : n ≤ 1000000) :
    Calls Tryd.prog 81 #[.slice A n c] w fun e w' => ∃ A' c', e = .returned (.slice A' n c') ∧ n ≤ c' ∧ Below w.heap.size w w' ∧ w'.ownsRow w.heap.size 58 1 (.slice A' n c') n (xs.map (Value.int .u32)) := by
  obtain ⟨i0, hi0, hz0, hz1, hz2⟩ := info_parts infoU32
  have HL := Lib.hid hX.len
  have hbig := hX.big
  rcases A with _ | a
  · by_cases hn : n = 0
    · subst hn
      have := hX.zero rfl
      subst this
      have hnil := Lib.run_eql_slice_nil (P := Tryd.prog) w 22 58 none 0 c 0 0 Tryd.underlying22
      go_enter Tryd.func81, Tryd.ntmps81
      go_wp2
      go_ret
      exact ⟨none, 0, rfl, Nat.le_refl _, Below.refl _ _, World.ownsRow_nil _ _ _ _⟩
    · obtain ⟨_, _, e, _⟩ := hX.row (by omega)
      cases e
  · have hnil := Lib.run_eql_slice_nil (P := Tryd.prog) w 22 58 (some a) n c 0 0 Tryd.underlying22
    go_enter Tryd.func81, Tryd.ntmps81
    go_wp2_with (first
      | (at_builtin; refine wpList_append_raw _ rfl (.tmp 5) (.tmp 6) 22 rfl w.heap.size 58 i0 _ 1 4 Tryd.underlying22 hi0 hz0 hz1 hz2 rfl (by decide) _ _ _ rfl (own_empty w w.heap.size _ 1 (Nat.le_refl _)) _ _ _ n _ _ rfl (hX.alloc hhi _).raw ?c1 ?c2 ?c3 ?c4 ?_))
    case c1 => exact u32_one _
    case c2 => unfold maxLen; omega
    case c3 => omega
    case c4 => simp
    intro A2 c2 w2 hown2 hgrow2 _
    have hb2 : Below w.heap.size w w2 := ((Below.refl _ w).alloc (Nat.le_refl _) _).grown hgrow2 (by simp) (fun q hq => by simp [Value.ownBlock] at hq; omega)
    have hc2 := own_cap hown2
    clear hgrow2
    go_wp2
    go_ret
    exact ⟨A2, c2, by simp, hc2, hb2, hown2⟩
/-- A dyad's datum: whether it is below 0, its limbs, its exponent. -/
structure Dy where
  neg : Bool
  limbs : List Int
  exp : Int
def Dy.same (a b : Dy) : Bool := a.neg == b.neg && (a.exp == b.exp && Sm a.limbs b.limbs)
theorem Dy.same_refl (a : Dy) : a.same a = true := by simp [Dy.same, Sm_refl]
end Pa
end Go.Proofs.YtbbnbgllgomolaaDoor
namespace Go.Proofs.YtbbnbgllgomolaaDoor
open Go.RowKit
namespace Pa
/-- The cells of a box of three behind a callee. -/
theorem boxP3 {w : World} {g : Nat} {x y z : Value} {t : TypeId} (h : w.heap[g]? = some (.cells #[x, y, z] t (0, 0))) :
    (w.cell? ⟨g, 0, none⟩ = some x ∧ w.cell? ⟨g, 1, none⟩ = some y ∧ w.cell? ⟨g, 2, none⟩ = some z) ∧ (w.frozen? ⟨g, 0, none⟩ = false ∧ w.frozen? ⟨g, 1, none⟩ = false ∧ w.frozen? ⟨g, 2, none⟩ = false) :=
  ⟨⟨cell_of_row w g 0 _ t _ h, cell_of_row w g 1 _ t _ h, cell_of_row w g 2 _ t _ h⟩, frozen_of_row w g 0 _ t h, frozen_of_row w g 1 _ t h, frozen_of_row w g 2 _ t h⟩
theorem heapKeep {base g : Nat} {w w' : World} {x} (hb : Below base w w') (hg : g < base) (h : w.heap[g]? = some x) : w'.heap[g]? = some x := (hb.block _ hg).trans h
theorem heapAll {g : Nat} {w : World} {x} (o) (h : w.heap[g]? = some x) : (w.alloc o).heap[g]? = some x := (Below.heap_alloc _ _ _ (lt_of_heapP h)).trans h
theorem ints_far {w : World} {lo hi : Nat} {k : IntKind} {A : Option Addr} {n : Nat} {xs : List Int} (h : Ints w lo hi k A n xs) {p : Addr} (hp : p.block < lo ∨ hi ≤ p.block) (u : Value) : Ints (w.setCell p u) lo hi k A n xs :=
  ⟨h.len, h.wf, h.big, fun hn => by
    obtain ⟨b, off, e, h1, h2, hc⟩ := h.row hn
    exact ⟨b, off, e, h1, h2, fun j hj => ⟨(World.cell?_setCell_other w p _ u (fun e => by subst e; simp at hp; omega)).trans (hc j hj).1, (World.frozen?_setCell ..).trans (hc j hj).2⟩⟩⟩
set_option maxHeartbeats 1600000 in
/-- dyad.Twin. -/
theorem dyadTwin_any (w : World) (s : Bool) (A : Option Addr) (n c : Nat) (xs : List Int) (e : Int) (hX : Ints w 0 w.heap.size .u32 A n xs) (hn : n ≤ 1000000) :
    Calls Tryd.prog 60 #[.agg #[.bool s, .slice A n c, .int .i64 e]] w fun r w' => ∃ A' c', r = .returned (.agg #[.bool s, .slice A' n c', .int .i64 e]) ∧ n ≤ c' ∧ Below w.heap.size w w' ∧ w.heap.size < w'.heap.size ∧ Ints w' (w.heap.size + 2) w'.heap.size .u32 A' n xs := by
  have hxw := Lib.hid hX.wf
  have hbig := hX.big
  have hX2 := (hX.alloc (Nat.le_refl _) (.cells #[.bool s, .slice A n c, .int .i64 e] 24)).alloc (by simp) (.cells #[.bool false, .slice none 0 0, .int .i64 0] 24)
  go_enter Tryd.func60, Tryd.ntmps60
  go_wp2_with fail
  refine (Clone_any _ _ _ A n c xs hX2 (by simp; omega) hn).mono ?_
  rintro e w1 ⟨A2, c2, rfl, hc2, hb1, hown1⟩
  (try simp at hown1)
  have hD := Ints.of_own hown1 hxw.out hbig
  have hs1 := hb1.size
  simp at hs1
  have G1 := heapKeep hb1 (by simp; omega) (heapAll (.cells #[.bool false, .slice none 0 0, .int .i64 0] 24) (heap_newP w (.cells #[.bool s, .slice A n c, .int .i64 e] 24) _ rfl))
  have G2 := heapKeep hb1 (by simp) (heap_newP (w.alloc (.cells #[.bool s, .slice A n c, .int .i64 e] 24)) (.cells #[.bool false, .slice none 0 0, .int .i64 0] 24) (w.heap.size + 1) (by simp))
  obtain ⟨⟨k1, k2, k3⟩, k4, k5, k6⟩ := boxP3 G1
  obtain ⟨⟨p1, p2, p3⟩, p4, p5, p6⟩ := boxP3 G2
  have hbb := (((Below.refl w.heap.size w).alloc (Nat.le_refl _) (.cells #[.bool s, .slice A n c, .int .i64 e] 24)).alloc (by simp) (.cells #[.bool false, .slice none 0 0, .int .i64 0] 24)).trans (hb1.mono (by simp; omega))
  clear hb1 hown1 G1 G2
  go_wp2
  refine bodyPost_ret (v := .agg #[.bool s, .slice A2 n c2, .int .i64 e]) (by simp [results, Tryd.results60, go_sem, p1, p2, p3]) rfl ⟨A2, c2, rfl, hc2, ?_, ?_, ?_⟩
  · repeat (refine Below.setCell ?_ (by simp; try omega) _)
    exact hbb
  · simp [World.setCell]
    omega
  · refine Ints.more (lo := w.heap.size + 2) (hi := w1.heap.size) ?_ (Nat.le_refl _) (by simp [World.setCell])
    repeat (refine ints_far ?_ (by simp; try omega) _)
    exact hD
theorem own_emptyg (w : World) (g base : Nat) (e : TypeId) (size : Nat) (hg : g = w.heap.size) (h : base ≤ w.heap.size) : (w.alloc (.cells #[] e)).ownsRow base e size (.slice (some ⟨g, 0, none⟩) 0 0) 0 [] := by
  subst hg
  exact own_empty w base e size h
set_option maxHeartbeats 1600000 in
/-- headcountref02.Twin. -/
theorem rTwin_any (w : World) (s : Bool) (A : Option Addr) (n c : Nat) (xs : List Int) (e : Int) (hX : Ints w 0 w.heap.size .u32 A n xs) (hn : n ≤ 1000000) :
    Calls Tryd.prog 33 #[.agg #[.bool s, .slice A n c, .int .i64 e]] w fun r w' => ∃ A' c', r = .returned (.agg #[.bool s, .slice A' n c', .int .i64 e]) ∧ n ≤ c' ∧ Below w.heap.size w w' ∧ w.heap.size < w'.heap.size ∧ Ints w' (w.heap.size + 2) w'.heap.size .u32 A' n xs := by
  have hxw := Lib.hid hX.wf
  have hbig := hX.big
  have hX2 := (hX.alloc (Nat.le_refl _) (.cells #[.bool s, .slice A n c, .int .i64 e] 24)).alloc (by simp) (.cells #[.bool false, .slice none 0 0, .int .i64 0] 24)
  obtain ⟨i0, hi0, hz0, hz1, hz2⟩ := info_parts infoU32
  go_enter Tryd.func33, Tryd.ntmps33
  go_wp2_with (first
    | (at_builtin; refine wpList_append_raw _ rfl (.tmp 3) (.tmp 5) 22 rfl (w.heap.size + 1 + 1) 58 i0 _ 1 4 Tryd.underlying22 hi0 hz0 hz1 hz2 rfl (by decide) _ _ _ rfl (own_emptyg _ _ _ _ 1 (by simp) (by simp)) _ _ _ n _ _ rfl (hX2.alloc (by simp; omega) _).raw ?c1 ?c2 ?c3 ?c4 ?_))
  case c1 => exact u32_one _
  case c2 => unfold maxLen; omega
  case c3 => omega
  case c4 => simp
  intro A2 c2 w1 hown1 hgrow1 _
  have hb1 : Below ((w.alloc (.cells #[.bool s, .slice A n c, .int .i64 e] 24)).alloc (.cells #[.bool false, .slice none 0 0, .int .i64 0] 24)).heap.size ((w.alloc (.cells #[.bool s, .slice A n c, .int .i64 e] 24)).alloc (.cells #[.bool false, .slice none 0 0, .int .i64 0] 24)) w1 := ((Below.refl _ _).alloc (Nat.le_refl _) _).grown hgrow1 (by simp) (fun q hq => by simp [Value.ownBlock] at hq; simp; omega)
  have hc2 := own_cap hown1
  clear hgrow1
  (try simp at hown1)
  have hD := Ints.of_own hown1 hxw.out hbig
  have hs1 := hb1.size
  simp at hs1
  have G1 := heapKeep hb1 (by simp; omega) (heapAll (.cells #[.bool false, .slice none 0 0, .int .i64 0] 24) (heap_newP w (.cells #[.bool s, .slice A n c, .int .i64 e] 24) _ rfl))
  have G2 := heapKeep hb1 (by simp) (heap_newP (w.alloc (.cells #[.bool s, .slice A n c, .int .i64 e] 24)) (.cells #[.bool false, .slice none 0 0, .int .i64 0] 24) (w.heap.size + 1) (by simp))
  obtain ⟨⟨k1, k2, k3⟩, k4, k5, k6⟩ := boxP3 G1
  obtain ⟨⟨p1, p2, p3⟩, p4, p5, p6⟩ := boxP3 G2
  have hbb := (((Below.refl w.heap.size w).alloc (Nat.le_refl _) (.cells #[.bool s, .slice A n c, .int .i64 e] 24)).alloc (by simp) (.cells #[.bool false, .slice none 0 0, .int .i64 0] 24)).trans (hb1.mono (by simp; omega))
  clear hb1 hown1 G1 G2
  go_wp2
  refine bodyPost_ret (v := .agg #[.bool s, .slice A2 n c2, .int .i64 e]) (by simp [results, Tryd.results33, go_sem, p1, p2, p3]) rfl ⟨A2, c2, rfl, hc2, ?_, ?_, ?_⟩
  · repeat (refine Below.setCell ?_ (by simp; try omega) _)
    exact hbb
  · simp [World.setCell]
    omega
  · refine Ints.more (lo := w.heap.size + 2) (hi := w1.heap.size) ?_ (Nat.le_refl _) (by simp [World.setCell])
    repeat (refine ints_far ?_ (by simp; try omega) _)
    exact hD
set_option maxHeartbeats 800000 in
/-- headcountref01.Same. -/
theorem r1Same_any (w : World) (lo hi lo' hi' : Nat) (A A' : Option Addr) (n c n' c' : Nat) (xs ys : List Int) (hX : Ints w lo hi .u32 A n xs) (hY : Ints w lo' hi' .u32 A' n' ys) (r : Bool) (hr : Sm xs ys = r) :
    Calls Tryd.prog 65 #[.slice A n c, .slice A' n' c'] w fun e w' => e = .returned (.bool r) ∧ ∃ m, w' = w.drewN m := by
  have HR := Lib.hid hr
  have HX := Lib.hid hX.len
  have HY := Lib.hid hY.len
  have hbx := hX.big
  have hby := hY.big
  clear hr
  by_cases hnn : n = n'
  · subst hnn
    go_enter Tryd.func65, Tryd.ntmps65
    go_wp2
    go_loopw [5] (fun iv wr => ∃ k : Nat, iv = .int .i64 k ∧ k ≤ n ∧ Hid (xs.take k = ys.take k) ∧ ∃ m, wr = w.drewN m) (fun iv _ => n - (intOf iv).toNat)
    case atStart => exact ⟨0, rfl, Nat.zero_le _, rfl, 0, rfl⟩
    case round =>
      obtain ⟨k, rfl, hk, htk, m, rfl⟩ := hrel
      by_cases hlt : k < n
      · obtain ⟨b, off, rfl, _, _, hc⟩ := hX.row (by omega)
        obtain ⟨b', off', rfl, _, _, hc'⟩ := hY.row (by omega)
        have g1 := (hc k hlt).1
        have g2 := (hc' k hlt).1
        have hk0 : (0 : Int) ≤ k := by omega
        have hkn : (k : Int) < n := by omega
        have hnx : Hid (xs[k]?.getD 0 = ys[k]?.getD 0 → xs.take (k + 1) = ys.take (k + 1)) := fun he => take_next (by rw [HX.out]; exact hlt) (by rw [HY.out]; exact hlt) htk.out he
        have hno : Hid (xs[k]?.getD 0 ≠ ys[k]?.getD 0 → Sm xs ys = false) := fun he => Sm_at he
        clear hc hc'
        generalize xs[k]?.getD 0 = x at g1 hnx hno
        generalize ys[k]?.getD 0 = y at g2 hnx hno
        by_cases he : x = y
        · subst he
          have hn2 := Lib.hid (hnx.out rfl)
          have hne : (x != x) = false := by simp
          go_wp2
          go_quiet (fail)
          go_wp2
          go_roundw
          case rel => exact ⟨k + 1, by go_num, by omega, hn2, _, rfl⟩
          case measure => simp [intOf]; omega
        · have e2 : r = false := by rw [← HR.out]; exact hno.out he
          subst e2
          have hne : (x != y) = true := by simpa using he
          go_wp2
          go_quiet (fail)
          go_wp2
          go_ret
          exact ⟨rfl, _, drewN_add ..⟩
      · obtain rfl : k = n := by omega
        have e2 : r = true := by
          rw [← HR.out]
          have := htk.out
          rw [List.take_of_length_le (by rw [HX.out]; exact Nat.le_refl _), List.take_of_length_le (by rw [HY.out]; exact Nat.le_refl _)] at this
          rw [this]
          exact Sm_refl _
        subst e2
        go_wp2
        go_ret
        exact ⟨rfl, m, rfl⟩
  · have e2 : r = false := by rw [← HR.out]; exact Sm_len (by rw [HX.out, HY.out]; exact hnn)
    subst e2
    have hne : ((n : Int) != n') = true := by simpa using (show ¬ (n : Int) = n' by omega)
    have hne2 : (n != n') = true := by simpa using hnn
    go_enter Tryd.func65, Tryd.ntmps65
    go_wp2
    go_ret
    exact ⟨rfl, 0, rfl⟩
set_option maxHeartbeats 1600000 in
/-- headcountref02.Same. -/
theorem rSame_any (w : World) (s s' : Bool) (A A' : Option Addr) (n c n' c' : Nat) (xs ys : List Int) (e e' : Int) (hX : Ints w 0 w.heap.size .u32 A n xs) (hY : Ints w 0 w.heap.size .u32 A' n' ys) (r : Bool) (hr : Dy.same ⟨s, xs, e⟩ ⟨s', ys, e'⟩ = r) :
    Calls Tryd.prog 44 #[.agg #[.bool s, .slice A n c, .int .i64 e], .agg #[.bool s', .slice A' n' c', .int .i64 e']] w fun e w' => e = .returned (.bool r) ∧ Below w.heap.size w w' := by
  have fin := ((Below.refl w.heap.size w).alloc (Nat.le_refl _) (.cells #[.bool s, .slice A n c, .int .i64 e] 24)).alloc (by simp) (.cells #[.bool s', .slice A' n' c', .int .i64 e'] 24)
  have hX2 := (hX.alloc (Nat.le_refl _) (.cells #[.bool s, .slice A n c, .int .i64 e] 24)).alloc (by simp) (.cells #[.bool s', .slice A' n' c', .int .i64 e'] 24)
  have hY2 := (hY.alloc (Nat.le_refl _) (.cells #[.bool s, .slice A n c, .int .i64 e] 24)).alloc (by simp) (.cells #[.bool s', .slice A' n' c', .int .i64 e'] 24)
  have HR := Lib.hid hr
  clear hr
  by_cases h1 : s = s'
  · subst h1
    have h1' : (s == s) = true := by simp
    by_cases h2 : e = e'
    · subst h2
      have h2' : (e == e) = true := by simp
      have hs : Hid (Sm xs ys = r) := by rw [Hid, ← HR.out]; simp [Dy.same]
      go_enter Tryd.func44, Tryd.ntmps44
      go_wp2_with fail
      refine (r1Same_any _ _ _ _ _ A A' n c n' c' xs ys hX2 hY2 r hs.out).mono ?_
      rintro e w1 ⟨rfl, m, rfl⟩
      go_wp2
      go_ret
      exact ⟨rfl, below_drewN fin m⟩
    · have h2' : (e == e') = false := by simpa using h2
      have e2 : r = false := by rw [← HR.out]; simp [Dy.same, h2]
      subst e2
      go_enter Tryd.func44, Tryd.ntmps44
      go_wp2
      go_ret
      exact ⟨rfl, fin⟩
  · have h1' : (s == s') = false := by simpa using h1
    have e2 : r = false := by rw [← HR.out]; simp [Dy.same, h1]
    subst e2
    go_enter Tryd.func44, Tryd.ntmps44
    go_wp2
    go_ret
    exact ⟨rfl, fin⟩
/-- Is a dyad greater than statements go through? -/
def Dy.great (a : Dy) : Bool := decide (42 < a.limbs.length) || decide (1100 < a.exp)
set_option maxHeartbeats 800000 in
/-- headcountref02.Great. -/
theorem rGreat_any (w : World) (s : Bool) (A : Option Addr) (n c : Nat) (xs : List Int) (e : Int) (hl : xs.length = n) (r : Bool) (hr : Dy.great ⟨s, xs, e⟩ = r) :
    Calls Tryd.prog 20 #[.agg #[.bool s, .slice A n c, .int .i64 e]] w fun q w' => q = .returned (.bool r) ∧ Below w.heap.size w w' := by
  have HR := Lib.hid hr
  have HL := Lib.hid hl
  have fin := (Below.refl w.heap.size w).alloc (Nat.le_refl _) (.cells #[.bool s, .slice A n c, .int .i64 e] 24)
  clear hr hl
  by_cases h1 : 42 < n
  · have e2 : r = true := by rw [← HR.out, Dy.great]; simp; left; rw [HL.out]; exact h1
    subst e2
    have h1' : decide ((42 : Int) < n) = true := by simp; omega
    go_enter Tryd.func20, Tryd.ntmps20
    go_wp2
    go_ret
    exact ⟨rfl, fin⟩
  · have h1' : decide ((42 : Int) < n) = false := by simp; omega
    have e2 : Hid (decide ((1100 : Int) < e) = r) := by rw [Hid, ← HR.out, Dy.great]; simp [HL.out, h1]
    go_enter Tryd.func20, Tryd.ntmps20
    go_wp2
    go_ret
    exact ⟨by rw [← e2.out]; rfl, fin⟩
end Pa
end Go.Proofs.YtbbnbgllgomolaaDoor
namespace Go.Proofs.YtbbnbgllgomolaaDoor
open Go.RowKit
namespace Dy
open Dp
theorem dig_ints {w : World} {lo hi : Nat} {A : Option Addr} {n : Nat} {xs : List Int} (h : Ints w lo hi .u32 A n xs) : Dig 4294967296 xs := fun x hx => by
  have h1 := h.wf x hx
  have h2 : 0 ≤ x ∧ x ≤ 4294967295 := by simpa [IntKind.min, IntKind.max, IntKind.signed, IntKind.bits] using h1
  omega
/-- A dyad's numbers. -/
def dn (s : Bool) (xs : List Int) (e : Int) : Dn := ⟨s, num 4294967296 xs, e.toNat⟩
theorem dn_ok {s : Bool} {xs : List Int} {e : Int} (hd : Dig 4294967296 xs) (h : MayD s xs e) : (dn s xs e).May ∧ canon 4294967296 (dn s xs e).m = xs ∧ ((dn s xs e).e : Int) = e :=
  ⟨(may_dn hd h).1, (may_dn hd h).2, by have := h.2.1; show ((e.toNat : Nat) : Int) = e; omega⟩
theorem dn_of {r : Dn} : dn r.neg (canon 4294967296 r.m) r.e = r := by
  unfold dn
  rw [(canon_spec 4294967296 r.m (by decide)).2.2]
  rfl
theorem Add_raw (w : World) (s1 s2 : Bool) (A1 A2 : Option Addr) (n1 c1 n2 c2 : Nat) (xs1 xs2 : List Int) (e1 e2 : Int) (h1 : Ints w 0 w.heap.size .u32 A1 n1 xs1) (h2 : Ints w 0 w.heap.size .u32 A2 n2 xs2) (m1 : MayD s1 xs1 e1) (m2 : MayD s2 xs2 e2) (hT : Tab w) (r : Dn) (code : Int) (h : addD (dn s1 xs1 e1) (dn s2 xs2 e2) = (r, code)) :
    Calls Tryd.prog 42 #[.agg #[.bool s1, .slice A1 n1 c1, .int .i64 e1], .agg #[.bool s2, .slice A2 n2 c2, .int .i64 e2]] w (Formed w r code) := by
  obtain ⟨y1, c1', k1⟩ := dn_ok (dig_ints h1) m1
  obtain ⟨y2, c2', k2⟩ := dn_ok (dig_ints h2) m2
  have := Add_ok w (dn s1 xs1 e1) (dn s2 xs2 e2) y1 y2 A1 n1 c1 (by rw [c1']; exact h1) A2 n2 c2 (by rw [c2']; exact h2) hT r code h
  rw [k1, k2] at this
  exact this
theorem Half_raw (w : World) (s1 : Bool) (A1 : Option Addr) (n1 c1 : Nat) (xs1 : List Int) (e1 : Int) (h1 : Ints w 0 w.heap.size .u32 A1 n1 xs1) (m1 : MayD s1 xs1 e1) (hT : Tab w) (r : Dn) (code : Int) (h : halfD (dn s1 xs1 e1) = (r, code)) :
    Calls Tryd.prog 21 #[.agg #[.bool s1, .slice A1 n1 c1, .int .i64 e1]] w (Formed w r code) := by
  obtain ⟨y1, c1', k1⟩ := dn_ok (dig_ints h1) m1
  have := Half_ok w (dn s1 xs1 e1) y1 A1 n1 c1 (by rw [c1']; exact h1) hT r code h
  rw [k1] at this
  exact this
end Dy
end Go.Proofs.YtbbnbgllgomolaaDoor
namespace Go.Proofs.YtbbnbgllgomolaaDoor
open Go.RowKit
namespace Dy
open Dp
/-- What stands amid the rounds of 'Near'. -/
def HalfI (M i : Nat) (cur : List Int) : Prop := ∀ j, j < i → cur[j]?.getD 0 = ((M / 4294967296 ^ j % 4294967296 : Nat) : Int)
theorem HalfI.set {M i d : Nat} {cur : List Int} (h : HalfI M i cur) (hi : i < cur.length) (hv : d = M / 4294967296 ^ i % 4294967296) : HalfI M (i + 1) (cur.set i (d : Int)) := fun j hj => by
  by_cases hji : j = i
  · subst hji
    rw [List.getElem?_set_self hi, ← hv]
    rfl
  · rw [set_far _ _ (fun e => hji e.symm)]
    exact h j (by omega)
end Dy
end Go.Proofs.YtbbnbgllgomolaaDoor
