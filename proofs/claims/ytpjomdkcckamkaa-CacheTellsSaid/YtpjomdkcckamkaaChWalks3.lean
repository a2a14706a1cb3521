/- One neighbour by a draw: a walk. -/
import Derived.Test.YtpjomdkcckamkaaChWalks2
namespace Go.Proofs.Ytpjomdkcckamkaa
open Go.RowKit Go.Sort Go.Shelf
namespace De
attribute [local go_sem] Oper.semAt_some
/-- What One answers. -/
def oneR (own cap : Int) (xs : List (Int × Int)) (d : Int) : (Int × Int) × Int :=
  if mayC own cap xs = true then (if xs = [] then ((0, 0), 6) else (xs[pick xs.length d]?.getD (0, 0), 0)) else ((0, 0), 8)
theorem oneR_chs {xs : List (Int × Int)} (h : xs ≠ []) (d : Int) : chs xs [d] = [xs[pick xs.length d]?.getD (0, 0)] := by simp [chs, h]

theorem cells2 {w : World} {g : Nat} {x y : Value} {t : TypeId} (h : w.heap[g]? = some (.cells #[x, y] t (0, 0))) :
    (w.cell? ⟨g, 0, none⟩ = some x ∧ w.cell? ⟨g, 1, none⟩ = some y) ∧ (w.frozen? ⟨g, 0, none⟩ = false ∧ w.frozen? ⟨g, 1, none⟩ = false) :=
  ⟨⟨cell_of_row w g 0 _ t _ h, cell_of_row w g 1 _ t _ h⟩, frozen_of_row w g 0 _ t h, frozen_of_row w g 1 _ t h⟩
theorem cells1 {w : World} {g : Nat} {x : Value} {t : TypeId} (h : w.heap[g]? = some (.cells #[x] t (0, 0))) : w.cell? ⟨g, 0, none⟩ = some x ∧ w.frozen? ⟨g, 0, none⟩ = false :=
  ⟨cell_of_row w g 0 _ t _ h, frozen_of_row w g 0 _ t h⟩
/-- What One lays first. -/
def oneW (w : World) (own cap : Int) (A : Option Addr) (n c : Nat) : World := ((w.alloc (.cells #[.int .i64 own, .int .i64 cap, .slice A n c] 43)).alloc (.cells #[.int .i64 0, .int .i64 0] 29)).alloc (.cells #[.int .i64 0] 24)
theorem oneW_facts (w : World) (own cap : Int) (A : Option Addr) (n c : Nat) {w1 : World} (hb : Below (oneW w own cap A n c).heap.size (oneW w own cap A n c) w1) :
    w.heap.size + 3 ≤ w1.heap.size ∧ Below w.heap.size w w1 ∧ w1.heap[w.heap.size]? = some (.cells #[.int .i64 own, .int .i64 cap, .slice A n c] 43 (0, 0)) ∧
      w1.heap[w.heap.size + 1]? = some (.cells #[.int .i64 0, .int .i64 0] 29 (0, 0)) ∧ w1.heap[w.heap.size + 1 + 1]? = some (.cells #[.int .i64 0] 24 (0, 0)) := by
  unfold oneW at hb
  have hs := hb.size
  simp at hs
  refine ⟨by omega, ((((Below.refl w.heap.size w).alloc (Nat.le_refl _) _).alloc (by simp) _).alloc (by simp; omega) _).trans (hb.mono (by simp; omega)), ?_, ?_, ?_⟩
  · exact Below.heapOf hb (by simp; omega) (heapAlloc _ (heapAlloc _ (heap_newg _ _ _ rfl)))
  · exact Below.heapOf hb (by simp) (heapAlloc _ (heap_newg _ _ _ (by simp)))
  · exact Below.heapOf hb (by simp) (heap_newg _ _ _ (by simp))
theorem heap_own {W W' : World} {row : Option Nat} {g : Nat} {cs : Array Value} {t : TypeId} {z : Nat × Nat} (h : W.heap[g]? = some (.cells cs t z)) (hg : W.grownBy W' row) (hr : ∀ r, row = some r → ∃ o : Obj, W.heap[r]? = some o ∧ o.isCells = false) : W'.heap[g]? = some (.cells cs t z) := by
  refine (hg.block g (lt_of_heap h) (fun e => ?_)).trans h
  obtain ⟨o, h1, h2⟩ := hr g e.symm
  rw [h] at h1
  cases h1
  cases h2
theorem heap_loose {W W' : World} {row : Option Nat} {g gl : Nat} {o : Obj} (h : W.heap[g]? = some o) (hg : W.grownBy W' row) (hr : ∀ r, row = some r → r = gl) (hne : g ≠ gl) : W'.heap[g]? = some o :=
  (hg.block g (lt_of_heap h) (fun e => hne (hr g e.symm))).trans h
theorem below_loose {W0 W W' : World} {B gl : Nat} {row : Option Nat} (h : Below B W0 W) (hB : B ≤ W0.heap.size) (hg : W.grownBy W' row) (hr : ∀ r, row = some r → r = gl) (hle : B ≤ gl) : Below B W0 W' :=
  h.grown hg (Nat.le_trans hB h.size) (fun k e => by have := hr k e; omega)
theorem ints_one (w : World) (k : IntKind) (x : Int) (t : TypeId) (h0 : k.min ≤ x) (h1 : x ≤ k.max) : Ints (w.alloc (.cells #[.int k x] t)) w.heap.size (w.heap.size + 1) k (some ⟨w.heap.size, 0, none⟩) 1 [x] :=
  ⟨rfl, by simpa using ⟨h0, h1⟩, by decide, fun _ => ⟨w.heap.size, 0, rfl, Nat.le_refl _, by omega, fun j hj => by
    obtain rfl : j = 0 := by omega
    simp [go_sem]⟩⟩
theorem Gain.alloc (O : Nat → Prop) (W : World) (o : Obj) : Gain O O W (W.alloc o) := ⟨by simp, fun k cs t z _ hk => (Below.heap_alloc _ _ _ (lt_of_heap hk)).trans hk, fun _ h => .inl h⟩
theorem heap_set2 {W : World} {g : Nat} {x y : Value} {t : TypeId} (h : W.heap[g]? = some (.cells #[x, y] t (0, 0))) (a b : Value) : ((W.setCell ⟨g, 0, none⟩ a).setCell ⟨g, 1, none⟩ b).heap[g]? = some (.cells #[a, b] t (0, 0)) := by
  simp [World.setCell, Array.getElem?_modify, h]
/-- A round's own box, and its activation. -/
def AxD (mk : Nat → Act) (B0 : Nat) (x : Int × Int) (a' : Act) (W : World) : Prop := ∃ Bx, B0 ≤ Bx ∧ W.heap[Bx]? = some (.cells #[.int .i64 x.1, .int .i64 x.2] 29 (0, 0)) ∧ a' = mk Bx
theorem AxD_own (mk : Nat → Act) (B0 D : Nat) (x : Int × Int) (a' : Act) : OwnFrom D (fun (_ : Unit) W => AxD mk B0 x a' W) := fun _ _ _ _ ⟨Bx, h0, h1, h2⟩ hg hr => ⟨Bx, h0, heap_own h1 hg (fun r e => (hr r e).2), h2⟩
set_option maxHeartbeats 800000 in
theorem One_bad (w : World) (own cap : Int) (A : Option Addr) (n c : Nat) (xs : List (Int × Int)) (hX : Descs w 0 w.heap.size A n xs) (d : Int) (hm : ¬ mayC own cap xs = true) :
    Calls Try.prog 44 #[.agg #[.int .i64 own, .int .i64 cap, .slice A n c], .int .u64 d] w fun e w' => e = .returned (.tuple #[.agg #[.int .i64 0, .int .i64 0], .int .i64 8]) ∧ Below w.heap.size w w' ∧ 0 < w'.heap.size := by
  have hck : (if mayC own cap xs = true then (0 : Int) else 8) = 8 := if_neg hm
  have HCK := Lib.hid hck
  clear hck hm
  go_enter Try.func44, Try.ntmps44
  go_wp2_with fail
  refine (CheckC_any _ own cap A n c xs (((hX.alloc (Nat.le_refl _) _).alloc (by simp) _).alloc (by simp; omega) _ |>.more (Nat.le_refl _) (by simp; omega)) 8 HCK.out).mono ?_
  rintro e w1 ⟨rfl, hb1, hp1⟩
  obtain ⟨hs1, hbb, G0, G1, G2⟩ := oneW_facts w own cap A n c hb1
  obtain ⟨⟨k1, k2⟩, k3, k4⟩ := cells2 G1
  obtain ⟨m1, m2⟩ := cells1 G2
  clear hb1 G0
  go_wp2
  exact bodyPost_ret (v := .tuple #[.agg #[.int .i64 0, .int .i64 0], .int .i64 8]) (by simp [results, Try.results44, go_sem, k1, k2, m1]) rfl ⟨rfl, by repeat (first | exact hbb | (refine Below.setCell ?_ (by simp; try omega) _)), by simp [World.setCell]; omega⟩
set_option maxRecDepth 100000 in
set_option maxHeartbeats 800000 in
theorem One_ok (w : World) (own cap : Int) (A : Option Addr) (n c : Nat) (xs : List (Int × Int)) (hX : Descs w 0 w.heap.size A n xs) (hc : n ≤ c) (d : Int) (hd0 : 0 ≤ d) (hd1 : d ≤ IntKind.u64.max) (hm : mayC own cap xs = true) (x y r : Int) (hr : oneR own cap xs d = ((x, y), r)) :
    Calls Try.prog 44 #[.agg #[.int .i64 own, .int .i64 cap, .slice A n c], .int .u64 d] w fun e w' => e = .returned (.tuple #[.agg #[.int .i64 x, .int .i64 y], .int .i64 r]) ∧ Below w.heap.size w w' ∧ 0 < w'.heap.size := by
  have hck : (if mayC own cap xs = true then (0 : Int) else 8) = 0 := if_pos hm
  have HCK := Lib.hid hck
  have HR := Lib.hid hr
  have HM := Lib.hid hm
  clear hck hm hr
  refine (callsIn_wide (n := 5)).1 ?_
  refine callsIn_of_wp_marks Try.func44 rfl trivial ?_ rfl
  simp only [Try.ntmps44, List.size_toArray, List.length_cons, List.length_nil, Nat.reduceAdd, Nat.reduceSub, Array.replicate_succ, Array.replicate_zero, List.push_toArray, List.append_toArray, List.nil_append, List.cons_append]
  gi_wp2_with fail
  refine ⟨trivial, (callsIn_wide.2 (CheckC_any _ own cap A n c xs (((hX.alloc (Nat.le_refl _) _).alloc (by simp) _).alloc (by simp; omega) _ |>.more (Nat.le_refl _) (by simp; omega)) 0 HCK.out)).mono ?_⟩
  rintro e w1 ⟨rfl, hb1, hp1⟩
  obtain ⟨hs1, hbb, G0, G1, G2⟩ := oneW_facts w own cap A n c hb1
  obtain ⟨⟨k1, k2, k3⟩, _⟩ := cells3 G0
  have X1 := hX.below hbb (Nat.le_refl _)
  obtain ⟨rb, x1, x2, X⟩ := X1.exact (by omega) hp1
  clear hb1 X1 hX
  gi_wp2_with fail
  refine ⟨trivial, (callsIn_wide.2 (chosen_any _ _ _ _ _ _ _)).mono ?_⟩
  rintro e w2 ⟨rfl, rfl⟩
  gi_wp2_with fail
  have hms := (may_six ((mayC_iff _ _ _).1 HM.out)).1
  have hlx := Lib.hid X.len
  have hn6 : n ≤ 6 := by rw [← hlx.out]; exact hms
  obtain ⟨W0, hW0⟩ : ∃ W0, ((w1.alloc (.cells #[.int .u64 d] 63)).alloc (.cells #[.slice A n c] 22)).alloc (.cells #[.slice (some ⟨w1.heap.size, 0, none⟩) 1 1] 66) = W0 := ⟨_, rfl⟩
  have hsz : W0.heap.size = w1.heap.size + 3 := by rw [← hW0]; simp
  have hB0 : Below w1.heap.size w1 W0 := by rw [← hW0]; exact (((Below.refl _ w1).alloc (Nat.le_refl _) _).alloc (by simp) _).alloc (by simp; omega) _
  have hbw := hbb.trans (hB0.mono (by omega))
  have hgl : W0.heap[w1.heap.size + 1]? = some (.cells #[.slice A n c] 22 (0, 0)) := by rw [← hW0]; exact heapAlloc _ (heap_newg _ _ _ (by simp))
  have hgd : W0.heap[w1.heap.size + 1 + 1]? = some (.cells #[.slice (some ⟨w1.heap.size, 0, none⟩) 1 1] 66 (0, 0)) := by rw [← hW0]; exact heap_newg _ _ _ (by simp)
  have hdd : Ints W0 w1.heap.size (w1.heap.size + 1) .u64 (some ⟨w1.heap.size, 0, none⟩) 1 [d] := by
    rw [← hW0]
    exact ((ints_one w1 .u64 d _ (by simpa [IntKind.min, IntKind.signed] using hd0) hd1).alloc (by simp) _).alloc (by simp) _
  have XX := X.below hB0 (by omega)
  have G1' := Below.heapOf hB0 (by omega) G1
  have G2' := Below.heapOf hB0 (by omega) G2
  rw [hW0]
  clear hW0 k1 k2 k3 G0 G1 G2 X
  refine wpIn_rangeFunc_sep (F := Fence.wide) rfl (by decide) (gf := 84) (lb := #[.pointer (some ⟨w1.heap.size + 1 + 1, 0, none⟩), .pointer (some ⟨w1.heap.size + 1, 0, none⟩)]) rfl trivial (enters_of Try.func84 (by kernel_rfl) rfl)
    (chosen_seq _ (w1.heap.size + 1) (w1.heap.size + 1 + 1) rb w1.heap.size A n c xs _ 1 1 [d] (by omega) (by decide) W0 hgl hgd XX hdd hc (by omega) (by omega) (by omega) (by omega) (by omega)) (by omega) (fun _ => rfl)
    (fun pre O W => pre = [] ∧ (W.heap[w.heap.size + 1]? = some (.cells #[.int .i64 0, .int .i64 0] 29 (0, 0)) ∧ W.heap[w.heap.size + 1 + 1]? = some (.cells #[.int .i64 0] 24 (0, 0))) ∧ Below w.heap.size w W)
    (fun j pre O W => j = .ret ∧ ∃ z, pre = [z] ∧ (W.heap[w.heap.size + 1]? = some (.cells #[.int .i64 z.1, .int .i64 z.2] 29 (0, 0)) ∧ W.heap[w.heap.size + 1 + 1]? = some (.cells #[.int .i64 0] 24 (0, 0))) ∧ Below w.heap.size w W)
    (fun O s A B row hs hg hr => ⟨hs.1, ⟨heap_own hs.2.1.1 hg (fun r e => (hr r e).2), heap_own hs.2.1.2 hg (fun r e => (hr r e).2)⟩, hs.2.2.grown hg hs.2.2.size (fun k e => by have := (hr k e).1; omega)⟩)
    (fun j O s A B row hs hg hr => by
      obtain ⟨h1, z, h2, ⟨h3, h4⟩, h5⟩ := hs
      exact ⟨h1, z, h2, ⟨heap_own h3 hg (fun r e => (hr r e).2), heap_own h4 hg (fun r e => (hr r e).2)⟩, h5.grown hg h5.size (fun k e => by have := (hr k e).1; omega)⟩)
    (fun s O A B row hs hg hr => ⟨hs.1, ⟨heap_loose hs.2.1.1 hg hr (by omega), heap_loose hs.2.1.2 hg hr (by omega)⟩, below_loose hs.2.2 (Nat.le_refl _) hg hr (by omega)⟩)
    (fun j s O A B row hs hg hr => by
      obtain ⟨h1, z, h2, ⟨h3, h4⟩, h5⟩ := hs
      exact ⟨h1, z, h2, ⟨heap_loose h3 hg hr (by omega), heap_loose h4 hg hr (by omega)⟩, below_loose h5 (Nat.le_refl _) hg hr (by omega)⟩)
    (fun _ => False) (fun _ _ h => h) (fun _ h => h.elim) ⟨rfl, ⟨G1', G2'⟩, hbw⟩
    (fun x a' W => AxD (fun Bx => { tmps := #[.agg #[.int .i64 own, .int .i64 cap, .slice A n c], .int .u64 d, .pointer (some ⟨w.heap.size, 0, none⟩), undef, .pointer (some ⟨w.heap.size + 1, 0, none⟩), .pointer (some ⟨w.heap.size + 1 + 1, 0, none⟩), .int .i64 0, .pointer (some ⟨Bx, 0, none⟩),
      .agg #[.int .i64 own, .int .i64 cap, .slice A n c], .int .i64 0, .int .i64 0, .bool false, undef, undef, .pointer (some ⟨w.heap.size, 2, none⟩), .slice A n c, .int .u64 d, .slice (some ⟨w1.heap.size, 0, none⟩) 1 1,
      .func (.func 84) #[] #[.pointer (some ⟨w1.heap.size + 1 + 1, 0, none⟩), .pointer (some ⟨w1.heap.size + 1, 0, none⟩)], .agg #[.int .i64 x.1, .int .i64 x.2], undef, undef], defers := [] }) W0.heap.size x a' W)
    (fun x a' => AxD_own _ _ _ x a') ?assign ?body ?done ?stop
  case assign =>
    intro l pre x O W K hsW hi hK
    unfold encP
    gi_wp2
    exact hK _ _ ((KeepsOthers.alloc _ _).from _) (Gain.alloc _ _ _) ⟨hi.1, ⟨heapAlloc _ hi.2.1.1, heapAlloc _ hi.2.1.2⟩, hi.2.2.alloc hi.2.2.size _⟩ ⟨W.heap.size, by omega, heap_newg _ _ _ rfl, rfl⟩
  case body =>
    rintro l pre x O a' W hsW ⟨rfl, ⟨g1, g2⟩, hb⟩ ⟨Bx, hBx, hx, rfl⟩ _
    obtain ⟨⟨k1, k2⟩, _, _⟩ := cells2 hx
    obtain ⟨⟨m1, m2⟩, m3, m4⟩ := cells2 g1
    obtain ⟨p1, p2⟩ := cells1 g2
    gi_wp2
    exact ⟨(((KeepsOthers.setCell _ _ _).trans (KeepsOthers.setCell _ _ _)).trans (KeepsOthers.setCell _ _ _)).from _, O, rfl, x, rfl,
      ⟨(Below.heap_setCell _ _ _ _ (by simp)).trans (heap_set2 g1 _ _), Boxed.set _ ((Below.heap_setCell _ _ _ _ (by simp)).trans ((Below.heap_setCell _ _ _ _ (by simp)).trans g2))⟩,
      ((hb.setCell (by simp) _).setCell (by simp) _).setCell (by simp; omega) _⟩
  case done =>
    rintro D ys O W hD hS ⟨hys, ⟨g1, g2⟩, hb⟩ hK
    obtain ⟨⟨m1, m2⟩, m3, m4⟩ := cells2 g1
    obtain ⟨p1, p2⟩ := cells1 g2
    have hx0 : xs = [] := by
      rcases List.eq_nil_or_concat xs with h | ⟨_, _, h⟩
      · exact h
      · have hne : xs ≠ [] := by rw [h]; simp
        rw [hS, oneR_chs hne] at hys
        cases hys
    have hrr := HR.out
    rw [oneR, if_pos HM.out, if_pos hx0] at hrr
    obtain ⟨e1, rfl⟩ := Prod.mk.inj hrr
    obtain ⟨rfl, rfl⟩ := Prod.mk.inj e1
    clear e1 hrr
    gi_wp2
    have hK' := (((KeepsOthers.setCell W ⟨w.heap.size + 1, 0, none⟩ (.int .i64 0)).trans (KeepsOthers.setCell _ ⟨w.heap.size + 1, 1, none⟩ (.int .i64 0))).trans (KeepsOthers.setCell _ ⟨w.heap.size + 1 + 1, 0, none⟩ (.int .i64 6))).same D _ hK rfl
    have c1 := cells2 ((World.putObj_heap_other (o := .deferred none) (by omega : w.heap.size + 1 ≠ D)).trans ((Below.heap_setCell _ ⟨w.heap.size + 1 + 1, 0, none⟩ (.int .i64 6) _ (by simp)).trans (heap_set2 g1 (.int .i64 0) (.int .i64 0))))
    have c2 := cells1 ((World.putObj_heap_other (o := .deferred none) (by omega : w.heap.size + 1 + 1 ≠ D)).trans (Boxed.set (.int .i64 6) ((Below.heap_setCell _ ⟨w.heap.size + 1, 1, none⟩ (.int .i64 0) _ (by simp)).trans ((Below.heap_setCell _ ⟨w.heap.size + 1, 0, none⟩ (.int .i64 0) _ (by simp)).trans g2))))
    refine ⟨by simp, .inl ⟨_, _, rfl, run_takeDeferred hK', ?_⟩⟩
    refine ⟨.tuple #[.agg #[.int .i64 0, .int .i64 0], .int .i64 6], ?_, rfl, ?_, ?_⟩
    · simp [results, Try.f44, go_sem, c1.1.1, c1.1.2, c2.1]
    · exact (((hb.setCell (by simp) _).setCell (by simp) _).setCell (by simp; omega) _).trans (belowK_b (w := w) (Nat.le_refl _) _ D _ _ (by omega) hK' rfl rfl)
    · have := lt_of_heap hK
      simp [World.setCell]
      omega
  case stop =>
    rintro D j pre O W hD hSp ⟨rfl, z, rfl, ⟨g1, g2⟩, hb⟩ hK
    have hne : xs ≠ [] := fun e => by
      rw [e, chs_nil] at hSp
      simp at hSp
    have hrr := HR.out
    rw [oneR, if_pos HM.out, if_neg hne] at hrr
    rw [oneR_chs hne] at hSp
    have hz := List.prefix_iff_eq_take.1 hSp
    simp at hz
    rw [← hz] at hrr
    obtain ⟨rfl, rfl⟩ := Prod.mk.inj hrr
    clear hrr hz hSp
    gi_wp2
    have c1 := cells2 ((World.putObj_heap_other (o := .deferred none) (by omega : w.heap.size + 1 ≠ D)).trans g1)
    have c2 := cells1 ((World.putObj_heap_other (o := .deferred none) (by omega : w.heap.size + 1 + 1 ≠ D)).trans g2)
    refine ⟨by simp, .inl ⟨_, _, rfl, run_takeDeferred hK, ?_⟩⟩
    refine ⟨.tuple #[.agg #[.int .i64 x, .int .i64 y], .int .i64 0], ?_, rfl, ?_, ?_⟩
    · simp [results, Try.f44, go_sem, c1.1.1, c1.1.2, c2.1]
    · exact hb.trans (belowK_b (w := w) (Nat.le_refl _) _ D _ _ (by omega) hK rfl rfl)
    · have := lt_of_heap hK
      simp
      omega
/-- choose.One. -/
theorem One_any (w : World) (own cap : Int) (A : Option Addr) (n c : Nat) (xs : List (Int × Int)) (hX : Descs w 0 w.heap.size A n xs) (hc : n ≤ c) (d : Int) (hd0 : 0 ≤ d) (hd1 : d ≤ IntKind.u64.max) (x y r : Int) (hr : oneR own cap xs d = ((x, y), r)) :
    Calls Try.prog 44 #[.agg #[.int .i64 own, .int .i64 cap, .slice A n c], .int .u64 d] w fun e w' => e = .returned (.tuple #[.agg #[.int .i64 x, .int .i64 y], .int .i64 r]) ∧ Below w.heap.size w w' ∧ 0 < w'.heap.size := by
  by_cases hm : mayC own cap xs = true
  · exact One_ok w own cap A n c xs hX hc d hd0 hd1 hm x y r hr
  · rw [oneR, if_neg hm] at hr
    obtain ⟨e1, rfl⟩ := Prod.mk.inj hr
    obtain ⟨rfl, rfl⟩ := Prod.mk.inj e1
    exact One_bad w own cap A n c xs hX d hm
end De
end Go.Proofs.Ytpjomdkcckamkaa
