/- The examples of the chapter: a walk. -/
/- The examples of the chapter: a walk (printed by a program of mine). -/
/- The law DyadHalves: a walk. -/
/- What is reckoned with dyads, whatever they are: contracts. -/
/- A mass's value and rows; mass.Check: a walk (printed by a program of mine). -/
/- The reference's May: walks (printed by gen_dys1.py out of DyW1). -/
/- Sums of bits, by a walk. -/
/- Differences of bits, bits with 0 ahead of them, by walks. -/
import Derived.Test.YtlbkepiflhchdaaDoorBa05
import Derived.Test.YtlbkepiflhchdaaDoorBa01
import Derived.Test.YtlbkepiflhchdaaDoorBa02
namespace Go.Proofs.YtlbkepiflhchdaaDoor
open Go.RowKit
namespace Dy
open Dp
theorem may_small (s : Bool) (m e : Nat) (h0 : m ≠ 0) (h1 : m < 16) (h2 : e ≤ 1024) (h3 : 0 < e → m % 2 = 1) : Dn.May ⟨s, m, e⟩ :=
  ⟨capD_gt (k := 4) h1 (by decide), h2, fun h => absurd h h0, h3⟩
theorem al1 : halfD ⟨false, 3, 0⟩ = (⟨false, 3, 1⟩, 0) := formed_of (K := 1) (may_small _ _ _ (by decide) (by decide) (by decide) (by decide)) (by decide) (by decide) (by decide)
theorem al2 : halfD ⟨false, 2, 0⟩ = (⟨false, 1, 0⟩, 0) := formed_of (K := 1) (may_small _ _ _ (by decide) (by decide) (by decide) (by decide)) (by decide) (by decide) (by decide)
/-- A dyad in a box. -/
structure Box (w : World) (g : Nat) (d : Dn) : Prop where
  some_ : ∃ A n c, w.heap[g]? = some (.cells #[.bool d.neg, .slice A n c, .int .i64 d.e] 24 (0, 0)) ∧ Ints w 0 w.heap.size .u32 A n (canon 4294967296 d.m)
theorem Box.below {w w' : World} {g : Nat} {d : Dn} (h : Box w g d) (hb : Below w.heap.size w w') : Box w' g d := by
  obtain ⟨A, n, c, h1, h2⟩ := h.some_
  exact ⟨A, n, c, (hb.block g (Array.getElem?_eq_some_iff.1 h1).1).trans h1, (h2.below hb (Nat.le_refl _)).more (Nat.le_refl _) hb.size⟩
theorem Box.new {w : World} (d : Dn) (A : Option Addr) (n c : Nat) (h : Ints w 0 w.heap.size .u32 A n (canon 4294967296 d.m)) (s : Bool) (e : Int) (hs : s = d.neg) (he : e = d.e) : Box (w.alloc (.cells #[.bool s, .slice A n c, .int .i64 e] 24)) w.heap.size d := by
  subst hs he
  exact ⟨A, n, c, heap_alloc_last _ _, (h.alloc (Nat.le_refl _) _).more (Nat.le_refl _) (by simp)⟩
/-- Amid a walk: nothing of what was has changed, the table is there. -/
structure Amid (w0 w : World) : Prop where
  below : Below w0.heap.size w0 w
  tab : Tab w
theorem Amid.on {w0 w w' : World} (h : Amid w0 w) (hb : Below w.heap.size w w') : Amid w0 w' := ⟨h.below.trans (hb.mono h.below.size), h.tab.below hb h.tab.lt⟩
theorem Amid.alloc {w0 w : World} (h : Amid w0 w) (o : Obj) : Amid w0 (w.alloc o) := h.on ((Below.refl _ w).alloc (Nat.le_refl _) o)
end Dy
end Go.Proofs.YtlbkepiflhchdaaDoor
namespace Go.Proofs.YtlbkepiflhchdaaDoor
open Go.RowKit
namespace Dy
open Dp
/-- Blocks that were there are as they were. -/
def Keeps (W w : World) : Prop := ∀ p, p < W.heap.size → w.heap[p]? = W.heap[p]?
theorem Keeps.refl (W : World) : Keeps W W := fun _ _ => rfl
theorem Keeps.on {W w w' : World} (h : Keeps W w) (hs : W.heap.size ≤ w.heap.size) (hb : Below w.heap.size w w') : Keeps W w' := fun p hp => (hb.block p (Nat.lt_of_lt_of_le hp hs)).trans (h p hp)
theorem Amid.drew {w0 w : World} (h : Amid w0 w) : Amid w0 w.drew := ⟨h.below.drew, h.tab.keep rfl⟩
end Dy
end Go.Proofs.YtlbkepiflhchdaaDoor
namespace Go.Proofs.YtlbkepiflhchdaaDoor
open Go.RowKit
namespace Dy
open Dp
/-- What a law answers. -/
def Yes (w : World) (e : Ending) (w' : World) : Prop := e = .returned (.bool true) ∧ Below w.heap.size w w'
theorem boxOn {w w' : World} {g B : Nat} {x y z : Value} {t : TypeId} (h : w.heap[g]? = some (.cells #[x, y, z] t (0, 0))) (hb : Below B w w') (hB : g < B) : w'.heap[g]? = some (.cells #[x, y, z] t (0, 0)) := (hb.block g hB).trans h
end Dy
end Go.Proofs.YtlbkepiflhchdaaDoor
namespace Go.Proofs.YtlbkepiflhchdaaDoor
open Go.RowKit
namespace Dy
open Dp
open Classical in
noncomputable def addX (s1 : Bool) (xs1 : List Int) (e1 : Int) (s2 : Bool) (xs2 : List Int) (e2 : Int) : Dn × Int := if MayD s1 xs1 e1 ∧ MayD s2 xs2 e2 then addD (dn s1 xs1 e1) (dn s2 xs2 e2) else (Dn.zero, 8)
open Classical in
noncomputable def subX (s1 : Bool) (xs1 : List Int) (e1 : Int) (s2 : Bool) (xs2 : List Int) (e2 : Int) : Dn × Int := if MayD s1 xs1 e1 ∧ MayD s2 xs2 e2 then subD (dn s1 xs1 e1) (dn s2 xs2 e2) else (Dn.zero, 8)
open Classical in
noncomputable def chkX (s1 : Bool) (xs1 : List Int) (e1 : Int) : Int := if MayD s1 xs1 e1 then 0 else 8
theorem bad_formed {w : World} {e : Ending} {w' : World} (h : Bad w e w') : Formed w Dn.zero 8 e w' := ⟨none, 0, 0, h.1, Nat.le_refl _, h.2, Ints.nil_ ..⟩
theorem addX_ok {s1 s2 : Bool} {xs1 xs2 : List Int} {e1 e2 : Int} (h1 : MayD s1 xs1 e1) (h2 : MayD s2 xs2 e2) : addX s1 xs1 e1 s2 xs2 e2 = addD (dn s1 xs1 e1) (dn s2 xs2 e2) := if_pos ⟨h1, h2⟩
theorem subX_ok {s1 s2 : Bool} {xs1 xs2 : List Int} {e1 e2 : Int} (h1 : MayD s1 xs1 e1) (h2 : MayD s2 xs2 e2) : subX s1 xs1 e1 s2 xs2 e2 = subD (dn s1 xs1 e1) (dn s2 xs2 e2) := if_pos ⟨h1, h2⟩
theorem Sub_all (w : World) (s1 s2 : Bool) (A1 A2 : Option Addr) (n1 c1 n2 c2 : Nat) (xs1 xs2 : List Int) (e1 e2 : Int) (h1 : Ints w 0 w.heap.size .u32 A1 n1 xs1) (h2 : Ints w 0 w.heap.size .u32 A2 n2 xs2) (hT : Tab w) (r : Dn) (code : Int) (h : subX s1 xs1 e1 s2 xs2 e2 = (r, code)) :
    Calls Tryd.prog 22 #[.agg #[.bool s1, .slice A1 n1 c1, .int .i64 e1], .agg #[.bool s2, .slice A2 n2 c2, .int .i64 e2]] w (Formed w r code) := by
  unfold subX at h
  split at h
  · rename_i hm
    exact Sub_raw w s1 s2 A1 A2 n1 c1 n2 c2 xs1 xs2 e1 e2 h1 h2 hm.1 hm.2 hT r code h
  · rename_i hm
    injection h with h3 h4
    subst h3 h4
    exact (Sub_bad w s1 s2 A1 A2 n1 c1 n2 c2 xs1 xs2 e1 e2 h1 h2 (Classical.not_and_iff_not_or_not.1 hm)).mono fun _ _ k => bad_formed k
theorem Check_all (w : World) (s1 : Bool) (A1 : Option Addr) (n1 c1 : Nat) (xs1 : List Int) (e1 : Int) (h1 : Ints w 0 w.heap.size .u32 A1 n1 xs1) (k : Int) (h : chkX s1 xs1 e1 = k) :
    Calls Tryd.prog 35 #[.agg #[.bool s1, .slice A1 n1 c1, .int .i64 e1]] w fun e w' => e = .returned (.int .i64 k) ∧ Below w.heap.size w w' := by
  unfold chkX at h
  split at h
  · subst h
    exact Check_ok w 0 w.heap.size s1 A1 n1 c1 xs1 e1 h1 (Nat.le_refl _) (by assumption)
  · subst h
    exact Check_bad w 0 w.heap.size s1 A1 n1 c1 xs1 e1 h1 (Nat.le_refl _) (by assumption)
end Dy
end Go.Proofs.YtlbkepiflhchdaaDoor
namespace Go.Proofs.YtlbkepiflhchdaaDoor
open Go.RowKit
namespace Ma
open Dp Dy
attribute [local go_sem] Oper.semAt_some
/-- A dyad's value, and what its row holds. -/
structure Dv where
  s : Bool
  A : Option Addr
  n : Nat
  c : Nat
  e : Int
  xs : List Int
structure Mv where
  S : Dv
  W : Dv
  C : Dv
  A : Dv
def Mv.get (m : Mv) : Nat → Dv
  | 0 => m.S
  | 1 => m.W
  | 2 => m.C
  | _ => m.A
def Dv.Row (w : World) (lo hi : Nat) (d : Dv) : Prop := Ints w lo hi .u32 d.A d.n d.xs
def Dv.may (d : Dv) : Prop := MayD d.s d.xs d.e
structure MRows (w : World) (lo hi : Nat) (m : Mv) : Prop where
  S : m.S.Row w lo hi
  W : m.W.Row w lo hi
  C : m.C.Row w lo hi
  A : m.A.Row w lo hi
theorem MRows.get {w : World} {lo hi : Nat} {m : Mv} (h : MRows w lo hi m) (x : Nat) : Ints w lo hi .u32 (m.get x).A (m.get x).n (m.get x).xs := by
  unfold Mv.get
  split
  · exact h.S
  · exact h.W
  · exact h.C
  · exact h.A
theorem MRows.below {w w' : World} {lo hi B : Nat} {m : Mv} (h : MRows w lo hi m) (hb : Below B w w') (hB : hi ≤ B) : MRows w' lo hi m := ⟨Ints.below h.S hb hB, Ints.below h.W hb hB, Ints.below h.C hb hB, Ints.below h.A hb hB⟩
theorem MRows.more {w : World} {lo hi lo' hi' : Nat} {m : Mv} (h : MRows w lo hi m) (hl : lo' ≤ lo) (hh : hi ≤ hi') : MRows w lo' hi' m := ⟨Ints.more h.S hl hh, Ints.more h.W hl hh, Ints.more h.C hl hh, Ints.more h.A hl hh⟩
/-- A mass in a block. -/
def MBox (w : World) (g : Nat) (m : Mv) : Prop := w.heap[g]? = some (.cells #[.bool m.S.s, .slice m.S.A m.S.n m.S.c, .int .i64 m.S.e, .bool m.W.s, .slice m.W.A m.W.n m.W.c, .int .i64 m.W.e, .bool m.C.s, .slice m.C.A m.C.n m.C.c, .int .i64 m.C.e, .bool m.A.s, .slice m.A.A m.A.n m.A.c, .int .i64 m.A.e] 39 (0, 0))
theorem MBox.at_ {w : World} {g : Nat} {m : Mv} (h : MBox w g m) {x : Nat} (hx : x < 4) :
    (w.cell? ⟨g, 3 * x, none⟩ = some (.bool (m.get x).s) ∧ w.cell? ⟨g, 3 * x + 1, none⟩ = some (.slice (m.get x).A (m.get x).n (m.get x).c) ∧ w.cell? ⟨g, 3 * x + 2, none⟩ = some (.int .i64 (m.get x).e)) ∧
      (w.frozen? ⟨g, 3 * x, none⟩ = false ∧ w.frozen? ⟨g, 3 * x + 1, none⟩ = false ∧ w.frozen? ⟨g, 3 * x + 2, none⟩ = false) := by
  have hf : ∀ k, w.frozen? ⟨g, k, none⟩ = false := fun k => frozen_of_row w g k _ _ h
  refine ⟨?_, hf _, hf _, hf _⟩
  have hc : ∀ k v, (#[.bool m.S.s, .slice m.S.A m.S.n m.S.c, .int .i64 m.S.e, .bool m.W.s, .slice m.W.A m.W.n m.W.c, .int .i64 m.W.e, .bool m.C.s, .slice m.C.A m.C.n m.C.c, .int .i64 m.C.e, .bool m.A.s, .slice m.A.A m.A.n m.A.c, .int .i64 m.A.e] : Array Value)[k]? = some v → w.cell? ⟨g, k, none⟩ = some v := fun k v hk => by
    unfold MBox at h
    simp [World.cell?, h]
    simpa using hk
  have hx' : x = 0 ∨ x = 1 ∨ x = 2 ∨ x = 3 := by omega
  rcases hx' with rfl | rfl | rfl | rfl <;> exact ⟨hc _ _ rfl, hc _ _ rfl, hc _ _ rfl⟩
def Mv.may (m : Mv) : Prop := ∀ x, x < 4 → (m.get x).may
open Classical in
noncomputable def chkM (m : Mv) : Int := if m.may then 0 else 8
theorem box_on {w w' : World} {g B : Nat} {o : Obj} (h : w.heap[g]? = some o) (hb : Below B w w') (hB : g < B) : w'.heap[g]? = some o := (hb.block g hB).trans h
theorem gain_below {O : Nat → Prop} {w w' : World} (hb : Below w.heap.size w w') : Gain O O w w' := ⟨hb.size, fun k _ _ _ _ h => (hb.block k (lt_of_heap h)).trans h, fun _ h => .inl h⟩
theorem keeps_below {w w' : World} {B : Nat} (hb : Below w.heap.size w w') : KeepsFrom B w w' := ⟨hb.size, fun k _ _ hk _ => (hb.block k (lt_of_heap hk)).trans hk⟩
theorem gain_set {O : Nat → Prop} {w : World} {p : Addr} (hp : O p.block) (v : Value) : Gain O O w (w.setCell p v) := ⟨by simp [World.setCell], fun k _ _ _ hk h => by
    have : p.block ≠ k := fun e => hk (e ▸ hp)
    rw [← h]
    simp [World.setCell, Array.getElem?_modify, this], fun _ h => .inl h⟩
theorem heap_own {W W' : World} {row : Option Nat} {g : Nat} {cs : Array Value} {t : TypeId} {z : Nat × Nat} (h : W.heap[g]? = some (.cells cs t z)) (hg : W.grownBy W' row) (hr : ∀ r, row = some r → ∃ o : Obj, W.heap[r]? = some o ∧ o.isCells = false) : W'.heap[g]? = some (.cells cs t z) := by
  refine (hg.block g (lt_of_heap h) (fun e => ?_)).trans h
  obtain ⟨o, h1, h2⟩ := hr g e.symm
  rw [h] at h1
  cases h1
  cases h2
theorem heap_loose {W W' : World} {row : Option Nat} {g gl : Nat} {o : Obj} (h : W.heap[g]? = some o) (hg : W.grownBy W' row) (hr : ∀ r, row = some r → r = gl) (hne : g ≠ gl) : W'.heap[g]? = some o :=
  (hg.block g (lt_of_heap h) (fun e => hne (hr g e.symm))).trans h
theorem below_loose {W0 W W' : World} {B gl : Nat} {row : Option Nat} (h : Below B W0 W) (hB : B ≤ W0.heap.size) (hg : W.grownBy W' row) (hr : ∀ r, row = some r → r = gl) (hle : B ≤ gl) : Below B W0 W' :=
  h.grown hg (Nat.le_trans hB h.size) (fun k e => by have := hr k e; omega)
theorem set1 {w : World} {g : Nat} {x : Value} {t : TypeId} (h : w.heap[g]? = some (.cells #[x] t (0, 0))) (v : Value) : (w.setCell ⟨g, 0, none⟩ v).heap[g]? = some (.cells #[v] t (0, 0)) := by
  simp [World.setCell, Array.getElem?_modify, h]
set_option maxHeartbeats 3200000 in
set_option maxRecDepth 100000 in
/-- mass.Check. -/
theorem MCheck_any (w : World) (m : Mv) (hR : MRows w 0 w.heap.size m) (k : Int) (hk : chkM m = k) :
    Calls Tryd.prog 49 #[.agg #[.bool m.S.s, .slice m.S.A m.S.n m.S.c, .int .i64 m.S.e, .bool m.W.s, .slice m.W.A m.W.n m.W.c, .int .i64 m.W.e, .bool m.C.s, .slice m.C.A m.C.n m.C.c, .int .i64 m.C.e, .bool m.A.s, .slice m.A.A m.A.n m.A.c, .int .i64 m.A.e]] w fun e w' => e = .returned (.int .i64 k) ∧ Below w.heap.size w w' := by
  have HK := Lib.hid hk
  clear hk
  refine (callsIn_wide (n := 5)).1 ?_
  refine callsIn_of_wp_marks Tryd.func49 rfl trivial ?_ rfl
  simp only [Tryd.ntmps49, List.size_toArray, List.length_cons, List.length_nil, Nat.reduceAdd, Nat.reduceSub, Array.replicate_succ, Array.replicate_zero, List.push_toArray, List.append_toArray, List.nil_append, List.cons_append]
  gi_wp2_with fail
  refine ⟨trivial, (callsIn_wide.2 (parts_any _ _ _)).mono ?_⟩
  rintro e w2 ⟨rfl, rfl⟩
  gi_wp2_with fail
  obtain ⟨W0, hW0⟩ : ∃ W0, ((((w.alloc (.cells #[.bool m.S.s, .slice m.S.A m.S.n m.S.c, .int .i64 m.S.e, .bool m.W.s, .slice m.W.A m.W.n m.W.c, .int .i64 m.W.e, .bool m.C.s, .slice m.C.A m.C.n m.C.c, .int .i64 m.C.e, .bool m.A.s, .slice m.A.A m.A.n m.A.c, .int .i64 m.A.e] 39)).alloc (.cells #[.int .i64 0] 27)).alloc (.cells #[.pointer (some ⟨w.heap.size, 0, none⟩)] 104)).alloc (.cells #[.pointer (some ⟨w.heap.size, 0, none⟩)] 104)) = W0 := ⟨_, rfl⟩
  have hsz : W0.heap.size = w.heap.size + 4 := by rw [← hW0]; simp
  have hB0 : Below w.heap.size w W0 := by rw [← hW0]; exact ((((Below.refl _ w).alloc (Nat.le_refl _) _).alloc (by simp) _).alloc (by simp <;> omega) _).alloc (by simp <;> omega) _
  have hM0 : MBox W0 w.heap.size m := by rw [← hW0]; exact (Below.heap_alloc _ _ _ (by simp <;> omega)).trans ((Below.heap_alloc _ _ _ (by simp <;> omega)).trans ((Below.heap_alloc _ _ _ (by simp)).trans (heap_alloc_last _ _)))
  have hE0 : W0.heap[w.heap.size + 1]? = some (.cells #[.int .i64 0] 27 (0, 0)) := by rw [← hW0]; exact (Below.heap_alloc _ _ _ (by simp <;> omega)).trans ((Below.heap_alloc _ _ _ (by simp)).trans (heap_alloc2_new _ _ _))
  have hS0 : Two (w.heap.size + 1 + 1) (w.heap.size + 1 + 1 + 1) w.heap.size w.heap.size W0 := by
    rw [← hW0]
    refine ⟨(Below.heap_alloc _ _ _ (by simp)).trans ?_, ?_⟩
    · have := heap_alloc_last ((w.alloc (.cells #[.bool m.S.s, .slice m.S.A m.S.n m.S.c, .int .i64 m.S.e, .bool m.W.s, .slice m.W.A m.W.n m.W.c, .int .i64 m.W.e, .bool m.C.s, .slice m.C.A m.C.n m.C.c, .int .i64 m.C.e, .bool m.A.s, .slice m.A.A m.A.n m.A.c, .int .i64 m.A.e] 39)).alloc (.cells #[.int .i64 0] 27)) (.cells #[.pointer (some ⟨w.heap.size, 0, none⟩)] 104)
      simpa using this
    · have := heap_alloc_last (((w.alloc (.cells #[.bool m.S.s, .slice m.S.A m.S.n m.S.c, .int .i64 m.S.e, .bool m.W.s, .slice m.W.A m.W.n m.W.c, .int .i64 m.W.e, .bool m.C.s, .slice m.C.A m.C.n m.C.c, .int .i64 m.C.e, .bool m.A.s, .slice m.A.A m.A.n m.A.c, .int .i64 m.A.e] 39)).alloc (.cells #[.int .i64 0] 27)).alloc (.cells #[.pointer (some ⟨w.heap.size, 0, none⟩)] 104)) (.cells #[.pointer (some ⟨w.heap.size, 0, none⟩)] 104)
      simpa using this
  have HSZ := Lib.hid hsz
  have hlo : w.heap.size + 4 ≤ W0.heap.size := by omega
  have hhi : W0.heap.size ≤ w.heap.size + 4 := by omega
  rw [hW0]
  clear hW0 hsz
  refine wpIn_rangeFunc_sep2 (F := Fence.wide) rfl (by decide) (gf := 108) (lb := #[.pointer (some ⟨w.heap.size + 1 + 1, 0, none⟩), .pointer (some ⟨w.heap.size + 1 + 1 + 1, 0, none⟩)]) rfl trivial (enters_of Tryd.func108 (by kernel_rfl) rfl)
    (parts_seq _ _ _ _ _ W0 hS0) (by omega) (fun _ => rfl)
    (fun pre O W => O (w.heap.size + 1) ∧ (∀ x, x ∈ pre → x < 4 → (m.get x).may) ∧ MBox W w.heap.size m ∧ W.heap[w.heap.size + 1]? = some (.cells #[.int .i64 0] 27 (0, 0)) ∧ Below w.heap.size w W)
    (fun j pre O W => j = .ret ∧ (¬ m.may) ∧ W.heap[w.heap.size + 1]? = some (.cells #[.int .i64 8] 27 (0, 0)) ∧ Below w.heap.size w W)
    (fun O s A B row hs hg hr => ⟨hs.1, hs.2.1, heap_own hs.2.2.1 hg (fun r e => (hr r e).2), heap_own hs.2.2.2.1 hg (fun r e => (hr r e).2), hs.2.2.2.2.grown hg hs.2.2.2.2.size (fun k e => by have := (hr k e).1; omega)⟩)
    (fun j O s A B row hs hg hr => ⟨hs.1, hs.2.1, heap_own hs.2.2.1 hg (fun r e => (hr r e).2), hs.2.2.2.grown hg hs.2.2.2.size (fun k e => by have := (hr k e).1; omega)⟩)
    (fun s O A B row hs hg hr => ⟨hs.1, hs.2.1, heap_loose hs.2.2.1 hg hr (by omega), heap_loose hs.2.2.2.1 hg hr (by omega), below_loose hs.2.2.2.2 (Nat.le_refl _) hg hr (by omega)⟩)
    (fun j s O A B row hs hg hr => ⟨hs.1, hs.2.1, heap_loose hs.2.2.1 hg hr (by omega), below_loose hs.2.2.2 (Nat.le_refl _) hg hr (by omega)⟩)
    (fun k => k = w.heap.size + 1) (fun k hk e => by omega) (fun k e => by omega) ⟨rfl, (fun x hx => absurd hx (List.not_mem_nil)), hM0, hE0, hB0⟩
    (fun x a' W => a' = { tmps := #[.agg #[.bool m.S.s, .slice m.S.A m.S.n m.S.c, .int .i64 m.S.e, .bool m.W.s, .slice m.W.A m.W.n m.W.c, .int .i64 m.W.e, .bool m.C.s, .slice m.C.A m.C.n m.C.c, .int .i64 m.C.e, .bool m.A.s, .slice m.A.A m.A.n m.A.c, .int .i64 m.A.e], .pointer (some ⟨w.heap.size, 0, none⟩), .pointer (some ⟨w.heap.size + 1, 0, none⟩), .pointer (some ⟨w.heap.size, 3 * x, none⟩), undef,
      .func (.func 108) #[] #[.pointer (some ⟨w.heap.size + 1 + 1, 0, none⟩), .pointer (some ⟨w.heap.size + 1 + 1 + 1, 0, none⟩)], .pointer (some ⟨w.heap.size, 3 * x, none⟩), .pointer (some ⟨w.heap.size, 3 * x, none⟩), undef, undef, undef, undef, undef, undef, undef], defers := [] })
    (fun x a' _ _ _ _ h _ _ => h) ?assign ?body ?done ?stop
  case assign =>
    intro l pre x O W K hgx hsW hi hK
    unfold encM
    gi_wp2
    exact hK _ _ (KeepsFrom.refl _ _) (Gain.refl _ _) hi rfl
  case body =>
    rintro l pre x O a' W ⟨hx4, hpre⟩ hsW ⟨hO, hall, hM, hE, hb⟩ rfl _
    obtain ⟨⟨k1, k2, k3⟩, _⟩ := MBox.at_ hM hx4
    have hrow : Ints W 0 W.heap.size .u32 (m.get x).A (m.get x).n (m.get x).xs := ((hR.get x).below hb (Nat.le_refl _)).more (Nat.le_refl _) hb.size
    generalize hd : m.get x = d at k1 k2 k3 hrow
    have HD := Lib.hid hd
    clear hd
    obtain ⟨e1, e2⟩ := cells1 hE
    by_cases hm : d.may
    · have hc : chkX d.s d.xs d.e = 0 := if_pos hm
      have HC := Lib.hid hc
      have HM := Lib.hid hm
      clear hc hm
      gi_wp2_with fail
      refine ⟨trivial, (CallsIn.inRound l (callsIn_wide.2 (Check_all W d.s d.A d.n d.c d.xs d.e hrow 0 HC.out))).mono ?_⟩
      rintro e W2 ⟨rfl, hB⟩
      gi_wp2
      refine ⟨keeps_below hB, O, gain_below hB, hO, fun y hy hy4 => ?_, box_on hM hB (by omega), box_on hE hB (by omega), hb.trans (hB.mono hb.size)⟩
      rcases List.mem_append.1 hy with h | h
      · exact hall y h hy4
      · rw [List.mem_singleton.1 h, HD.out]
        exact HM.out
    · have hc : chkX d.s d.xs d.e = 8 := if_neg hm
      have HC := Lib.hid hc
      have HM := Lib.hid hm
      clear hc hm
      gi_wp2_with fail
      refine ⟨trivial, (CallsIn.inRound l (callsIn_wide.2 (Check_all W d.s d.A d.n d.c d.xs d.e hrow 8 HC.out))).mono ?_⟩
      rintro e W2 ⟨rfl, hB⟩
      have hE2 := box_on hE hB (by omega)
      obtain ⟨e3, e4⟩ := cells1 hE2
      clear e1 e2
      gi_wp2
      exact ⟨(keeps_below hB).trans ((KeepsOthers.setCell _ _ _).from _), O, (gain_below hB).trans (gain_set hO _), rfl, fun h => HM.out (by have := h x hx4; rw [HD.out] at this; exact this), set1 hE2 _, (hb.trans (hB.mono hb.size)).setCell (by simp) _⟩
  case done =>
    rintro D ys O W hD hS ⟨hO, hall, hM, hE, hb⟩ hK
    obtain ⟨e1, e2⟩ := cells1 hE
    have hm : m.may := fun x hx => hall x (by rw [hS]; simp; omega) hx
    have hk := HK.out
    rw [chkM, if_pos hm] at hk
    subst hk
    clear hm hS hall
    gi_wp2
    have hK' := (KeepsOthers.setCell W ⟨w.heap.size + 1, 0, none⟩ (.int .i64 0)).same D _ hK rfl
    have c1 := cells1 ((World.putObj_heap_other (o := .deferred none) (by omega : w.heap.size + 1 ≠ D)).trans (set1 hE (.int .i64 0)))
    refine ⟨by simp, .inl ⟨_, _, rfl, run_takeDeferred hK', ?_⟩⟩
    refine ⟨.int .i64 0, ?_, rfl, ?_⟩
    · simp [results, Tryd.f49, go_sem, c1.1]
    · exact (hb.setCell (by simp) _).trans (belowK_b (w := w) (Nat.le_refl _) _ D _ _ (by omega) hK' rfl rfl)
  case stop =>
    rintro D j pre O W hD hSp ⟨rfl, hm, hE, hb⟩ hK
    have hk := HK.out
    rw [chkM, if_neg hm] at hk
    subst hk
    gi_wp2
    have c1 := cells1 ((World.putObj_heap_other (o := .deferred none) (by omega : w.heap.size + 1 ≠ D)).trans hE)
    refine ⟨by simp, .inl ⟨_, _, rfl, run_takeDeferred hK, ?_⟩⟩
    refine ⟨.int .i64 8, ?_, rfl, ?_⟩
    · simp [results, Tryd.f49, go_sem, c1.1]
    · exact hb.trans (belowK_b (w := w) (Nat.le_refl _) _ D _ _ (by omega) hK rfl rfl)
end Ma
end Go.Proofs.YtlbkepiflhchdaaDoor
namespace Go.Proofs.YtlbkepiflhchdaaDoor
open Go.RowKit
namespace Dy
open Dp
set_option maxRecDepth 100000 in
/-- headcountref01.May: limbs that may be. -/
theorem r1May_ok (w : World) (lo hi : Nat) (A : Option Addr) (n c : Nat) (xs : List Int) (hX : Ints w lo hi .u32 A n xs) (h : MayL xs) :
    Calls Tryd.prog 95 #[.slice A n c] w fun e w' => e = .returned (.bool true) ∧ w' = w := by
  have hL := Lib.hid hX.len
  have h40 : n ≤ 40 := by have := h.1; have := hL.out; omega
  by_cases h0 : 0 < n
  · have hlast := (cutd_last hX.len h0).1 h.2
    obtain ⟨b, off, rfl, hcell⟩ := get hX h0
    have g1 : w.cell? ⟨b, off + (n - 1), none⟩ = some (.int .u32 (xs[n - 1]?.getD 0)) := hcell (n - 1) (by omega)
    have hb : (xs[n - 1]?.getD 0 != 0) = true := by simpa using hlast
    have hn0 : ((n : Int) == 0) = false := by simp; omega
    have e1 : ((n : Int) - 1).toNat = n - 1 := by omega
    clear hcell hlast h
    generalize xs[n - 1]?.getD 0 = v at g1 hb
    go_enter Tryd.func95, Tryd.ntmps95
    go_wp2
    go_ret
    exact ⟨rfl, rfl⟩
  · obtain rfl : n = 0 := by omega
    clear h
    go_enter Tryd.func95, Tryd.ntmps95
    go_wp2
    go_ret
    exact ⟨rfl, rfl⟩
set_option maxRecDepth 100000 in
/-- headcountref01.May: limbs that may not be. -/
theorem r1May_bad (w : World) (lo hi : Nat) (A : Option Addr) (n c : Nat) (xs : List Int) (hX : Ints w lo hi .u32 A n xs) (h : ¬ MayL xs) :
    Calls Tryd.prog 95 #[.slice A n c] w fun e w' => e = .returned (.bool false) ∧ w' = w := by
  have hL := Lib.hid hX.len
  have hbig := hX.big
  by_cases h40 : n ≤ 40
  · have h0 : 0 < n := by
      rcases Nat.eq_zero_or_pos n with h0 | h0
      · exact absurd ⟨by have := hL.out; omega, fun hne => absurd (hX.zero h0) hne⟩ h
      · exact h0
    have hlast : xs[n - 1]?.getD 0 = 0 := by
      by_cases hl : xs[n - 1]?.getD 0 = 0
      · exact hl
      · exact absurd ⟨by have := hL.out; omega, (cutd_last hX.len h0).2 hl⟩ h
    obtain ⟨b, off, rfl, hcell⟩ := get hX h0
    have g1 : w.cell? ⟨b, off + (n - 1), none⟩ = some (.int .u32 (xs[n - 1]?.getD 0)) := hcell (n - 1) (by omega)
    rw [hlast] at g1
    have hn0 : ((n : Int) == 0) = false := by simp; omega
    have e1 : ((n : Int) - 1).toNat = n - 1 := by omega
    clear hcell hlast h
    go_enter Tryd.func95, Tryd.ntmps95
    go_wp2
    go_ret
    exact ⟨rfl, rfl⟩
  · clear h
    go_enter Tryd.func95, Tryd.ntmps95
    go_wp2
    go_ret
    exact ⟨rfl, rfl⟩
set_option maxHeartbeats 800000 in
set_option maxRecDepth 100000 in
/-- headcountref02.May: dyads that may be. -/
theorem rMay_ok (w : World) (lo hi : Nat) (s : Bool) (A : Option Addr) (n c : Nat) (xs : List Int) (ex : Int) (hX : Ints w lo hi .u32 A n xs) (hhi : hi ≤ w.heap.size) (h : MayD s xs ex) :
    Calls Tryd.prog 66 #[.agg #[.bool s, .slice A n c, .int .i64 ex]] w fun e w' => e = .returned (.bool true) ∧ Below w.heap.size w w' := by
  have hL := Lib.hid hX.len
  have hX2 := hX.alloc hhi (.cells #[.bool s, .slice A n c, .int .i64 ex] 24)
  have hB := (Below.refl w.heap.size w).alloc (Nat.le_refl _) (.cells #[.bool s, .slice A n c, .int .i64 ex] 24)
  obtain ⟨hmay, he0, he1, hz, ho⟩ := h
  by_cases h0 : 0 < n
  · have hne : xs ≠ [] := fun e => by have := hL.out; rw [e] at this; simp at this; omega
    obtain ⟨b, off, rfl, hcell⟩ := get hX2 h0
    have g1 := hcell 0 h0
    rw [Nat.add_zero] at g1
    have ho' := ho hne
    have hn0 : ((n : Int) == 0) = false := by simp; omega
    obtain ⟨v0, v1⟩ := hX.u32 0
    clear hcell hz ho
    generalize xs[0]?.getD 0 = v at g1 ho' v0 v1
    by_cases hpos : 0 < ex
    · have hv := ho' hpos
      have hv2 : v % 2 = 1 := hv
      clear ho' hv hne
      go_enter Tryd.func66, Tryd.ntmps66
      go_wp2_with fail
      refine (r1May_ok _ _ _ _ _ _ _ hX2 hmay).mono ?_
      rintro e w1 ⟨rfl, rfl⟩
      clear hmay
      go_wp2
      go_ret
      exact ⟨rfl, hB⟩
    · obtain rfl : ex = 0 := by omega
      clear ho' hne he0 he1
      go_enter Tryd.func66, Tryd.ntmps66
      go_wp2_with fail
      refine (r1May_ok _ _ _ _ _ _ _ hX2 hmay).mono ?_
      rintro e w1 ⟨rfl, rfl⟩
      clear hmay
      go_wp2
      go_ret
      exact ⟨rfl, hB⟩
  · obtain rfl : n = 0 := by omega
    obtain ⟨rfl, rfl⟩ := hz (hX.zero rfl)
    clear ho he0 he1
    go_enter Tryd.func66, Tryd.ntmps66
    go_wp2_with fail
    refine (r1May_ok _ _ _ _ _ _ _ hX2 hmay).mono ?_
    rintro e w1 ⟨rfl, rfl⟩
    clear hmay
    go_wp2
    go_ret
    exact ⟨rfl, hB⟩
set_option maxHeartbeats 1600000 in
set_option maxRecDepth 100000 in
/-- headcountref02.May: dyads that may not be. -/
theorem rMay_bad (w : World) (lo hi : Nat) (s : Bool) (A : Option Addr) (n c : Nat) (xs : List Int) (ex : Int) (hX : Ints w lo hi .u32 A n xs) (hhi : hi ≤ w.heap.size) (h : ¬ MayD s xs ex) :
    Calls Tryd.prog 66 #[.agg #[.bool s, .slice A n c, .int .i64 ex]] w fun e w' => e = .returned (.bool false) ∧ Below w.heap.size w w' := by
  have hL := Lib.hid hX.len
  have hX2 := hX.alloc hhi (.cells #[.bool s, .slice A n c, .int .i64 ex] 24)
  have hB := (Below.refl w.heap.size w).alloc (Nat.le_refl _) (.cells #[.bool s, .slice A n c, .int .i64 ex] 24)
  have hbig := hX.big
  rcases not_may h with hm | ⟨hm, hx⟩ | ⟨hm, h0, h1, hz, hx⟩ | ⟨hm, h0, h1, hz, hx⟩
  · clear h
    go_enter Tryd.func66, Tryd.ntmps66
    go_wp2_with fail
    refine (r1May_bad _ _ _ _ _ _ _ hX2 hm).mono ?_
    rintro e w1 ⟨rfl, rfl⟩
    clear hm
    by_cases hn0 : n = 0
    · subst hn0
      go_wp2
      go_ret
      exact ⟨rfl, hB⟩
    · have hn1 : ((n : Int) == 0) = false := by simp; omega
      go_wp2
      go_ret
      exact ⟨rfl, hB⟩
  · clear h
    have hn1 : n ≠ 0 → ((n : Int) == 0) = false := fun h => by simp; omega
    rcases hx with hx | hx
    all_goals
      by_cases hn0 : n = 0
      · subst hn0
        clear hn1
        go_enter Tryd.func66, Tryd.ntmps66
        go_wp2_with fail
        refine (r1May_ok _ _ _ _ _ _ _ hX2 hm).mono ?_
        rintro e w1 ⟨rfl, rfl⟩
        clear hm
        go_wp2
        go_ret
        exact ⟨rfl, hB⟩
      · have hn2 := hn1 hn0
        clear hn1
        go_enter Tryd.func66, Tryd.ntmps66
        go_wp2_with fail
        refine (r1May_ok _ _ _ _ _ _ _ hX2 hm).mono ?_
        rintro e w1 ⟨rfl, rfl⟩
        clear hm
        go_wp2
        go_ret
        exact ⟨rfl, hB⟩
  · clear h
    subst hz
    obtain rfl : n = 0 := by have := hL.out; simp at this; omega
    by_cases hx0 : ex = 0
    · subst hx0
      obtain rfl : s = true := hx.resolve_left (fun h => h rfl)
      clear hx
      go_enter Tryd.func66, Tryd.ntmps66
      go_wp2_with fail
      refine (r1May_ok _ _ _ _ _ _ _ hX2 hm).mono ?_
      rintro e w1 ⟨rfl, rfl⟩
      clear hm
      go_wp2
      go_ret
      exact ⟨rfl, hB⟩
    · have hx1 : (ex != 0) = true := by simpa using hx0
      clear hx
      go_enter Tryd.func66, Tryd.ntmps66
      go_wp2_with fail
      refine (r1May_ok _ _ _ _ _ _ _ hX2 hm).mono ?_
      rintro e w1 ⟨rfl, rfl⟩
      clear hm
      go_wp2
      go_ret
      exact ⟨rfl, hB⟩
  · clear h
    have hn0 : 0 < n := by
      rcases Nat.eq_zero_or_pos n with h0 | h0
      · exact absurd (hX.zero h0) hz
      · exact h0
    obtain ⟨b, off, rfl, hcell⟩ := get hX2 hn0
    have g1 := hcell 0 hn0
    rw [Nat.add_zero] at g1
    have hn1 : ((n : Int) == 0) = false := by simp; omega
    obtain ⟨v0, v1⟩ := hX.u32 0
    clear hcell hz
    generalize xs[0]?.getD 0 = v at g1 hx v0 v1
    have hv : v % 2 = 0 := by omega
    have hx0 : (ex == 0) = false := by simp; omega
    clear hx
    go_enter Tryd.func66, Tryd.ntmps66
    go_wp2_with fail
    refine (r1May_ok _ _ _ _ _ _ _ hX2 hm).mono ?_
    rintro e w1 ⟨rfl, rfl⟩
    clear hm
    go_wp2
    go_ret
    exact ⟨rfl, hB⟩
end Dy
end Go.Proofs.YtlbkepiflhchdaaDoor
namespace Go.Proofs.YtlbkepiflhchdaaDoor
open Go.RowKit
namespace Dy
theorem Tryd.info5 : (Tryd.prog.info? 5).map (fun i => (i.zero, i.size, i.bytes)) = some (some (.int .u8 0), 1, 1) := by kernel_rfl
theorem take_num (B : Nat) (l : List Int) (k : Nat) : num B (l.take (k + 1)) = num B (l.take k) + B ^ k * (l[k]?.getD 0).toNat := by
  by_cases h : k < l.length
  · rw [List.take_succ_eq_append_getElem h, num_append, List.getElem?_eq_getElem h]
    simp [num, Nat.min_eq_left (Nat.le_of_lt h)]
  · rw [List.take_of_length_le (by omega), List.take_of_length_le (by omega), List.getElem?_eq_none (by omega)]
    simp
theorem bit_nat {l : List Int} (hd : Dig 2 l) (k : Nat) : ∃ p : Nat, l[k]?.getD 0 = p ∧ p ≤ 1 := by
  by_cases h : k < l.length
  · rw [List.getElem?_eq_getElem h]
    have := hd _ (List.getElem_mem h)
    exact ⟨l[k].toNat, by simp only [Option.getD_some]; omega, by omega⟩
  · rw [List.getElem?_eq_none (by omega)]
    exact ⟨0, rfl, by omega⟩
theorem dig_snoc {l : List Int} (hd : Dig 2 l) (d : Nat) (h : d ≤ 1) : Dig 2 (l ++ [(d : Int)]) := fun x hx => by
  rcases List.mem_append.1 hx with h' | h'
  · exact hd x h'
  · rw [List.mem_singleton.1 h']
    omega
theorem plus_law {out xs ys : List Int} {k c p q s : Nat} (hl : out.length = k) (h : num 2 out + 2 ^ k * c = num 2 (xs.take k) + num 2 (ys.take k)) (hp : xs[k]?.getD 0 = (p : Int)) (hq : ys[k]?.getD 0 = (q : Int)) (hs : p + q + c = s) :
    num 2 (out ++ [((s % 2 : Nat) : Int)]) + 2 ^ (k + 1) * (s / 2) = num 2 (xs.take (k + 1)) + num 2 (ys.take (k + 1)) := by
  rw [take_num, take_num, hp, hq, num_append, hl]
  simp only [num, Int.toNat_natCast, Nat.mul_zero, Nat.add_zero, Nat.pow_succ]
  have e : 2 ^ k * (s % 2) + 2 ^ k * 2 * (s / 2) = 2 ^ k * s := by
    rw [Nat.mul_assoc, ← Nat.mul_add, Nat.mod_add_div]
  rw [Nat.add_assoc, e, ← hs, Nat.mul_add, Nat.mul_add]
  omega
theorem plus_end {out xs ys : List Int} {N c : Nat} (hx : xs.length + 1 ≤ N) (hy : ys.length + 1 ≤ N) (hdx : Dig 2 xs) (hdy : Dig 2 ys) (hc : c ≤ 1) (_hN : 1 ≤ N) (h : num 2 out + 2 ^ N * c = num 2 (xs.take N) + num 2 (ys.take N)) : num 2 out = num 2 xs + num 2 ys := by
  rw [List.take_of_length_le (by omega), List.take_of_length_le (by omega)] at h
  have h1 := num_lt 2 (by decide) xs hdx
  have h2 := num_lt 2 (by decide) ys hdy
  have e1 : 2 ^ xs.length ≤ 2 ^ (N - 1) := Nat.pow_le_pow_right (by decide) (by omega)
  have e2 : 2 ^ ys.length ≤ 2 ^ (N - 1) := Nat.pow_le_pow_right (by decide) (by omega)
  have e3 : 2 ^ N = 2 * 2 ^ (N - 1) := by rw [← Nat.pow_succ']; congr 1; omega
  rcases Nat.lt_or_ge 0 c with h0 | h0
  · obtain rfl : c = 1 := by omega
    omega
  · obtain rfl : c = 0 := by omega
    omega
set_option maxHeartbeats 1600000 in
/-- headcountref01.Plus, where the second is longer. -/
theorem Plus_lt (w : World) (lo hi lo' hi' : Nat) (A : Option Addr) (n c : Nat) (xs : List Int) (hX : Ints w lo hi .u8 A n xs) (B : Option Addr) (m d : Nat) (ys : List Int) (hY : Ints w lo' hi' .u8 B m ys) (hdx : Dig 2 xs) (hdy : Dig 2 ys)
    (hhi : hi ≤ w.heap.size) (hhi' : hi' ≤ w.heap.size) (hn : n ≤ 1000000) (hm : m ≤ 1000000) (hnm : n < m) :
    Calls Tryd.prog 98 #[.slice A n c, .slice B m d] w fun e w' => ∃ A' n' c', e = .returned (.slice A' n' c') ∧ n' ≤ c' ∧ Below w.heap.size w w' ∧ Ints w' w.heap.size w'.heap.size .u8 A' n' (canon 2 (num 2 xs + num 2 ys)) := by
  have HL := Lib.hid hX.len
  have HL2 := Lib.hid hY.len
  obtain ⟨i0, hi0, hz0, hz1, hz2⟩ := info_parts Tryd.info5
  go_enter Tryd.func98, Tryd.ntmps98
  go_wp2
  go_loopw [5, 6, 7] (fun v cy i wr => ∃ k cc : Nat, ∃ out : List Int, i = .int .i64 k ∧ cy = .int .u8 cc ∧ cc ≤ 1 ∧ k ≤ m + 1 ∧ wr.ownsRow w.heap.size 5 1 v k (out.map (Value.int .u8)) ∧ Dig 2 out ∧ Hid (num 2 out + 2 ^ k * cc = num 2 (xs.take k) + num 2 (ys.take k)) ∧ Below w.heap.size w wr)
    (fun _ _ i _ => m + 1 - (intOf i).toNat)
  case atStart => exact ⟨0, 0, [], rfl, rfl, by omega, by omega, ⟨rfl, .inl ⟨rfl, rfl⟩⟩, fun x hx => (by simp at hx), by simp [Hid, num], Below.refl _ _⟩
  case round =>
    obtain ⟨k, cc, out, rfl, rfl, hcc, hk, hown, hdo, hnum, hnx⟩ := hrel
    by_cases hlt : k ≤ m
    · obtain ⟨p, hp, hp1⟩ := bit_nat hdx k
      obtain ⟨q, hq, hq1⟩ := bit_nat hdy k
      have HP := Lib.hid hp
      have HQ := Lib.hid hq
      clear hp hq
      go_wp2_with fail
      refine (bit_any _ _ _ _ _ _ _ (hX.below hnx hhi) k _ p rfl HP.out (by omega)).mono ?_
      rintro e w1 ⟨rfl, rfl⟩
      go_wp2_with fail
      refine (bit_any _ _ _ _ _ _ _ (hY.below hnx hhi') k _ q rfl HQ.out (by omega)).mono ?_
      rintro e w2 ⟨rfl, rfl⟩
      go_wp2_with (first
        | (at_builtin; refine wpList_append_raw _ rfl (.tmp 27) (.tmp 30) 85 rfl w.heap.size 5 i0 (.int .u8 0) 1 1 Tryd.underlying85 hi0 hz0 hz1 hz2 rfl (by decide) _ _ _ rfl (hown.alloc _) _ _ _ 1 1 [.int .u8 (((p : Int) + q + cc) % 2)] rfl (raw_one _ _ _ _) ?c1 ?c2 ?c3 ?c4 ?_))
      case c1 => first | rfl | (intro u hu; simp at hu; subst hu; rfl)
      case c2 => unfold maxLen; omega
      case c3 => omega
      case c4 => have := hnx.size; simp; omega
      intro A2 c2 w3 hown2 hgrow2 _
      have hnx2 : Below w.heap.size w w3 := (hnx.alloc hnx.size _).grown hgrow2 (by have := hnx.size; simp; omega) (fun q hq => (hown.lt q hq).1)
      have hs : ((p : Int) + q + cc) % 2 = (((p + q + cc) % 2 : Nat) : Int) := by omega
      rw [hs] at hown2
      have hown3 : w3.ownsRow w.heap.size 5 1 (.slice A2 (k + 1) c2) (k + 1) ((out ++ [(((p + q + cc) % 2 : Nat) : Int)]).map (Value.int .u8)) := by simpa using hown2
      have hol : out.length = k := by have := hown.1; simpa using this
      have hnum2 := Lib.hid (plus_law hol hnum.out HP.out HQ.out rfl)
      have hdo2 := dig_snoc hdo ((p + q + cc) % 2) (by omega)
      clear hs hown2 hgrow2 hol hown hnum
      go_wp2
      go_roundw
      case rel => exact ⟨k + 1, (p + q + cc) / 2, _, by go_num, by congr 1, by omega, by omega, hown3, hdo2, hnum2, hnx2⟩
      case measure => simp [intOf]; omega
    · obtain ⟨A2, c2, rfl, hc2, _⟩ := own_shape hown
      have hend := plus_end (N := k) (by rw [HL.out]; omega) (by rw [HL2.out]; omega) hdx hdy hcc (by omega) hnum.out
      have hwf : ∀ x ∈ out, IntKind.u8.min ≤ x ∧ x ≤ IntKind.u8.max := fun x hx => by
        have := hdo x hx
        simp only [IntKind.min, IntKind.max, IntKind.signed, IntKind.bits]
        omega
      have hI := Ints.of_own hown hwf (by omega)
      have HE := Lib.hid hend
      clear hown hnum hend
      go_wp2_with fail
      refine (Cut_any _ _ _ _ _ _ _ hI hdo hc2).mono ?_
      rintro e w4 ⟨⟨m4, rfl, hm4, hI4⟩, rfl⟩
      rw [HE.out] at hI4
      go_wp2_with fail
      go_ret
      exact ⟨A2, m4, c2, rfl, by omega, hnx, hI4⟩
set_option maxHeartbeats 1600000 in
/-- headcountref01.Plus, where it is not. -/
theorem Plus_ge (w : World) (lo hi lo' hi' : Nat) (A : Option Addr) (n c : Nat) (xs : List Int) (hX : Ints w lo hi .u8 A n xs) (B : Option Addr) (m d : Nat) (ys : List Int) (hY : Ints w lo' hi' .u8 B m ys) (hdx : Dig 2 xs) (hdy : Dig 2 ys)
    (hhi : hi ≤ w.heap.size) (hhi' : hi' ≤ w.heap.size) (hn : n ≤ 1000000) (_hm : m ≤ 1000000) (hnm : ¬ n < m) :
    Calls Tryd.prog 98 #[.slice A n c, .slice B m d] w fun e w' => ∃ A' n' c', e = .returned (.slice A' n' c') ∧ n' ≤ c' ∧ Below w.heap.size w w' ∧ Ints w' w.heap.size w'.heap.size .u8 A' n' (canon 2 (num 2 xs + num 2 ys)) := by
  have HL := Lib.hid hX.len
  have HL2 := Lib.hid hY.len
  obtain ⟨i0, hi0, hz0, hz1, hz2⟩ := info_parts Tryd.info5
  go_enter Tryd.func98, Tryd.ntmps98
  go_wp2
  go_loopw [5, 6, 7] (fun v cy i wr => ∃ k cc : Nat, ∃ out : List Int, i = .int .i64 k ∧ cy = .int .u8 cc ∧ cc ≤ 1 ∧ k ≤ n + 1 ∧ wr.ownsRow w.heap.size 5 1 v k (out.map (Value.int .u8)) ∧ Dig 2 out ∧ Hid (num 2 out + 2 ^ k * cc = num 2 (xs.take k) + num 2 (ys.take k)) ∧ Below w.heap.size w wr)
    (fun _ _ i _ => n + 1 - (intOf i).toNat)
  case atStart => exact ⟨0, 0, [], rfl, rfl, by omega, by omega, ⟨rfl, .inl ⟨rfl, rfl⟩⟩, fun x hx => (by simp at hx), by simp [Hid, num], Below.refl _ _⟩
  case round =>
    obtain ⟨k, cc, out, rfl, rfl, hcc, hk, hown, hdo, hnum, hnx⟩ := hrel
    by_cases hlt : k ≤ n
    · obtain ⟨p, hp, hp1⟩ := bit_nat hdx k
      obtain ⟨q, hq, hq1⟩ := bit_nat hdy k
      have HP := Lib.hid hp
      have HQ := Lib.hid hq
      clear hp hq
      go_wp2_with fail
      refine (bit_any _ _ _ _ _ _ _ (hX.below hnx hhi) k _ p rfl HP.out (by omega)).mono ?_
      rintro e w1 ⟨rfl, rfl⟩
      go_wp2_with fail
      refine (bit_any _ _ _ _ _ _ _ (hY.below hnx hhi') k _ q rfl HQ.out (by omega)).mono ?_
      rintro e w2 ⟨rfl, rfl⟩
      go_wp2_with (first
        | (at_builtin; refine wpList_append_raw _ rfl (.tmp 27) (.tmp 30) 85 rfl w.heap.size 5 i0 (.int .u8 0) 1 1 Tryd.underlying85 hi0 hz0 hz1 hz2 rfl (by decide) _ _ _ rfl (hown.alloc _) _ _ _ 1 1 [.int .u8 (((p : Int) + q + cc) % 2)] rfl (raw_one _ _ _ _) ?c1 ?c2 ?c3 ?c4 ?_))
      case c1 => first | rfl | (intro u hu; simp at hu; subst hu; rfl)
      case c2 => unfold maxLen; omega
      case c3 => omega
      case c4 => have := hnx.size; simp; omega
      intro A2 c2 w3 hown2 hgrow2 _
      have hnx2 : Below w.heap.size w w3 := (hnx.alloc hnx.size _).grown hgrow2 (by have := hnx.size; simp; omega) (fun q hq => (hown.lt q hq).1)
      have hs : ((p : Int) + q + cc) % 2 = (((p + q + cc) % 2 : Nat) : Int) := by omega
      rw [hs] at hown2
      have hown3 : w3.ownsRow w.heap.size 5 1 (.slice A2 (k + 1) c2) (k + 1) ((out ++ [(((p + q + cc) % 2 : Nat) : Int)]).map (Value.int .u8)) := by simpa using hown2
      have hol : out.length = k := by have := hown.1; simpa using this
      have hnum2 := Lib.hid (plus_law hol hnum.out HP.out HQ.out rfl)
      have hdo2 := dig_snoc hdo ((p + q + cc) % 2) (by omega)
      clear hs hown2 hgrow2 hol hown hnum
      go_wp2
      go_roundw
      case rel => exact ⟨k + 1, (p + q + cc) / 2, _, by go_num, by congr 1, by omega, by omega, hown3, hdo2, hnum2, hnx2⟩
      case measure => simp [intOf]; omega
    · obtain ⟨A2, c2, rfl, hc2, _⟩ := own_shape hown
      have hend := plus_end (N := k) (by rw [HL.out]; omega) (by rw [HL2.out]; omega) hdx hdy hcc (by omega) hnum.out
      have hwf : ∀ x ∈ out, IntKind.u8.min ≤ x ∧ x ≤ IntKind.u8.max := fun x hx => by
        have := hdo x hx
        simp only [IntKind.min, IntKind.max, IntKind.signed, IntKind.bits]
        omega
      have hI := Ints.of_own hown hwf (by omega)
      have HE := Lib.hid hend
      clear hown hnum hend
      go_wp2_with fail
      refine (Cut_any _ _ _ _ _ _ _ hI hdo hc2).mono ?_
      rintro e w4 ⟨⟨m4, rfl, hm4, hI4⟩, rfl⟩
      rw [HE.out] at hI4
      go_wp2_with fail
      go_ret
      exact ⟨A2, m4, c2, rfl, by omega, hnx, hI4⟩
theorem Plus_any (w : World) (lo hi lo' hi' : Nat) (A : Option Addr) (n c : Nat) (xs : List Int) (hX : Ints w lo hi .u8 A n xs) (B : Option Addr) (m d : Nat) (ys : List Int) (hY : Ints w lo' hi' .u8 B m ys) (hdx : Dig 2 xs) (hdy : Dig 2 ys)
    (hhi : hi ≤ w.heap.size) (hhi' : hi' ≤ w.heap.size) (hn : n ≤ 1000000) (hm : m ≤ 1000000) (s : Nat) (hs : num 2 xs + num 2 ys = s) :
    Calls Tryd.prog 98 #[.slice A n c, .slice B m d] w fun e w' => ∃ A' n' c', e = .returned (.slice A' n' c') ∧ n' ≤ c' ∧ Below w.heap.size w w' ∧ Ints w' w.heap.size w'.heap.size .u8 A' n' (canon 2 s) := by
  subst hs
  by_cases h : n < m
  · exact Plus_lt w lo hi lo' hi' A n c xs hX B m d ys hY hdx hdy hhi hhi' hn hm h
  · exact Plus_ge w lo hi lo' hi' A n c xs hX B m d ys hY hdx hdy hhi hhi' hn hm h
end Dy
end Go.Proofs.YtlbkepiflhchdaaDoor
namespace Go.Proofs.YtlbkepiflhchdaaDoor
open Go.RowKit
namespace Dy
theorem minus_law {out xs ys : List Int} {k c p q s : Nat} (hl : out.length = k) (h : num 2 (xs.take k) + 2 ^ k * c = num 2 out + num 2 (ys.take k)) (hp : xs[k]?.getD 0 = (p : Int)) (hq : ys[k]?.getD 0 = (q : Int)) (hs : p + 2 = s + q + c) (h3 : s ≤ 3) :
    num 2 (xs.take (k + 1)) + 2 ^ (k + 1) * (1 - s / 2) = num 2 (out ++ [((s % 2 : Nat) : Int)]) + num 2 (ys.take (k + 1)) := by
  rw [take_num, take_num, hp, hq, num_append, hl]
  simp only [num, Int.toNat_natCast, Nat.mul_zero, Nat.add_zero, Nat.pow_succ]
  have e : 2 ^ k * p + 2 ^ k * 2 * (1 - s / 2) = 2 ^ k * (s % 2) + 2 ^ k * q + 2 ^ k * c := by
    rw [Nat.mul_assoc, ← Nat.mul_add, ← Nat.mul_add, ← Nat.mul_add]
    congr 1
    omega
  omega
theorem minus_end {out xs ys : List Int} {N c : Nat} (hl : out.length = N) (hdo : Dig 2 out) (hx : xs.length = N) (hy : ys.length ≤ N) (hle : num 2 ys ≤ num 2 xs) (hc : c ≤ 1) (h : num 2 (xs.take N) + 2 ^ N * c = num 2 out + num 2 (ys.take N)) : num 2 out = num 2 xs - num 2 ys := by
  rw [List.take_of_length_le (by omega), List.take_of_length_le (by omega)] at h
  have h1 := num_lt 2 (by decide) out hdo
  rw [hl] at h1
  rcases Nat.lt_or_ge 0 c with h0 | h0
  · obtain rfl : c = 1 := by omega
    omega
  · obtain rfl : c = 0 := by omega
    omega
set_option maxHeartbeats 1600000 in
set_option maxRecDepth 100000 in
/-- headcountref01.Minus. -/
theorem Minus_any (w : World) (lo hi lo' hi' : Nat) (A : Option Addr) (n c : Nat) (xs : List Int) (hX : Ints w lo hi .u8 A n xs) (B : Option Addr) (m d : Nat) (ys : List Int) (hY : Ints w lo' hi' .u8 B m ys) (hdx : Dig 2 xs) (hdy : Dig 2 ys)
    (hhi : hi ≤ w.heap.size) (hhi' : hi' ≤ w.heap.size) (hn : n ≤ 1000000) (hm : m ≤ n) (hle : num 2 ys ≤ num 2 xs) (s : Nat) (hs : num 2 xs - num 2 ys = s) :
    Calls Tryd.prog 100 #[.slice A n c, .slice B m d] w fun e w' => ∃ A' n' c', e = .returned (.slice A' n' c') ∧ n' ≤ c' ∧ Below w.heap.size w w' ∧ Ints w' w.heap.size w'.heap.size .u8 A' n' (canon 2 s) := by
  have HL := Lib.hid hX.len
  have HL2 := Lib.hid hY.len
  have HS := Lib.hid hs
  clear hs
  obtain ⟨i0, hi0, hz0, hz1, hz2⟩ := info_parts Tryd.info5
  go_enter Tryd.func100, Tryd.ntmps100
  go_wp2
  go_loopw [5, 6, 7] (fun v cy i wr => ∃ k cc : Nat, ∃ out : List Int, i = .int .i64 k ∧ cy = .int .u8 cc ∧ cc ≤ 1 ∧ k ≤ n ∧ wr.ownsRow w.heap.size 5 1 v k (out.map (Value.int .u8)) ∧ Dig 2 out ∧ Hid (num 2 (xs.take k) + 2 ^ k * cc = num 2 out + num 2 (ys.take k)) ∧ Below w.heap.size w wr)
    (fun _ _ i _ => n - (intOf i).toNat)
  case atStart => exact ⟨0, 0, [], rfl, rfl, by omega, by omega, ⟨rfl, .inl ⟨rfl, rfl⟩⟩, fun x hx => (by simp at hx), by simp [Hid, num], Below.refl _ _⟩
  case round =>
    obtain ⟨k, cc, out, rfl, rfl, hcc, hk, hown, hdo, hnum, hnx⟩ := hrel
    by_cases hlt : k < n
    · obtain ⟨p, hp, hp1⟩ := bit_nat hdx k
      obtain ⟨q, hq, hq1⟩ := bit_nat hdy k
      have HP := Lib.hid hp
      have HQ := Lib.hid hq
      clear hp hq
      obtain ⟨s1, hs1⟩ : ∃ s1 : Nat, p + 2 = s1 + q + cc := ⟨p + 2 - q - cc, by omega⟩
      have hs3 : s1 ≤ 3 := by omega
      go_wp2_with fail
      refine (bit_any _ _ _ _ _ _ _ (hX.below hnx hhi) k _ p rfl HP.out (by omega)).mono ?_
      rintro e w1 ⟨rfl, rfl⟩
      go_wp2_with fail
      refine (bit_any _ _ _ _ _ _ _ (hY.below hnx hhi') k _ q rfl HQ.out (by omega)).mono ?_
      rintro e w2 ⟨rfl, rfl⟩
      go_wp2_with (first
        | (at_builtin; refine wpList_append_raw _ rfl (.tmp 25) (.tmp 28) 85 rfl w.heap.size 5 i0 (.int .u8 0) 1 1 Tryd.underlying85 hi0 hz0 hz1 hz2 rfl (by decide) _ _ _ rfl (hown.alloc _) _ _ _ 1 1 [.int .u8 (((p : Int) + 2 - q - cc) % 2)] rfl (raw_one _ _ _ _) ?c1 ?c2 ?c3 ?c4 ?_))
      case c1 => first | rfl | (intro u hu; simp at hu; subst hu; rfl)
      case c2 => unfold maxLen; omega
      case c3 => omega
      case c4 => have := hnx.size; simp; omega
      intro A2 c2 w3 hown2 hgrow2 _
      have hnx2 : Below w.heap.size w w3 := (hnx.alloc hnx.size _).grown hgrow2 (by have := hnx.size; simp; omega) (fun q hq => (hown.lt q hq).1)
      have hs : ((p : Int) + 2 - q - cc) % 2 = ((s1 % 2 : Nat) : Int) := by omega
      rw [hs] at hown2
      have hown3 : w3.ownsRow w.heap.size 5 1 (.slice A2 (k + 1) c2) (k + 1) ((out ++ [((s1 % 2 : Nat) : Int)]).map (Value.int .u8)) := by simpa using hown2
      have hol : out.length = k := by have := hown.1; simpa using this
      have hnum2 := Lib.hid (minus_law hol hnum.out HP.out HQ.out hs1 hs3)
      have hdo2 := dig_snoc hdo (s1 % 2) (by omega)
      have hb0 : 0 ≤ (p : Int) + 2 - q - cc := by omega
      have hb3 : (p : Int) + 2 - q - cc ≤ 3 := by omega
      have HS1 := Lib.hid hs1
      clear hs hs1 hown2 hgrow2 hol hown hnum
      go_wp2
      go_roundw
      case rel =>
        have hs1 := HS1.out
        exact ⟨k + 1, 1 - s1 / 2, _, by go_num, by congr 1; omega, by omega, by omega, hown3, hdo2, hnum2, hnx2⟩
      case measure => simp [intOf]; omega
    · obtain rfl : k = n := by omega
      obtain ⟨A2, c2, rfl, hc2, _⟩ := own_shape hown
      have hol : out.length = k := by have := hown.1; simpa using this
      have hend := minus_end hol hdo HL.out (by rw [HL2.out]; omega) hle hcc hnum.out
      rw [HS.out] at hend
      have hwf : ∀ x ∈ out, IntKind.u8.min ≤ x ∧ x ≤ IntKind.u8.max := fun x hx => by
        have := hdo x hx
        simp only [IntKind.min, IntKind.max, IntKind.signed, IntKind.bits]
        omega
      have hI := Ints.of_own hown hwf (by omega)
      have HE := Lib.hid hend
      clear hown hnum hend hol
      go_wp2_with fail
      refine (Cut_any _ _ _ _ _ _ _ hI hdo hc2).mono ?_
      rintro e w4 ⟨⟨m4, rfl, hm4, hI4⟩, rfl⟩
      rw [HE.out] at hI4
      go_wp2_with fail
      go_ret
      exact ⟨A2, m4, c2, rfl, by omega, hnx, hI4⟩
end Dy
end Go.Proofs.YtlbkepiflhchdaaDoor
