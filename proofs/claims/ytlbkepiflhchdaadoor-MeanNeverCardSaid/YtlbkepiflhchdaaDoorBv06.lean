/- The examples of the chapter: a walk. -/
/- The examples of the chapter: a walk (printed by a program of mine). -/
/- The law DyadHalves: a walk. -/
/- What is reckoned with dyads, whatever they are: contracts. -/
/- A mass's value and rows; mass.Check: a walk (printed by a program of mine). -/
/- The limbs of bits, by a walk. -/
/- The reference's Formed: a walk (printed by a program of mine). -/
/- RegionE: three operations may come up; and small laws about boxes and rows in one's own range. No program in sight. -/
import Derived.Test.YtlbkepiflhchdaaDoorBv05
import Derived.Test.YtlbkepiflhchdaaDoorBv01
import Derived.Test.YtlbkepiflhchdaaDoorBv02
namespace Go.Proofs.YtlbkepiflhchdaaDoor
open Go.RowKit
namespace Dy
open Dp
theorem may_small (s : Bool) (m e : Nat) (h0 : m ≠ 0) (h1 : m < 16) (h2 : e ≤ 1024) (h3 : 0 < e → m % 2 = 1) : Dn.May ⟨s, m, e⟩ :=
  ⟨capD_gt (k := 4) h1 (by decide), h2, fun h => absurd h h0, h3⟩
theorem canon_one (m : Nat) (h0 : m ≠ 0) (h1 : m < 4294967296) : canon 4294967296 m = [(m : Int)] := by
  refine (canon_of (by decide) (fun x hx => ?_) (fun _ => ?_) ?_).symm
  · rw [List.mem_singleton.1 hx]
    omega
  · simp
    exact h0
  · simp [num]
/-- A dyad in a box. -/
structure Box (w : World) (g : Nat) (d : Dn) : Prop where
  some_ : ∃ A n c, w.heap[g]? = some (.cells #[.bool d.neg, .slice A n c, .int .i64 d.e] 24 (0, 0)) ∧ Ints w 0 w.heap.size .u32 A n (canon 4294967296 d.m)
theorem Box.below {w w' : World} {g : Nat} {d : Dn} (h : Box w g d) (hb : Below w.heap.size w w') : Box w' g d := by
  obtain ⟨A, n, c, h1, h2⟩ := h.some_
  exact ⟨A, n, c, (hb.block g (Array.getElem?_eq_some_iff.1 h1).1).trans h1, (h2.below hb (Nat.le_refl _)).more (Nat.le_refl _) hb.size⟩
theorem Box.new {w : World} (d : Dn) (A : Option Addr) (n c : Nat) (h : Ints w 0 w.heap.size .u32 A n (canon 4294967296 d.m)) (s : Bool) (e : Int) (hs : s = d.neg) (he : e = d.e) : Box (w.alloc (.cells #[.bool s, .slice A n c, .int .i64 e] 24)) w.heap.size d := by
  subst hs he
  exact ⟨A, n, c, heap_alloc_last _ _, (h.alloc (Nat.le_refl _) _).more (Nat.le_refl _) (by simp)⟩
theorem ints_all {w : World} {lo : Nat} {A : Option Addr} {n : Nat} {xs : List Int} (h : Ints w lo w.heap.size .u32 A n xs) : Ints w 0 w.heap.size .u32 A n xs := h.more (Nat.zero_le _) (Nat.le_refl _)
theorem ints_on {w w' : World} {A : Option Addr} {n : Nat} {xs : List Int} (h : Ints w 0 w.heap.size .u32 A n xs) (hb : Below w.heap.size w w') : Ints w' 0 w'.heap.size .u32 A n xs := (h.below hb (Nat.le_refl _)).more (Nat.le_refl _) hb.size
/-- Amid a walk: nothing of what was has changed, the table is there. -/
structure Amid (w0 w : World) : Prop where
  below : Below w0.heap.size w0 w
  tab : Tab w
theorem Amid.on {w0 w w' : World} (h : Amid w0 w) (hb : Below w.heap.size w w') : Amid w0 w' := ⟨h.below.trans (hb.mono h.below.size), h.tab.below hb h.tab.lt⟩
theorem Amid.alloc {w0 w : World} (h : Amid w0 w) (o : Obj) : Amid w0 (w.alloc o) := h.on ((Below.refl _ w).alloc (Nat.le_refl _) o)
end Dy
end Go.Proofs.YtlbkepiflhchdaaDoor
namespace Go.Proofs.YtlbkepiflhchdaaDoor
open Go.RowKit
namespace Dy
open Dp
/-- Blocks that were there are as they were. -/
def Keeps (W w : World) : Prop := ∀ p, p < W.heap.size → w.heap[p]? = W.heap[p]?
theorem Keeps.refl (W : World) : Keeps W W := fun _ _ => rfl
theorem Keeps.on {W w w' : World} (h : Keeps W w) (hs : W.heap.size ≤ w.heap.size) (hb : Below w.heap.size w w') : Keeps W w' := fun p hp => (hb.block p (Nat.lt_of_lt_of_le hp hs)).trans (h p hp)
theorem Amid.drew {w0 w : World} (h : Amid w0 w) : Amid w0 w.drew := ⟨h.below.drew, h.tab.keep rfl⟩
end Dy
end Go.Proofs.YtlbkepiflhchdaaDoor
namespace Go.Proofs.YtlbkepiflhchdaaDoor
open Go.RowKit
namespace Dy
open Dp
/-- What a law answers. -/
def Yes (w : World) (e : Ending) (w' : World) : Prop := e = .returned (.bool true) ∧ Below w.heap.size w w'
end Dy
end Go.Proofs.YtlbkepiflhchdaaDoor
namespace Go.Proofs.YtlbkepiflhchdaaDoor
open Go.RowKit
namespace Dy
open Dp
open Classical in
noncomputable def addX (s1 : Bool) (xs1 : List Int) (e1 : Int) (s2 : Bool) (xs2 : List Int) (e2 : Int) : Dn × Int := if MayD s1 xs1 e1 ∧ MayD s2 xs2 e2 then addD (dn s1 xs1 e1) (dn s2 xs2 e2) else (Dn.zero, 8)
open Classical in
noncomputable def subX (s1 : Bool) (xs1 : List Int) (e1 : Int) (s2 : Bool) (xs2 : List Int) (e2 : Int) : Dn × Int := if MayD s1 xs1 e1 ∧ MayD s2 xs2 e2 then subD (dn s1 xs1 e1) (dn s2 xs2 e2) else (Dn.zero, 8)
open Classical in
noncomputable def halfX (s1 : Bool) (xs1 : List Int) (e1 : Int) : Dn × Int := if MayD s1 xs1 e1 then halfD (dn s1 xs1 e1) else (Dn.zero, 8)
open Classical in
noncomputable def chkX (s1 : Bool) (xs1 : List Int) (e1 : Int) : Int := if MayD s1 xs1 e1 then 0 else 8
theorem bad_formed {w : World} {e : Ending} {w' : World} (h : Bad w e w') : Formed w Dn.zero 8 e w' := ⟨none, 0, 0, h.1, Nat.le_refl _, h.2, Ints.nil_ ..⟩
theorem addX_ok {s1 s2 : Bool} {xs1 xs2 : List Int} {e1 e2 : Int} (h1 : MayD s1 xs1 e1) (h2 : MayD s2 xs2 e2) : addX s1 xs1 e1 s2 xs2 e2 = addD (dn s1 xs1 e1) (dn s2 xs2 e2) := if_pos ⟨h1, h2⟩
theorem subX_ok {s1 s2 : Bool} {xs1 xs2 : List Int} {e1 e2 : Int} (h1 : MayD s1 xs1 e1) (h2 : MayD s2 xs2 e2) : subX s1 xs1 e1 s2 xs2 e2 = subD (dn s1 xs1 e1) (dn s2 xs2 e2) := if_pos ⟨h1, h2⟩
theorem halfX_ok {s1 : Bool} {xs1 : List Int} {e1 : Int} (h1 : MayD s1 xs1 e1) : halfX s1 xs1 e1 = halfD (dn s1 xs1 e1) := if_pos h1
theorem addX_may (s1 : Bool) (xs1 : List Int) (e1 : Int) (s2 : Bool) (xs2 : List Int) (e2 : Int) : (addX s1 xs1 e1 s2 xs2 e2).1.May := by
  unfold addX
  split
  · exact add_may ..
  · exact zero_may
theorem Add_all (w : World) (s1 s2 : Bool) (A1 A2 : Option Addr) (n1 c1 n2 c2 : Nat) (xs1 xs2 : List Int) (e1 e2 : Int) (h1 : Ints w 0 w.heap.size .u32 A1 n1 xs1) (h2 : Ints w 0 w.heap.size .u32 A2 n2 xs2) (hT : Tab w) (r : Dn) (code : Int) (h : addX s1 xs1 e1 s2 xs2 e2 = (r, code)) :
    Calls Tryd.prog 20 #[.agg #[.bool s1, .slice A1 n1 c1, .int .i64 e1], .agg #[.bool s2, .slice A2 n2 c2, .int .i64 e2]] w (Formed w r code) := by
  unfold addX at h
  split at h
  · rename_i hm
    exact Add_raw w s1 s2 A1 A2 n1 c1 n2 c2 xs1 xs2 e1 e2 h1 h2 hm.1 hm.2 hT r code h
  · rename_i hm
    injection h with h3 h4
    subst h3 h4
    exact (Add_bad w s1 s2 A1 A2 n1 c1 n2 c2 xs1 xs2 e1 e2 h1 h2 (Classical.not_and_iff_not_or_not.1 hm)).mono fun _ _ k => bad_formed k
theorem Sub_all (w : World) (s1 s2 : Bool) (A1 A2 : Option Addr) (n1 c1 n2 c2 : Nat) (xs1 xs2 : List Int) (e1 e2 : Int) (h1 : Ints w 0 w.heap.size .u32 A1 n1 xs1) (h2 : Ints w 0 w.heap.size .u32 A2 n2 xs2) (hT : Tab w) (r : Dn) (code : Int) (h : subX s1 xs1 e1 s2 xs2 e2 = (r, code)) :
    Calls Tryd.prog 22 #[.agg #[.bool s1, .slice A1 n1 c1, .int .i64 e1], .agg #[.bool s2, .slice A2 n2 c2, .int .i64 e2]] w (Formed w r code) := by
  unfold subX at h
  split at h
  · rename_i hm
    exact Sub_raw w s1 s2 A1 A2 n1 c1 n2 c2 xs1 xs2 e1 e2 h1 h2 hm.1 hm.2 hT r code h
  · rename_i hm
    injection h with h3 h4
    subst h3 h4
    exact (Sub_bad w s1 s2 A1 A2 n1 c1 n2 c2 xs1 xs2 e1 e2 h1 h2 (Classical.not_and_iff_not_or_not.1 hm)).mono fun _ _ k => bad_formed k
theorem Half_all (w : World) (s1 : Bool) (A1 : Option Addr) (n1 c1 : Nat) (xs1 : List Int) (e1 : Int) (h1 : Ints w 0 w.heap.size .u32 A1 n1 xs1) (hT : Tab w) (r : Dn) (code : Int) (h : halfX s1 xs1 e1 = (r, code)) :
    Calls Tryd.prog 24 #[.agg #[.bool s1, .slice A1 n1 c1, .int .i64 e1]] w (Formed w r code) := by
  unfold halfX at h
  split at h
  · rename_i hm
    exact Half_raw w s1 A1 n1 c1 xs1 e1 h1 hm hT r code h
  · rename_i hm
    injection h with h3 h4
    subst h3 h4
    exact (Half_bad w s1 A1 n1 c1 xs1 e1 h1 hm).mono fun _ _ k => bad_formed k
theorem Check_all (w : World) (s1 : Bool) (A1 : Option Addr) (n1 c1 : Nat) (xs1 : List Int) (e1 : Int) (h1 : Ints w 0 w.heap.size .u32 A1 n1 xs1) (k : Int) (h : chkX s1 xs1 e1 = k) :
    Calls Tryd.prog 35 #[.agg #[.bool s1, .slice A1 n1 c1, .int .i64 e1]] w fun e w' => e = .returned (.int .i64 k) ∧ Below w.heap.size w w' := by
  unfold chkX at h
  split at h
  · subst h
    exact Check_ok w 0 w.heap.size s1 A1 n1 c1 xs1 e1 h1 (Nat.le_refl _) (by assumption)
  · subst h
    exact Check_bad w 0 w.heap.size s1 A1 n1 c1 xs1 e1 h1 (Nat.le_refl _) (by assumption)
end Dy
end Go.Proofs.YtlbkepiflhchdaaDoor
namespace Go.Proofs.YtlbkepiflhchdaaDoor
open Go.RowKit
namespace Ma
open Dp Dy
attribute [local go_sem] Oper.semAt_some
/-- A dyad's value, and what its row holds. -/
structure Dv where
  s : Bool
  A : Option Addr
  n : Nat
  c : Nat
  e : Int
  xs : List Int
structure Mv where
  S : Dv
  W : Dv
  C : Dv
  A : Dv
def Mv.get (m : Mv) : Nat → Dv
  | 0 => m.S
  | 1 => m.W
  | 2 => m.C
  | _ => m.A
def Dv.Row (w : World) (lo hi : Nat) (d : Dv) : Prop := Ints w lo hi .u32 d.A d.n d.xs
def Dv.may (d : Dv) : Prop := MayD d.s d.xs d.e
structure MRows (w : World) (lo hi : Nat) (m : Mv) : Prop where
  S : m.S.Row w lo hi
  W : m.W.Row w lo hi
  C : m.C.Row w lo hi
  A : m.A.Row w lo hi
theorem MRows.get {w : World} {lo hi : Nat} {m : Mv} (h : MRows w lo hi m) (x : Nat) : Ints w lo hi .u32 (m.get x).A (m.get x).n (m.get x).xs := by
  unfold Mv.get
  split
  · exact h.S
  · exact h.W
  · exact h.C
  · exact h.A
theorem MRows.below {w w' : World} {lo hi B : Nat} {m : Mv} (h : MRows w lo hi m) (hb : Below B w w') (hB : hi ≤ B) : MRows w' lo hi m := ⟨Ints.below h.S hb hB, Ints.below h.W hb hB, Ints.below h.C hb hB, Ints.below h.A hb hB⟩
theorem MRows.more {w : World} {lo hi lo' hi' : Nat} {m : Mv} (h : MRows w lo hi m) (hl : lo' ≤ lo) (hh : hi ≤ hi') : MRows w lo' hi' m := ⟨Ints.more h.S hl hh, Ints.more h.W hl hh, Ints.more h.C hl hh, Ints.more h.A hl hh⟩
/-- A mass in a block. -/
def MBox (w : World) (g : Nat) (m : Mv) : Prop := w.heap[g]? = some (.cells #[.bool m.S.s, .slice m.S.A m.S.n m.S.c, .int .i64 m.S.e, .bool m.W.s, .slice m.W.A m.W.n m.W.c, .int .i64 m.W.e, .bool m.C.s, .slice m.C.A m.C.n m.C.c, .int .i64 m.C.e, .bool m.A.s, .slice m.A.A m.A.n m.A.c, .int .i64 m.A.e] 39 (0, 0))
theorem MBox.at_ {w : World} {g : Nat} {m : Mv} (h : MBox w g m) {x : Nat} (hx : x < 4) :
    (w.cell? ⟨g, 3 * x, none⟩ = some (.bool (m.get x).s) ∧ w.cell? ⟨g, 3 * x + 1, none⟩ = some (.slice (m.get x).A (m.get x).n (m.get x).c) ∧ w.cell? ⟨g, 3 * x + 2, none⟩ = some (.int .i64 (m.get x).e)) ∧
      (w.frozen? ⟨g, 3 * x, none⟩ = false ∧ w.frozen? ⟨g, 3 * x + 1, none⟩ = false ∧ w.frozen? ⟨g, 3 * x + 2, none⟩ = false) := by
  have hf : ∀ k, w.frozen? ⟨g, k, none⟩ = false := fun k => frozen_of_row w g k _ _ h
  refine ⟨?_, hf _, hf _, hf _⟩
  have hc : ∀ k v, (#[.bool m.S.s, .slice m.S.A m.S.n m.S.c, .int .i64 m.S.e, .bool m.W.s, .slice m.W.A m.W.n m.W.c, .int .i64 m.W.e, .bool m.C.s, .slice m.C.A m.C.n m.C.c, .int .i64 m.C.e, .bool m.A.s, .slice m.A.A m.A.n m.A.c, .int .i64 m.A.e] : Array Value)[k]? = some v → w.cell? ⟨g, k, none⟩ = some v := fun k v hk => by
    unfold MBox at h
    simp [World.cell?, h]
    simpa using hk
  have hx' : x = 0 ∨ x = 1 ∨ x = 2 ∨ x = 3 := by omega
  rcases hx' with rfl | rfl | rfl | rfl <;> exact ⟨hc _ _ rfl, hc _ _ rfl, hc _ _ rfl⟩
def Mv.may (m : Mv) : Prop := ∀ x, x < 4 → (m.get x).may
open Classical in
noncomputable def chkM (m : Mv) : Int := if m.may then 0 else 8
theorem box_on {w w' : World} {g B : Nat} {o : Obj} (h : w.heap[g]? = some o) (hb : Below B w w') (hB : g < B) : w'.heap[g]? = some o := (hb.block g hB).trans h
theorem gain_below {O : Nat → Prop} {w w' : World} (hb : Below w.heap.size w w') : Gain O O w w' := ⟨hb.size, fun k _ _ _ _ h => (hb.block k (lt_of_heap h)).trans h, fun _ h => .inl h⟩
theorem keeps_below {w w' : World} {B : Nat} (hb : Below w.heap.size w w') : KeepsFrom B w w' := ⟨hb.size, fun k _ _ hk _ => (hb.block k (lt_of_heap hk)).trans hk⟩
theorem gain_set {O : Nat → Prop} {w : World} {p : Addr} (hp : O p.block) (v : Value) : Gain O O w (w.setCell p v) := ⟨by simp [World.setCell], fun k _ _ _ hk h => by
    have : p.block ≠ k := fun e => hk (e ▸ hp)
    rw [← h]
    simp [World.setCell, Array.getElem?_modify, this], fun _ h => .inl h⟩
theorem heap_own {W W' : World} {row : Option Nat} {g : Nat} {cs : Array Value} {t : TypeId} {z : Nat × Nat} (h : W.heap[g]? = some (.cells cs t z)) (hg : W.grownBy W' row) (hr : ∀ r, row = some r → ∃ o : Obj, W.heap[r]? = some o ∧ o.isCells = false) : W'.heap[g]? = some (.cells cs t z) := by
  refine (hg.block g (lt_of_heap h) (fun e => ?_)).trans h
  obtain ⟨o, h1, h2⟩ := hr g e.symm
  rw [h] at h1
  cases h1
  cases h2
theorem heap_loose {W W' : World} {row : Option Nat} {g gl : Nat} {o : Obj} (h : W.heap[g]? = some o) (hg : W.grownBy W' row) (hr : ∀ r, row = some r → r = gl) (hne : g ≠ gl) : W'.heap[g]? = some o :=
  (hg.block g (lt_of_heap h) (fun e => hne (hr g e.symm))).trans h
theorem below_loose {W0 W W' : World} {B gl : Nat} {row : Option Nat} (h : Below B W0 W) (hB : B ≤ W0.heap.size) (hg : W.grownBy W' row) (hr : ∀ r, row = some r → r = gl) (hle : B ≤ gl) : Below B W0 W' :=
  h.grown hg (Nat.le_trans hB h.size) (fun k e => by have := hr k e; omega)
theorem set1 {w : World} {g : Nat} {x : Value} {t : TypeId} (h : w.heap[g]? = some (.cells #[x] t (0, 0))) (v : Value) : (w.setCell ⟨g, 0, none⟩ v).heap[g]? = some (.cells #[v] t (0, 0)) := by
  simp [World.setCell, Array.getElem?_modify, h]
set_option maxHeartbeats 3200000 in
set_option maxRecDepth 100000 in
/-- mass.Check. -/
theorem MCheck_any (w : World) (m : Mv) (hR : MRows w 0 w.heap.size m) (k : Int) (hk : chkM m = k) :
    Calls Tryd.prog 49 #[.agg #[.bool m.S.s, .slice m.S.A m.S.n m.S.c, .int .i64 m.S.e, .bool m.W.s, .slice m.W.A m.W.n m.W.c, .int .i64 m.W.e, .bool m.C.s, .slice m.C.A m.C.n m.C.c, .int .i64 m.C.e, .bool m.A.s, .slice m.A.A m.A.n m.A.c, .int .i64 m.A.e]] w fun e w' => e = .returned (.int .i64 k) ∧ Below w.heap.size w w' := by
  have HK := Lib.hid hk
  clear hk
  refine (callsIn_wide (n := 5)).1 ?_
  refine callsIn_of_wp_marks Tryd.func49 rfl trivial ?_ rfl
  simp only [Tryd.ntmps49, List.size_toArray, List.length_cons, List.length_nil, Nat.reduceAdd, Nat.reduceSub, Array.replicate_succ, Array.replicate_zero, List.push_toArray, List.append_toArray, List.nil_append, List.cons_append]
  gi_wp2_with fail
  refine ⟨trivial, (callsIn_wide.2 (parts_any _ _ _)).mono ?_⟩
  rintro e w2 ⟨rfl, rfl⟩
  gi_wp2_with fail
  obtain ⟨W0, hW0⟩ : ∃ W0, ((((w.alloc (.cells #[.bool m.S.s, .slice m.S.A m.S.n m.S.c, .int .i64 m.S.e, .bool m.W.s, .slice m.W.A m.W.n m.W.c, .int .i64 m.W.e, .bool m.C.s, .slice m.C.A m.C.n m.C.c, .int .i64 m.C.e, .bool m.A.s, .slice m.A.A m.A.n m.A.c, .int .i64 m.A.e] 39)).alloc (.cells #[.int .i64 0] 27)).alloc (.cells #[.pointer (some ⟨w.heap.size, 0, none⟩)] 104)).alloc (.cells #[.pointer (some ⟨w.heap.size, 0, none⟩)] 104)) = W0 := ⟨_, rfl⟩
  have hsz : W0.heap.size = w.heap.size + 4 := by rw [← hW0]; simp
  have hB0 : Below w.heap.size w W0 := by rw [← hW0]; exact ((((Below.refl _ w).alloc (Nat.le_refl _) _).alloc (by simp) _).alloc (by simp <;> omega) _).alloc (by simp <;> omega) _
  have hM0 : MBox W0 w.heap.size m := by rw [← hW0]; exact (Below.heap_alloc _ _ _ (by simp <;> omega)).trans ((Below.heap_alloc _ _ _ (by simp <;> omega)).trans ((Below.heap_alloc _ _ _ (by simp)).trans (heap_alloc_last _ _)))
  have hE0 : W0.heap[w.heap.size + 1]? = some (.cells #[.int .i64 0] 27 (0, 0)) := by rw [← hW0]; exact (Below.heap_alloc _ _ _ (by simp <;> omega)).trans ((Below.heap_alloc _ _ _ (by simp)).trans (heap_alloc2_new _ _ _))
  have hS0 : Two (w.heap.size + 1 + 1) (w.heap.size + 1 + 1 + 1) w.heap.size w.heap.size W0 := by
    rw [← hW0]
    refine ⟨(Below.heap_alloc _ _ _ (by simp)).trans ?_, ?_⟩
    · have := heap_alloc_last ((w.alloc (.cells #[.bool m.S.s, .slice m.S.A m.S.n m.S.c, .int .i64 m.S.e, .bool m.W.s, .slice m.W.A m.W.n m.W.c, .int .i64 m.W.e, .bool m.C.s, .slice m.C.A m.C.n m.C.c, .int .i64 m.C.e, .bool m.A.s, .slice m.A.A m.A.n m.A.c, .int .i64 m.A.e] 39)).alloc (.cells #[.int .i64 0] 27)) (.cells #[.pointer (some ⟨w.heap.size, 0, none⟩)] 104)
      simpa using this
    · have := heap_alloc_last (((w.alloc (.cells #[.bool m.S.s, .slice m.S.A m.S.n m.S.c, .int .i64 m.S.e, .bool m.W.s, .slice m.W.A m.W.n m.W.c, .int .i64 m.W.e, .bool m.C.s, .slice m.C.A m.C.n m.C.c, .int .i64 m.C.e, .bool m.A.s, .slice m.A.A m.A.n m.A.c, .int .i64 m.A.e] 39)).alloc (.cells #[.int .i64 0] 27)).alloc (.cells #[.pointer (some ⟨w.heap.size, 0, none⟩)] 104)) (.cells #[.pointer (some ⟨w.heap.size, 0, none⟩)] 104)
      simpa using this
  have HSZ := Lib.hid hsz
  have hlo : w.heap.size + 4 ≤ W0.heap.size := by omega
  have hhi : W0.heap.size ≤ w.heap.size + 4 := by omega
  rw [hW0]
  clear hW0 hsz
  refine wpIn_rangeFunc_sep2 (F := Fence.wide) rfl (by decide) (gf := 108) (lb := #[.pointer (some ⟨w.heap.size + 1 + 1, 0, none⟩), .pointer (some ⟨w.heap.size + 1 + 1 + 1, 0, none⟩)]) rfl trivial (enters_of Tryd.func108 (by kernel_rfl) rfl)
    (parts_seq _ _ _ _ _ W0 hS0) (by omega) (fun _ => rfl)
    (fun pre O W => O (w.heap.size + 1) ∧ (∀ x, x ∈ pre → x < 4 → (m.get x).may) ∧ MBox W w.heap.size m ∧ W.heap[w.heap.size + 1]? = some (.cells #[.int .i64 0] 27 (0, 0)) ∧ Below w.heap.size w W)
    (fun j pre O W => j = .ret ∧ (¬ m.may) ∧ W.heap[w.heap.size + 1]? = some (.cells #[.int .i64 8] 27 (0, 0)) ∧ Below w.heap.size w W)
    (fun O s A B row hs hg hr => ⟨hs.1, hs.2.1, heap_own hs.2.2.1 hg (fun r e => (hr r e).2), heap_own hs.2.2.2.1 hg (fun r e => (hr r e).2), hs.2.2.2.2.grown hg hs.2.2.2.2.size (fun k e => by have := (hr k e).1; omega)⟩)
    (fun j O s A B row hs hg hr => ⟨hs.1, hs.2.1, heap_own hs.2.2.1 hg (fun r e => (hr r e).2), hs.2.2.2.grown hg hs.2.2.2.size (fun k e => by have := (hr k e).1; omega)⟩)
    (fun s O A B row hs hg hr => ⟨hs.1, hs.2.1, heap_loose hs.2.2.1 hg hr (by omega), heap_loose hs.2.2.2.1 hg hr (by omega), below_loose hs.2.2.2.2 (Nat.le_refl _) hg hr (by omega)⟩)
    (fun j s O A B row hs hg hr => ⟨hs.1, hs.2.1, heap_loose hs.2.2.1 hg hr (by omega), below_loose hs.2.2.2 (Nat.le_refl _) hg hr (by omega)⟩)
    (fun k => k = w.heap.size + 1) (fun k hk e => by omega) (fun k e => by omega) ⟨rfl, (fun x hx => absurd hx (List.not_mem_nil)), hM0, hE0, hB0⟩
    (fun x a' W => a' = { tmps := #[.agg #[.bool m.S.s, .slice m.S.A m.S.n m.S.c, .int .i64 m.S.e, .bool m.W.s, .slice m.W.A m.W.n m.W.c, .int .i64 m.W.e, .bool m.C.s, .slice m.C.A m.C.n m.C.c, .int .i64 m.C.e, .bool m.A.s, .slice m.A.A m.A.n m.A.c, .int .i64 m.A.e], .pointer (some ⟨w.heap.size, 0, none⟩), .pointer (some ⟨w.heap.size + 1, 0, none⟩), .pointer (some ⟨w.heap.size, 3 * x, none⟩), undef,
      .func (.func 108) #[] #[.pointer (some ⟨w.heap.size + 1 + 1, 0, none⟩), .pointer (some ⟨w.heap.size + 1 + 1 + 1, 0, none⟩)], .pointer (some ⟨w.heap.size, 3 * x, none⟩), .pointer (some ⟨w.heap.size, 3 * x, none⟩), undef, undef, undef, undef, undef, undef, undef], defers := [] })
    (fun x a' _ _ _ _ h _ _ => h) ?assign ?body ?done ?stop
  case assign =>
    intro l pre x O W K hgx hsW hi hK
    unfold encM
    gi_wp2
    exact hK _ _ (KeepsFrom.refl _ _) (Gain.refl _ _) hi rfl
  case body =>
    rintro l pre x O a' W ⟨hx4, hpre⟩ hsW ⟨hO, hall, hM, hE, hb⟩ rfl _
    obtain ⟨⟨k1, k2, k3⟩, _⟩ := MBox.at_ hM hx4
    have hrow : Ints W 0 W.heap.size .u32 (m.get x).A (m.get x).n (m.get x).xs := ((hR.get x).below hb (Nat.le_refl _)).more (Nat.le_refl _) hb.size
    generalize hd : m.get x = d at k1 k2 k3 hrow
    have HD := Lib.hid hd
    clear hd
    obtain ⟨e1, e2⟩ := cells1 hE
    by_cases hm : d.may
    · have hc : chkX d.s d.xs d.e = 0 := if_pos hm
      have HC := Lib.hid hc
      have HM := Lib.hid hm
      clear hc hm
      gi_wp2_with fail
      refine ⟨trivial, (CallsIn.inRound l (callsIn_wide.2 (Check_all W d.s d.A d.n d.c d.xs d.e hrow 0 HC.out))).mono ?_⟩
      rintro e W2 ⟨rfl, hB⟩
      gi_wp2
      refine ⟨keeps_below hB, O, gain_below hB, hO, fun y hy hy4 => ?_, box_on hM hB (by omega), box_on hE hB (by omega), hb.trans (hB.mono hb.size)⟩
      rcases List.mem_append.1 hy with h | h
      · exact hall y h hy4
      · rw [List.mem_singleton.1 h, HD.out]
        exact HM.out
    · have hc : chkX d.s d.xs d.e = 8 := if_neg hm
      have HC := Lib.hid hc
      have HM := Lib.hid hm
      clear hc hm
      gi_wp2_with fail
      refine ⟨trivial, (CallsIn.inRound l (callsIn_wide.2 (Check_all W d.s d.A d.n d.c d.xs d.e hrow 8 HC.out))).mono ?_⟩
      rintro e W2 ⟨rfl, hB⟩
      have hE2 := box_on hE hB (by omega)
      obtain ⟨e3, e4⟩ := cells1 hE2
      clear e1 e2
      gi_wp2
      exact ⟨(keeps_below hB).trans ((KeepsOthers.setCell _ _ _).from _), O, (gain_below hB).trans (gain_set hO _), rfl, fun h => HM.out (by have := h x hx4; rw [HD.out] at this; exact this), set1 hE2 _, (hb.trans (hB.mono hb.size)).setCell (by simp) _⟩
  case done =>
    rintro D ys O W hD hS ⟨hO, hall, hM, hE, hb⟩ hK
    obtain ⟨e1, e2⟩ := cells1 hE
    have hm : m.may := fun x hx => hall x (by rw [hS]; simp; omega) hx
    have hk := HK.out
    rw [chkM, if_pos hm] at hk
    subst hk
    clear hm hS hall
    gi_wp2
    have hK' := (KeepsOthers.setCell W ⟨w.heap.size + 1, 0, none⟩ (.int .i64 0)).same D _ hK rfl
    have c1 := cells1 ((World.putObj_heap_other (o := .deferred none) (by omega : w.heap.size + 1 ≠ D)).trans (set1 hE (.int .i64 0)))
    refine ⟨by simp, .inl ⟨_, _, rfl, run_takeDeferred hK', ?_⟩⟩
    refine ⟨.int .i64 0, ?_, rfl, ?_⟩
    · simp [results, Tryd.f49, go_sem, c1.1]
    · exact (hb.setCell (by simp) _).trans (belowK_b (w := w) (Nat.le_refl _) _ D _ _ (by omega) hK' rfl rfl)
  case stop =>
    rintro D j pre O W hD hSp ⟨rfl, hm, hE, hb⟩ hK
    have hk := HK.out
    rw [chkM, if_neg hm] at hk
    subst hk
    gi_wp2
    have c1 := cells1 ((World.putObj_heap_other (o := .deferred none) (by omega : w.heap.size + 1 ≠ D)).trans hE)
    refine ⟨by simp, .inl ⟨_, _, rfl, run_takeDeferred hK, ?_⟩⟩
    refine ⟨.int .i64 8, ?_, rfl, ?_⟩
    · simp [results, Tryd.f49, go_sem, c1.1]
    · exact hb.trans (belowK_b (w := w) (Nat.le_refl _) _ D _ _ (by omega) hK rfl rfl)
end Ma
end Go.Proofs.YtlbkepiflhchdaaDoor
namespace Go.Proofs.YtlbkepiflhchdaaDoor
open Go.RowKit
namespace Dy
/-- The digits from place i on, below place t. -/
def part (l : List Int) (i t : Nat) : List Int := (l.take t).drop i
end Dy
end Go.Proofs.YtlbkepiflhchdaaDoor
namespace Go.Proofs.YtlbkepiflhchdaaDoor
open Go.RowKit
namespace Dy
open Dp
theorem box_put {w : World} {g : Nat} {x y z : Value} {t : TypeId} (h : w.heap[g]? = some (.cells #[x, y, z] t (0, 0))) (x' y' z' : Value) : (((w.setCell ⟨g, 0, none⟩ x').setCell ⟨g, 1, none⟩ y').setCell ⟨g, 2, none⟩ z').heap[g]? = some (.cells #[x', y', z'] t (0, 0)) := by
  simp [World.setCell, Array.getElem?_modify, h]
theorem below_put {w0 w : World} {B g : Nat} (h : Below B w0 w) (hg : B ≤ g) (x' y' z' : Value) : Below B w0 (((w.setCell ⟨g, 0, none⟩ x').setCell ⟨g, 1, none⟩ y').setCell ⟨g, 2, none⟩ z') := ((h.setCell hg _).setCell hg _).setCell hg _
theorem ints_put {w : World} {lo hi : Nat} {k : IntKind} {A : Option Addr} {n : Nat} {xs : List Int} (h : Ints w lo hi k A n xs) {g : Nat} (hg : g < lo ∨ hi ≤ g) (x' y' z' : Value) : Ints (((w.setCell ⟨g, 0, none⟩ x').setCell ⟨g, 1, none⟩ y').setCell ⟨g, 2, none⟩ z') lo hi k A n xs := ints_far (ints_far (ints_far h hg _) hg _) hg _
theorem size_put {w : World} {g : Nat} (x' y' z' : Value) : (((w.setCell ⟨g, 0, none⟩ x').setCell ⟨g, 1, none⟩ y').setCell ⟨g, 2, none⟩ z').heap.size = w.heap.size := by simp [World.setCell]
end Dy
end Go.Proofs.YtlbkepiflhchdaaDoor
namespace Go.Proofs.YtlbkepiflhchdaaDoor
open Go.RowKit
section
variable {P : Program} {os : List Oper} {Q : Exit → Act → World → Prop} {md : Region.Mode} {S : World → Prop} {E : List Nat}
/-- Three may come up: whichever. -/
theorem stepK3 {i j k n : Nat} {oi oj ok : Oper} {listed Li Lj Lk : Array Bool} {a : Act} {w : World} (hi : os[i]? = some oi) (hj : os[j]? = some oj) (hk : os[k]? = some ok) (hLi : listed.setIfInBounds i true = Li) (hLj : listed.setIfInBounds j true = Lj) (hLk : listed.setIfInBounds k true = Lk)
    (hr : Region.ready md os.toArray listed = [i, j, k]) (hwi : Region.wanted oi (yielded os.toArray a.tmps) = true) (hwj : Region.wanted oj (yielded os.toArray a.tmps) = true) (hwk : Region.wanted ok (yielded os.toArray a.tmps) = true)
    (h : ∀ K' : Act → World → Prop, Shut (∀ a w', ((E.contains i = false → S w → S w') ∧ wpAnyE P md os.toArray Q S E n Li a w') → K' a w') → Oper.wp P oi a w K' Q)
    (h' : ∀ K' : Act → World → Prop, Shut (∀ a w', ((E.contains j = false → S w → S w') ∧ wpAnyE P md os.toArray Q S E n Lj a w') → K' a w') → Oper.wp P oj a w K' Q)
    (h'' : ∀ K' : Act → World → Prop, Shut (∀ a w', ((E.contains k = false → S w → S w') ∧ wpAnyE P md os.toArray Q S E n Lk a w') → K' a w') → Oper.wp P ok a w K' Q) :
    wpAnyE P md os.toArray Q S E (n + 1) listed a w := by
  subst hLi
  subst hLj
  subst hLk
  refine ⟨fun h0 => (by rw [hr] at h0; cases h0), fun m hm => ?_⟩
  rw [hr] at hm
  simp only [List.mem_cons, List.not_mem_nil, or_false] at hm
  rcases hm with rfl | rfl | rfl
  · refine wpOp_step (by simpa using hi) (fun K' hK => ?_)
    rw [if_pos hwi]
    exact h K' hK
  · refine wpOp_step (by simpa using hj) (fun K' hK => ?_)
    rw [if_pos hwj]
    exact h' K' hK
  · refine wpOp_step (by simpa using hk) (fun K' hK => ?_)
    rw [if_pos hwk]
    exact h'' K' hK
end
end Go.Proofs.YtlbkepiflhchdaaDoor
