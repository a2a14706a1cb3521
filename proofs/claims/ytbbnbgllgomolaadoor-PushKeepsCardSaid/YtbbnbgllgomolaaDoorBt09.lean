/- Quotients of whole numbers: no program in sight. -/
/- Facts are moved along a chain of calls. No function in sight. -/
/- The reference's Minus and Add: walks (printed by a program of mine). -/
/- The parts of two masses, together: the iterator's contract (printed by a program of mine). -/
/- A mass's value and rows; mass.Check: a walk (printed by a program of mine). -/
/- mass.Same: a walk (printed by a program of mine). -/
/- mass.Twin: a walk (printed by a program of mine). -/
import Derived.Test.YtbbnbgllgomolaaDoorBt08
import Derived.Test.YtbbnbgllgomolaaDoorBt02
import Derived.Deep.DeepCutAuto
import Derived.Deep.CutRange
import Derived.Test.YtbbnbgllgomolaaDoorBt07
import Derived.Test.YtbbnbgllgomolaaDoorBt05
import Derived.Test.YtbbnbgllgomolaaDoorBt03
import Derived.Test.YtbbnbgllgomolaaDoorProg
namespace Go.Proofs.YtbbnbgllgomolaaDoor
namespace Dp
/-- A whole number. -/
def whole (z : Int) : Dn := ⟨decide (z < 0), z.natAbs, 0⟩
theorem whole_may {z : Int} (h0 : -9223372036854775808 ≤ z) (h1 : z ≤ 9223372036854775807) : (whole z).May := by
 refine ⟨capD_gt (k := 64) (show z.natAbs < 2 ^ 64 by omega) (by decide), Nat.zero_le _, fun h => ⟨rfl, ?_⟩, fun h => absurd h (Nat.lt_irrefl 0)⟩
 have h : z.natAbs = 0 := h
 exact decide_eq_false (by omega)
theorem vl_whole (z : Int) : vl (whole z) 0 = z := by
 unfold vl sg whole
 simp only [Nat.sub_self, Nat.pow_zero, Nat.mul_one]
 split
 · rename_i h
   have := of_decide_eq_true h
   omega
 · rename_i h
   have : ¬ z < 0 := fun k => h (decide_eq_true k)
   omega
theorem whole_of {s : Bool} {N : Nat} {z : Int} (h0 : -9223372036854775808 ≤ z) (h1 : z ≤ 9223372036854775807) (h : sg s N = z) : formed s N 0 = (whole z, 0) :=
 formed_of (K := 0) (whole_may h0 h1) (Nat.le_refl _) (Nat.le_refl _) (by rw [vl_whole, Nat.sub_self, Nat.pow_zero, Nat.mul_one, h])
end Dp
end Go.Proofs.YtbbnbgllgomolaaDoor
namespace Go.Proofs.YtbbnbgllgomolaaDoor
open Go.RowKit
namespace Dy
open Dp
theorem later {a b c : World} (h : Below a.heap.size a b) (k : Below b.heap.size b c) : Below a.heap.size a c := h.trans (k.mono h.size)
theorem lz {a b c : World} (h : Below a.heap.size a b) (k : Below b.heap.size b c) : Below a.heap.size a c := later h k
theorem box_later {w w' : World} {g : Nat} {o : Obj} (h : w.heap[g]? = some o) (hb : Below w.heap.size w w') (hg : g < w.heap.size) : w'.heap[g]? = some o := (hb.block g hg).trans h
theorem tab_later {w w' : World} (h : Tab w) (hb : Below w.heap.size w w') : Tab w' := h.below hb h.lt
end Dy
end Go.Proofs.YtbbnbgllgomolaaDoor
namespace Go.Proofs.YtbbnbgllgomolaaDoor
open Go.RowKit
namespace Dy
open Dp
theorem boxes2 (w : World) (o1 o2 : Obj) {w1 : World} (hw : (w.alloc o1).alloc o2 = w1) : w1.heap[w.heap.size]? = some o1 ∧ w1.heap[w.heap.size + 1]? = some o2 ∧ Below w.heap.size w w1 ∧ w.heap.size + 2 ≤ w1.heap.size ∧ w1.heap.size ≤ w.heap.size + 2 := by
 subst hw
 exact ⟨by rw [Below.heap_alloc _ _ _ (by simp)]; exact heap_alloc_last _ _, heap_alloc2_new _ _ _, ((Below.refl _ w).alloc (Nat.le_refl _) _).alloc (by simp) _, by simp, by simp⟩
theorem boxes3 (w : World) (o1 o2 o3 : Obj) {w1 : World} (hw : ((w.alloc o1).alloc o2).alloc o3 = w1) : w1.heap[w.heap.size]? = some o1 ∧ w1.heap[w.heap.size + 1]? = some o2 ∧ w1.heap[w.heap.size + 1 + 1]? = some o3 ∧ Below w.heap.size w w1 ∧ w.heap.size + 3 ≤ w1.heap.size ∧ w1.heap.size ≤ w.heap.size + 3 := by
 obtain ⟨h1, h2, h3, h4, h5⟩ := boxes2 w o1 o2 rfl
 subst hw
 refine ⟨(Below.heap_alloc _ _ _ (by omega)).trans h1, (Below.heap_alloc _ _ _ (by omega)).trans h2, ?_, h3.alloc (by omega) _, by simp, by simp⟩
 have e : w.heap.size + 1 + 1 = ((w.alloc o1).alloc o2).heap.size := by omega
 rw [e]
 exact heap_alloc_last _ _
end Dy
end Go.Proofs.YtbbnbgllgomolaaDoor
namespace Go.Proofs.YtbbnbgllgomolaaDoor
open Go.RowKit
namespace Ma
attribute [local go_sem] Oper.semAt_some
theorem lt_of_heap {W : World} {g : Nat} {o : Obj} (h : W.heap[g]? = some o) : g < W.heap.size := (Array.getElem?_eq_some_iff.1 h).1
theorem cells1 {w : World} {g : Nat} {x : Value} {t : TypeId} (h : w.heap[g]? = some (.cells #[x] t (0, 0))) : w.cell? ⟨g, 0, none⟩ = some x ∧ w.frozen? ⟨g, 0, none⟩ = false :=
 ⟨cell_of_row w g 0 _ t _ h, frozen_of_row w g 0 _ t h⟩
/-- What the k-th round is handed. -/
def encM (ma mb : Nat) (k : Nat) : Array Value := #[.pointer (some ⟨ma, 3 * k, none⟩), .pointer (some ⟨mb, 3 * k, none⟩)]
/-- The two boxes that the iterator reads. -/
def Two (ga gb ma mb : Nat) (W : World) : Prop := W.heap[ga]? = some (.cells #[.pointer (some ⟨ma, 0, none⟩)] 86 (0, 0)) ∧ W.heap[gb]? = some (.cells #[.pointer (some ⟨mb, 0, none⟩)] 86 (0, 0))
/-- The k-th one comes behind the first k. -/
def Nxt (pre : List Nat) (x : Nat) : Prop := x < 4 ∧ pre = List.range x
def Pre (pre : List Nat) : Prop := pre = [0] ∨ pre = [0, 1] ∨ pre = [0, 1, 2] ∨ pre = [0, 1, 2, 3]
theorem drew_grown (W : World) : W.grownBy W.drew none := ⟨rfl, rfl, rfl, Nat.le_refl _, fun _ _ _ => rfl⟩
set_option maxRecDepth 100000 in
set_option maxHeartbeats 6400000 in
/-- mass.parts's closure. -/
theorem parts1_in (m l ga gb ma mb : Nat) (J Jx : List Nat → (Nat → Prop) → World → Prop) (gl : Nat) (hJ : Loose gl J)
  (hY : ∀ pre x O W1, Nxt pre x → J pre O W1 → pre.length < 4 → YieldAt Fence.wide (m - 1) Tryd.prog l (encM ma mb x) W1 fun e W' =>
   (e = .returned (.bool true) ∧ ∃ O', J (pre ++ [x]) O' W' ∧ Gain O O' W1 W') ∨ (e = .returned (.bool false) ∧ ∃ O', Jx (pre ++ [x]) O' W' ∧ Gain O O' W1 W'))
  (O0 : Nat → Prop) (W : World) (hS : Two ga gb ma mb W) (ha0 : ¬ O0 ga) (hb0 : ¬ O0 gb) (h0 : J [] O0 W) :
  CallsIn Fence.wide m Tryd.prog 80 #[.func (.yield l) #[] #[], .pointer (some ⟨ga, 0, none⟩), .pointer (some ⟨gb, 0, none⟩)] W fun e W' => (∃ v, e = .returned v) ∧
   ((∃ ys O, ys = [0, 1, 2, 3] ∧ J ys O W') ∨ (∃ pre O, Pre pre ∧ Jx pre O W')) := by
 have mixed : Tryd.prog.follows .mixedOrders = true := by kernel_rfl
 refine callsIn_of_wp Tryd.func80 rfl trivial ?_ rfl
 simp only [Tryd.ntmps80, List.size_toArray, List.length_cons, List.length_nil, Nat.reduceAdd, Nat.reduceSub, Array.replicate_succ, Array.replicate_zero, List.push_toArray, List.append_toArray, List.nil_append, List.cons_append]
 have hj : J [] O0 W.drew := hJ _ _ _ _ none h0 (drew_grown W) (fun _ h => by cases h)
 have hs : Two ga gb ma mb W.drew := hS
 clear h0
 refine region_J (Two ga gb ma mb) [] (m := 38) (L := #[zF,zF,zF,zF,zF,zF,zF,zF,zF,zF,zF,zF,zF,zF,zF,zF,zF,zF,zF,zF,zF,zF,zF,zF,zF,zF,zF,zF,zF,zF,zF,zF,zF,zF,zF,zF,zF,zF]) (by kernel_rfl) (by rfl) (by rfl) ?_
 generalize W.drew = W0 at *
 refine pureJ (i := 0) (L := #[zT,zF,zF,zF,zF,zF,zF,zF,zF,zF,zF,zF,zF,zF,zF,zF,zF,zF,zF,zF,zF,zF,zF,zF,zF,zF,zF,zF,zF,zF,zF,zF,zF,zF,zF,zF,zF,zF]) (v := ?_) rfl (by rfl) (by kernel_rfl) (by kernel_rfl) (by kernel_rfl) (fun _ _ _ h => h) (by rfl) ?hy1 ?rest1
 case hy1 => intro w; go_simp; (try with_reducible rfl)
 try simp only [Act.put, zp]
 refine readJ (i := 1) (L := #[zT,zT,zF,zF,zF,zF,zF,zF,zF,zF,zF,zF,zF,zF,zF,zF,zF,zF,zF,zF,zF,zF,zF,zF,zF,zF,zF,zF,zF,zF,zF,zF,zF,zF,zF,zF,zF,zF]) (v := .pointer (some ⟨ma, 0, none⟩)) rfl (by rfl) (by kernel_rfl) (by kernel_rfl) (by kernel_rfl) (fun _ _ _ h => h) (by assumption) (by rfl) ?ry1 ?rr1
 case ry1 =>
  intro w' h1
  obtain ⟨⟨k1, _⟩, k2, _⟩ := And.intro (cells1 h1.1) (cells1 h1.2)
  go_simp
 try simp only [Act.put, zp]
 refine pureJ (i := 2) (L := #[zT,zT,zT,zF,zF,zF,zF,zF,zF,zF,zF,zF,zF,zF,zF,zF,zF,zF,zF,zF,zF,zF,zF,zF,zF,zF,zF,zF,zF,zF,zF,zF,zF,zF,zF,zF,zF,zF]) (v := ?_) rfl (by rfl) (by kernel_rfl) (by kernel_rfl) (by kernel_rfl) (fun _ _ _ h => h) (by rfl) ?hy3 ?rest3
 case hy3 => intro w; go_simp; (try with_reducible rfl)
 try simp only [Act.put, zp]
 refine pureJ (i := 3) (L := #[zT,zT,zT,zT,zF,zF,zF,zF,zF,zF,zF,zF,zF,zF,zF,zF,zF,zF,zF,zF,zF,zF,zF,zF,zF,zF,zF,zF,zF,zF,zF,zF,zF,zF,zF,zF,zF,zF]) (v := ?_) rfl (by rfl) (by kernel_rfl) (by kernel_rfl) (by kernel_rfl) (fun _ _ _ h => h) (by rfl) ?hy4 ?rest4
 case hy4 => intro w; go_simp; (try with_reducible rfl)
 try simp only [Act.put, zp]
 refine readJ (i := 4) (L := #[zT,zT,zT,zT,zT,zF,zF,zF,zF,zF,zF,zF,zF,zF,zF,zF,zF,zF,zF,zF,zF,zF,zF,zF,zF,zF,zF,zF,zF,zF,zF,zF,zF,zF,zF,zF,zF,zF]) (v := .pointer (some ⟨mb, 0, none⟩)) rfl (by rfl) (by kernel_rfl) (by kernel_rfl) (by kernel_rfl) (fun _ _ _ h => h) (by assumption) (by rfl) ?ry4 ?rr4
 case ry4 =>
  intro w' h1
  obtain ⟨⟨k1, _⟩, k2, _⟩ := And.intro (cells1 h1.1) (cells1 h1.2)
  go_simp
 try simp only [Act.put, zp]
 refine pureJ (i := 5) (L := #[zT,zT,zT,zT,zT,zT,zF,zF,zF,zF,zF,zF,zF,zF,zF,zF,zF,zF,zF,zF,zF,zF,zF,zF,zF,zF,zF,zF,zF,zF,zF,zF,zF,zF,zF,zF,zF,zF]) (v := ?_) rfl (by rfl) (by kernel_rfl) (by kernel_rfl) (by kernel_rfl) (fun _ _ _ h => h) (by rfl) ?hy6 ?rest6
 case hy6 => intro w; go_simp; (try with_reducible rfl)
 try simp only [Act.put, zp]
 refine pureJ (i := 6) (L := #[zT,zT,zT,zT,zT,zT,zT,zF,zF,zF,zF,zF,zF,zF,zF,zF,zF,zF,zF,zF,zF,zF,zF,zF,zF,zF,zF,zF,zF,zF,zF,zF,zF,zF,zF,zF,zF,zF]) (v := ?_) rfl (by rfl) (by kernel_rfl) (by kernel_rfl) (by kernel_rfl) (fun _ _ _ h => h) (by rfl) ?hy7 ?rest7
 case hy7 => intro w; go_simp; (try with_reducible rfl)
 try simp only [Act.put, zp]
 obtain ⟨fn, tmps, assign, body, hy, hR⟩ := hY [] 0 O0 W0 ⟨by decide, by decide⟩ hj (by decide)
 unfold encM at hy
 (try dsimp only at hy)
 (try simp only [Nat.reduceMul] at hy)
 refine stepKJ (i := 7) (L := #[zT,zT,zT,zT,zT,zT,zT,zT,zF,zF,zF,zF,zF,zF,zF,zF,zF,zF,zF,zF,zF,zF,zF,zF,zF,zF,zF,zF,zF,zF,zF,zF,zF,zF,zF,zF,zF,zF]) rfl (by rfl) (by kernel_rfl) (by rfl) (fun K hK => ?_)
 go_simp
 gi_wp2_with fail
 refine ⟨(fun h => by cases h), hR.mono ?_⟩
 clear hy hR
 rintro e W1 (⟨rfl, O1, hj1, hG⟩ | ⟨rfl, O1, hx1, hG⟩)
 · have hs1 : Two ga gb ma mb W1 := ⟨hG.same _ _ _ _ ha0 hs.1, hG.same _ _ _ _ hb0 hs.2⟩
   have ha1 : ¬ O1 ga := fun h => by
    rcases hG.new _ h with h | h
    · exact ha0 h
    · have := lt_of_heap hs.1
      omega
   have hb1 : ¬ O1 gb := fun h => by
    rcases hG.new _ h with h | h
    · exact hb0 h
    · have := lt_of_heap hs.2
      omega
   go_simp
   refine hK _ _ ⟨fun _ _ => hs1, ?_⟩
   clear hK K hG hs ha0 hb0 hj
   have hs := hs1
   have ha0 := ha1
   have hb0 := hb1
   have hj := hj1
   clear hs1 ha1 hb1 hj1
   try simp only [Act.put, zp]
   refine pureJ (i := 8) (L := #[zT,zT,zT,zT,zT,zT,zT,zT,zT,zF,zF,zF,zF,zF,zF,zF,zF,zF,zF,zF,zF,zF,zF,zF,zF,zF,zF,zF,zF,zF,zF,zF,zF,zF,zF,zF,zF,zF]) (v := ?_) rfl (by rfl) (by kernel_rfl) (by kernel_rfl) (by kernel_rfl) (fun _ _ _ h => h) (by rfl) ?hy9 ?rest9
   case hy9 => intro w; go_simp; (try with_reducible rfl)
   try simp only [Act.put, zp]
   refine pureJ (i := 9) (L := #[zT,zT,zT,zT,zT,zT,zT,zT,zT,zT,zF,zF,zF,zF,zF,zF,zF,zF,zF,zF,zF,zF,zF,zF,zF,zF,zF,zF,zF,zF,zF,zF,zF,zF,zF,zF,zF,zF]) (v := ?_) rfl (by rfl) (by kernel_rfl) (by kernel_rfl) (by kernel_rfl) (fun _ _ _ h => h) (by rfl) ?hy10 ?rest10
   case hy10 => intro w; go_simp; (try with_reducible rfl)
   try simp only [Act.put, zp]
   refine readJ (i := 10) (L := #[zT,zT,zT,zT,zT,zT,zT,zT,zT,zT,zT,zF,zF,zF,zF,zF,zF,zF,zF,zF,zF,zF,zF,zF,zF,zF,zF,zF,zF,zF,zF,zF,zF,zF,zF,zF,zF,zF]) (v := .pointer (some ⟨ma, 0, none⟩)) rfl (by rfl) (by kernel_rfl) (by kernel_rfl) (by kernel_rfl) (fun _ _ _ h => h) (by assumption) (by rfl) ?ry10 ?rr10
   case ry10 =>
    intro w' h1
    obtain ⟨⟨k1, _⟩, k2, _⟩ := And.intro (cells1 h1.1) (cells1 h1.2)
    go_simp
   try simp only [Act.put, zp]
   refine pureJ (i := 11) (L := #[zT,zT,zT,zT,zT,zT,zT,zT,zT,zT,zT,zT,zF,zF,zF,zF,zF,zF,zF,zF,zF,zF,zF,zF,zF,zF,zF,zF,zF,zF,zF,zF,zF,zF,zF,zF,zF,zF]) (v := ?_) rfl (by rfl) (by kernel_rfl) (by kernel_rfl) (by kernel_rfl) (fun _ _ _ h => h) (by rfl) ?hy12 ?rest12
   case hy12 => intro w; go_simp; (try with_reducible rfl)
   try simp only [Act.put, zp]
   refine pureJ (i := 12) (L := #[zT,zT,zT,zT,zT,zT,zT,zT,zT,zT,zT,zT,zT,zF,zF,zF,zF,zF,zF,zF,zF,zF,zF,zF,zF,zF,zF,zF,zF,zF,zF,zF,zF,zF,zF,zF,zF,zF]) (v := ?_) rfl (by rfl) (by kernel_rfl) (by kernel_rfl) (by kernel_rfl) (fun _ _ _ h => h) (by rfl) ?hy13 ?rest13
   case hy13 => intro w; go_simp; (try with_reducible rfl)
   try simp only [Act.put, zp]
   refine readJ (i := 13) (L := #[zT,zT,zT,zT,zT,zT,zT,zT,zT,zT,zT,zT,zT,zT,zF,zF,zF,zF,zF,zF,zF,zF,zF,zF,zF,zF,zF,zF,zF,zF,zF,zF,zF,zF,zF,zF,zF,zF]) (v := .pointer (some ⟨mb, 0, none⟩)) rfl (by rfl) (by kernel_rfl) (by kernel_rfl) (by kernel_rfl) (fun _ _ _ h => h) (by assumption) (by rfl) ?ry13 ?rr13
   case ry13 =>
    intro w' h1
    obtain ⟨⟨k1, _⟩, k2, _⟩ := And.intro (cells1 h1.1) (cells1 h1.2)
    go_simp
   try simp only [Act.put, zp]
   refine pureJ (i := 14) (L := #[zT,zT,zT,zT,zT,zT,zT,zT,zT,zT,zT,zT,zT,zT,zT,zF,zF,zF,zF,zF,zF,zF,zF,zF,zF,zF,zF,zF,zF,zF,zF,zF,zF,zF,zF,zF,zF,zF]) (v := ?_) rfl (by rfl) (by kernel_rfl) (by kernel_rfl) (by kernel_rfl) (fun _ _ _ h => h) (by rfl) ?hy15 ?rest15
   case hy15 => intro w; go_simp; (try with_reducible rfl)
   try simp only [Act.put, zp]
   refine pureJ (i := 15) (L := #[zT,zT,zT,zT,zT,zT,zT,zT,zT,zT,zT,zT,zT,zT,zT,zT,zF,zF,zF,zF,zF,zF,zF,zF,zF,zF,zF,zF,zF,zF,zF,zF,zF,zF,zF,zF,zF,zF]) (v := ?_) rfl (by rfl) (by kernel_rfl) (by kernel_rfl) (by kernel_rfl) (fun _ _ _ h => h) (by rfl) ?hy16 ?rest16
   case hy16 => intro w; go_simp; (try with_reducible rfl)
   try simp only [Act.put, zp]
   obtain ⟨fn, tmps, assign, body, hy, hR⟩ := hY [0] 1 O1 W1 ⟨by decide, by decide⟩ hj (by decide)
   unfold encM at hy
   (try dsimp only at hy)
   (try simp only [Nat.reduceMul] at hy)
   refine stepKJ (i := 16) (L := #[zT,zT,zT,zT,zT,zT,zT,zT,zT,zT,zT,zT,zT,zT,zT,zT,zT,zF,zF,zF,zF,zF,zF,zF,zF,zF,zF,zF,zF,zF,zF,zF,zF,zF,zF,zF,zF,zF]) rfl (by rfl) (by kernel_rfl) (by rfl) (fun K hK => ?_)
   go_simp
   gi_wp2_with fail
   refine ⟨(fun h => by cases h), hR.mono ?_⟩
   clear hy hR
   rintro e W2 (⟨rfl, O2, hj2, hG⟩ | ⟨rfl, O2, hx2, hG⟩)
   · have hs2 : Two ga gb ma mb W2 := ⟨hG.same _ _ _ _ ha0 hs.1, hG.same _ _ _ _ hb0 hs.2⟩
     have ha2 : ¬ O2 ga := fun h => by
      rcases hG.new _ h with h | h
      · exact ha0 h
      · have := lt_of_heap hs.1
        omega
     have hb2 : ¬ O2 gb := fun h => by
      rcases hG.new _ h with h | h
      · exact hb0 h
      · have := lt_of_heap hs.2
        omega
     go_simp
     refine hK _ _ ⟨fun _ _ => hs2, ?_⟩
     clear hK K hG hs ha0 hb0 hj
     have hs := hs2
     have ha0 := ha2
     have hb0 := hb2
     have hj := hj2
     clear hs2 ha2 hb2 hj2
     try simp only [Act.put, zp]
     refine pureJ (i := 17) (L := #[zT,zT,zT,zT,zT,zT,zT,zT,zT,zT,zT,zT,zT,zT,zT,zT,zT,zT,zF,zF,zF,zF,zF,zF,zF,zF,zF,zF,zF,zF,zF,zF,zF,zF,zF,zF,zF,zF]) (v := ?_) rfl (by rfl) (by kernel_rfl) (by kernel_rfl) (by kernel_rfl) (fun _ _ _ h => h) (by rfl) ?hy18 ?rest18
     case hy18 => intro w; go_simp; (try with_reducible rfl)
     try simp only [Act.put, zp]
     refine pureJ (i := 18) (L := #[zT,zT,zT,zT,zT,zT,zT,zT,zT,zT,zT,zT,zT,zT,zT,zT,zT,zT,zT,zF,zF,zF,zF,zF,zF,zF,zF,zF,zF,zF,zF,zF,zF,zF,zF,zF,zF,zF]) (v := ?_) rfl (by rfl) (by kernel_rfl) (by kernel_rfl) (by kernel_rfl) (fun _ _ _ h => h) (by rfl) ?hy19 ?rest19
     case hy19 => intro w; go_simp; (try with_reducible rfl)
     try simp only [Act.put, zp]
     refine pureJ (i := 19) (L := #[zT,zT,zT,zT,zT,zT,zT,zT,zT,zT,zT,zT,zT,zT,zT,zT,zT,zT,zT,zT,zF,zF,zF,zF,zF,zF,zF,zF,zF,zF,zF,zF,zF,zF,zF,zF,zF,zF]) (v := ?_) rfl (by rfl) (by kernel_rfl) (by kernel_rfl) (by kernel_rfl) (fun _ _ _ h => h) (by rfl) ?hy20 ?rest20
     case hy20 => intro w; go_simp; (try with_reducible rfl)
     try simp only [Act.put, zp]
     refine readJ (i := 20) (L := #[zT,zT,zT,zT,zT,zT,zT,zT,zT,zT,zT,zT,zT,zT,zT,zT,zT,zT,zT,zT,zT,zF,zF,zF,zF,zF,zF,zF,zF,zF,zF,zF,zF,zF,zF,zF,zF,zF]) (v := .pointer (some ⟨ma, 0, none⟩)) rfl (by rfl) (by kernel_rfl) (by kernel_rfl) (by kernel_rfl) (fun _ _ _ h => h) (by assumption) (by rfl) ?ry20 ?rr20
     case ry20 =>
      intro w' h1
      obtain ⟨⟨k1, _⟩, k2, _⟩ := And.intro (cells1 h1.1) (cells1 h1.2)
      go_simp
     try simp only [Act.put, zp]
     refine pureJ (i := 21) (L := #[zT,zT,zT,zT,zT,zT,zT,zT,zT,zT,zT,zT,zT,zT,zT,zT,zT,zT,zT,zT,zT,zT,zF,zF,zF,zF,zF,zF,zF,zF,zF,zF,zF,zF,zF,zF,zF,zF]) (v := ?_) rfl (by rfl) (by kernel_rfl) (by kernel_rfl) (by kernel_rfl) (fun _ _ _ h => h) (by rfl) ?hy22 ?rest22
     case hy22 => intro w; go_simp; (try with_reducible rfl)
     try simp only [Act.put, zp]
     refine pureJ (i := 22) (L := #[zT,zT,zT,zT,zT,zT,zT,zT,zT,zT,zT,zT,zT,zT,zT,zT,zT,zT,zT,zT,zT,zT,zT,zF,zF,zF,zF,zF,zF,zF,zF,zF,zF,zF,zF,zF,zF,zF]) (v := ?_) rfl (by rfl) (by kernel_rfl) (by kernel_rfl) (by kernel_rfl) (fun _ _ _ h => h) (by rfl) ?hy23 ?rest23
     case hy23 => intro w; go_simp; (try with_reducible rfl)
     try simp only [Act.put, zp]
     refine readJ (i := 23) (L := #[zT,zT,zT,zT,zT,zT,zT,zT,zT,zT,zT,zT,zT,zT,zT,zT,zT,zT,zT,zT,zT,zT,zT,zT,zF,zF,zF,zF,zF,zF,zF,zF,zF,zF,zF,zF,zF,zF]) (v := .pointer (some ⟨mb, 0, none⟩)) rfl (by rfl) (by kernel_rfl) (by kernel_rfl) (by kernel_rfl) (fun _ _ _ h => h) (by assumption) (by rfl) ?ry23 ?rr23
     case ry23 =>
      intro w' h1
      obtain ⟨⟨k1, _⟩, k2, _⟩ := And.intro (cells1 h1.1) (cells1 h1.2)
      go_simp
     try simp only [Act.put, zp]
     refine pureJ (i := 24) (L := #[zT,zT,zT,zT,zT,zT,zT,zT,zT,zT,zT,zT,zT,zT,zT,zT,zT,zT,zT,zT,zT,zT,zT,zT,zT,zF,zF,zF,zF,zF,zF,zF,zF,zF,zF,zF,zF,zF]) (v := ?_) rfl (by rfl) (by kernel_rfl) (by kernel_rfl) (by kernel_rfl) (fun _ _ _ h => h) (by rfl) ?hy25 ?rest25
     case hy25 => intro w; go_simp; (try with_reducible rfl)
     try simp only [Act.put, zp]
     refine pureJ (i := 25) (L := #[zT,zT,zT,zT,zT,zT,zT,zT,zT,zT,zT,zT,zT,zT,zT,zT,zT,zT,zT,zT,zT,zT,zT,zT,zT,zT,zF,zF,zF,zF,zF,zF,zF,zF,zF,zF,zF,zF]) (v := ?_) rfl (by rfl) (by kernel_rfl) (by kernel_rfl) (by kernel_rfl) (fun _ _ _ h => h) (by rfl) ?hy26 ?rest26
     case hy26 => intro w; go_simp; (try with_reducible rfl)
     try simp only [Act.put, zp]
     obtain ⟨fn, tmps, assign, body, hy, hR⟩ := hY [0, 1] 2 O2 W2 ⟨by decide, by decide⟩ hj (by decide)
     unfold encM at hy
     (try dsimp only at hy)
     (try simp only [Nat.reduceMul] at hy)
     refine stepKJ (i := 26) (L := #[zT,zT,zT,zT,zT,zT,zT,zT,zT,zT,zT,zT,zT,zT,zT,zT,zT,zT,zT,zT,zT,zT,zT,zT,zT,zT,zT,zF,zF,zF,zF,zF,zF,zF,zF,zF,zF,zF]) rfl (by rfl) (by kernel_rfl) (by rfl) (fun K hK => ?_)
     go_simp
     gi_wp2_with fail
     refine ⟨(fun h => by cases h), hR.mono ?_⟩
     clear hy hR
     rintro e W3 (⟨rfl, O3, hj3, hG⟩ | ⟨rfl, O3, hx3, hG⟩)
     · have hs3 : Two ga gb ma mb W3 := ⟨hG.same _ _ _ _ ha0 hs.1, hG.same _ _ _ _ hb0 hs.2⟩
       have ha3 : ¬ O3 ga := fun h => by
        rcases hG.new _ h with h | h
        · exact ha0 h
        · have := lt_of_heap hs.1
          omega
       have hb3 : ¬ O3 gb := fun h => by
        rcases hG.new _ h with h | h
        · exact hb0 h
        · have := lt_of_heap hs.2
          omega
       go_simp
       refine hK _ _ ⟨fun _ _ => hs3, ?_⟩
       clear hK K hG hs ha0 hb0 hj
       have hs := hs3
       have ha0 := ha3
       have hb0 := hb3
       have hj := hj3
       clear hs3 ha3 hb3 hj3
       try simp only [Act.put, zp]
       refine pureJ (i := 27) (L := #[zT,zT,zT,zT,zT,zT,zT,zT,zT,zT,zT,zT,zT,zT,zT,zT,zT,zT,zT,zT,zT,zT,zT,zT,zT,zT,zT,zT,zF,zF,zF,zF,zF,zF,zF,zF,zF,zF]) (v := ?_) rfl (by rfl) (by kernel_rfl) (by kernel_rfl) (by kernel_rfl) (fun _ _ _ h => h) (by rfl) ?hy28 ?rest28
       case hy28 => intro w; go_simp; (try with_reducible rfl)
       try simp only [Act.put, zp]
       refine pureJ (i := 28) (L := #[zT,zT,zT,zT,zT,zT,zT,zT,zT,zT,zT,zT,zT,zT,zT,zT,zT,zT,zT,zT,zT,zT,zT,zT,zT,zT,zT,zT,zT,zF,zF,zF,zF,zF,zF,zF,zF,zF]) (v := ?_) rfl (by rfl) (by kernel_rfl) (by kernel_rfl) (by kernel_rfl) (fun _ _ _ h => h) (by rfl) ?hy29 ?rest29
       case hy29 => intro w; go_simp; (try with_reducible rfl)
       try simp only [Act.put, zp]
       refine pureJ (i := 29) (L := #[zT,zT,zT,zT,zT,zT,zT,zT,zT,zT,zT,zT,zT,zT,zT,zT,zT,zT,zT,zT,zT,zT,zT,zT,zT,zT,zT,zT,zT,zT,zF,zF,zF,zF,zF,zF,zF,zF]) (v := ?_) rfl (by rfl) (by kernel_rfl) (by kernel_rfl) (by kernel_rfl) (fun _ _ _ h => h) (by rfl) ?hy30 ?rest30
       case hy30 => intro w; go_simp; (try with_reducible rfl)
       try simp only [Act.put, zp]
       refine readJ (i := 30) (L := #[zT,zT,zT,zT,zT,zT,zT,zT,zT,zT,zT,zT,zT,zT,zT,zT,zT,zT,zT,zT,zT,zT,zT,zT,zT,zT,zT,zT,zT,zT,zT,zF,zF,zF,zF,zF,zF,zF]) (v := .pointer (some ⟨ma, 0, none⟩)) rfl (by rfl) (by kernel_rfl) (by kernel_rfl) (by kernel_rfl) (fun _ _ _ h => h) (by assumption) (by rfl) ?ry30 ?rr30
       case ry30 =>
        intro w' h1
        obtain ⟨⟨k1, _⟩, k2, _⟩ := And.intro (cells1 h1.1) (cells1 h1.2)
        go_simp
       try simp only [Act.put, zp]
       refine pureJ (i := 31) (L := #[zT,zT,zT,zT,zT,zT,zT,zT,zT,zT,zT,zT,zT,zT,zT,zT,zT,zT,zT,zT,zT,zT,zT,zT,zT,zT,zT,zT,zT,zT,zT,zT,zF,zF,zF,zF,zF,zF]) (v := ?_) rfl (by rfl) (by kernel_rfl) (by kernel_rfl) (by kernel_rfl) (fun _ _ _ h => h) (by rfl) ?hy32 ?rest32
       case hy32 => intro w; go_simp; (try with_reducible rfl)
       try simp only [Act.put, zp]
       refine pureJ (i := 32) (L := #[zT,zT,zT,zT,zT,zT,zT,zT,zT,zT,zT,zT,zT,zT,zT,zT,zT,zT,zT,zT,zT,zT,zT,zT,zT,zT,zT,zT,zT,zT,zT,zT,zT,zF,zF,zF,zF,zF]) (v := ?_) rfl (by rfl) (by kernel_rfl) (by kernel_rfl) (by kernel_rfl) (fun _ _ _ h => h) (by rfl) ?hy33 ?rest33
       case hy33 => intro w; go_simp; (try with_reducible rfl)
       try simp only [Act.put, zp]
       refine readJ (i := 33) (L := #[zT,zT,zT,zT,zT,zT,zT,zT,zT,zT,zT,zT,zT,zT,zT,zT,zT,zT,zT,zT,zT,zT,zT,zT,zT,zT,zT,zT,zT,zT,zT,zT,zT,zT,zF,zF,zF,zF]) (v := .pointer (some ⟨mb, 0, none⟩)) rfl (by rfl) (by kernel_rfl) (by kernel_rfl) (by kernel_rfl) (fun _ _ _ h => h) (by assumption) (by rfl) ?ry33 ?rr33
       case ry33 =>
        intro w' h1
        obtain ⟨⟨k1, _⟩, k2, _⟩ := And.intro (cells1 h1.1) (cells1 h1.2)
        go_simp
       try simp only [Act.put, zp]
       refine pureJ (i := 34) (L := #[zT,zT,zT,zT,zT,zT,zT,zT,zT,zT,zT,zT,zT,zT,zT,zT,zT,zT,zT,zT,zT,zT,zT,zT,zT,zT,zT,zT,zT,zT,zT,zT,zT,zT,zT,zF,zF,zF]) (v := ?_) rfl (by rfl) (by kernel_rfl) (by kernel_rfl) (by kernel_rfl) (fun _ _ _ h => h) (by rfl) ?hy35 ?rest35
       case hy35 => intro w; go_simp; (try with_reducible rfl)
       try simp only [Act.put, zp]
       refine pureJ (i := 35) (L := #[zT,zT,zT,zT,zT,zT,zT,zT,zT,zT,zT,zT,zT,zT,zT,zT,zT,zT,zT,zT,zT,zT,zT,zT,zT,zT,zT,zT,zT,zT,zT,zT,zT,zT,zT,zT,zF,zF]) (v := ?_) rfl (by rfl) (by kernel_rfl) (by kernel_rfl) (by kernel_rfl) (fun _ _ _ h => h) (by rfl) ?hy36 ?rest36
       case hy36 => intro w; go_simp; (try with_reducible rfl)
       try simp only [Act.put, zp]
       obtain ⟨fn, tmps, assign, body, hy, hR⟩ := hY [0, 1, 2] 3 O3 W3 ⟨by decide, by decide⟩ hj (by decide)
       unfold encM at hy
       (try dsimp only at hy)
       (try simp only [Nat.reduceMul] at hy)
       refine stepKJ (i := 36) (L := #[zT,zT,zT,zT,zT,zT,zT,zT,zT,zT,zT,zT,zT,zT,zT,zT,zT,zT,zT,zT,zT,zT,zT,zT,zT,zT,zT,zT,zT,zT,zT,zT,zT,zT,zT,zT,zT,zF]) rfl (by rfl) (by kernel_rfl) (by rfl) (fun K hK => ?_)
       go_simp
       gi_wp2_with fail
       refine ⟨(fun h => by cases h), hR.mono ?_⟩
       clear hy hR
       rintro e W4 (⟨rfl, O4, hj4, hG⟩ | ⟨rfl, O4, hx4, hG⟩)
       · have hs4 : Two ga gb ma mb W4 := ⟨hG.same _ _ _ _ ha0 hs.1, hG.same _ _ _ _ hb0 hs.2⟩
         have ha4 : ¬ O4 ga := fun h => by
          rcases hG.new _ h with h | h
          · exact ha0 h
          · have := lt_of_heap hs.1
            omega
         have hb4 : ¬ O4 gb := fun h => by
          rcases hG.new _ h with h | h
          · exact hb0 h
          · have := lt_of_heap hs.2
            omega
         go_simp
         refine hK _ _ ⟨fun _ _ => hs4, ?_⟩
         clear hK K hG hs ha0 hb0 hj
         have hs := hs4
         have ha0 := ha4
         have hb0 := hb4
         have hj := hj4
         clear hs4 ha4 hb4 hj4
         try simp only [Act.put, zp]
         refine pureJ (i := 37) (L := #[zT,zT,zT,zT,zT,zT,zT,zT,zT,zT,zT,zT,zT,zT,zT,zT,zT,zT,zT,zT,zT,zT,zT,zT,zT,zT,zT,zT,zT,zT,zT,zT,zT,zT,zT,zT,zT,zT]) (v := ?_) rfl (by rfl) (by kernel_rfl) (by kernel_rfl) (by kernel_rfl) (fun _ _ _ h => h) (by rfl) ?hy38 ?rest38
         case hy38 => intro w; go_simp; (try with_reducible rfl)
         try simp only [Act.put, zp]
         refine doneJ (by kernel_rfl) ?_ _
         gi_wp2
         refine bodyPost_end (results_none rfl _ _ _) rfl ?_
         exact ⟨⟨_, rfl⟩, .inl ⟨_, O4, rfl, hj⟩⟩
       · 
         go_simp
         refine hK _ _ ⟨fun _ _ => ⟨hG.same _ _ _ _ ha0 hs.1, hG.same _ _ _ _ hb0 hs.2⟩, ?_⟩
         clear hK K hs ha0 hb0 hj hG
         try simp only [Act.put, zp]
         refine pureJ (i := 37) (L := #[zT,zT,zT,zT,zT,zT,zT,zT,zT,zT,zT,zT,zT,zT,zT,zT,zT,zT,zT,zT,zT,zT,zT,zT,zT,zT,zT,zT,zT,zT,zT,zT,zT,zT,zT,zT,zT,zT]) (v := ?_) rfl (by rfl) (by kernel_rfl) (by kernel_rfl) (by kernel_rfl) (fun _ _ _ h => h) (by rfl) ?hy39 ?rest39
         case hy39 => intro w; go_simp; (try with_reducible rfl)
         try simp only [Act.put, zp]
         refine doneJ (by kernel_rfl) ?_ _
         gi_wp2
         refine bodyPost_end (results_none rfl _ _ _) rfl ?_
         exact ⟨⟨_, rfl⟩, .inr ⟨_, O4, .inr (.inr (.inr rfl)), hx4⟩⟩
     · 
       go_simp
       refine hK _ _ ⟨fun _ _ => ⟨hG.same _ _ _ _ ha0 hs.1, hG.same _ _ _ _ hb0 hs.2⟩, ?_⟩
       clear hK K hs ha0 hb0 hj hG
       try simp only [Act.put, zp]
       refine pureJ (i := 27) (L := #[zT,zT,zT,zT,zT,zT,zT,zT,zT,zT,zT,zT,zT,zT,zT,zT,zT,zT,zT,zT,zT,zT,zT,zT,zT,zT,zT,zT,zF,zF,zF,zF,zF,zF,zF,zF,zF,zF]) (v := ?_) rfl (by rfl) (by kernel_rfl) (by kernel_rfl) (by kernel_rfl) (fun _ _ _ h => h) (by rfl) ?hy40 ?rest40
       case hy40 => intro w; go_simp; (try with_reducible rfl)
       try simp only [Act.put, zp]
       refine pureJ (i := 28) (L := #[zT,zT,zT,zT,zT,zT,zT,zT,zT,zT,zT,zT,zT,zT,zT,zT,zT,zT,zT,zT,zT,zT,zT,zT,zT,zT,zT,zT,zT,zF,zF,zF,zF,zF,zF,zF,zF,zF]) (v := ?_) rfl (by rfl) (by kernel_rfl) (by kernel_rfl) (by kernel_rfl) (fun _ _ _ h => h) (by rfl) ?hy41 ?rest41
       case hy41 => intro w; go_simp; (try with_reducible rfl)
       try simp only [Act.put, zp]
       refine skipJ (i := 29) (L := #[zT,zT,zT,zT,zT,zT,zT,zT,zT,zT,zT,zT,zT,zT,zT,zT,zT,zT,zT,zT,zT,zT,zT,zT,zT,zT,zT,zT,zT,zT,zF,zF,zF,zF,zF,zF,zF,zF]) rfl (by rfl) (by kernel_rfl) (by kernel_rfl) (by kernel_rfl) (fun _ _ _ h => h) (by rfl) ?_
       try simp only [Act.put, zp]
       refine skipJ (i := 30) (L := #[zT,zT,zT,zT,zT,zT,zT,zT,zT,zT,zT,zT,zT,zT,zT,zT,zT,zT,zT,zT,zT,zT,zT,zT,zT,zT,zT,zT,zT,zT,zT,zF,zF,zF,zF,zF,zF,zF]) rfl (by rfl) (by kernel_rfl) (by kernel_rfl) (by kernel_rfl) (fun _ _ _ h => h) (by rfl) ?_
       try simp only [Act.put, zp]
       refine skipJ (i := 31) (L := #[zT,zT,zT,zT,zT,zT,zT,zT,zT,zT,zT,zT,zT,zT,zT,zT,zT,zT,zT,zT,zT,zT,zT,zT,zT,zT,zT,zT,zT,zT,zT,zT,zF,zF,zF,zF,zF,zF]) rfl (by rfl) (by kernel_rfl) (by kernel_rfl) (by kernel_rfl) (fun _ _ _ h => h) (by rfl) ?_
       try simp only [Act.put, zp]
       refine skipJ (i := 32) (L := #[zT,zT,zT,zT,zT,zT,zT,zT,zT,zT,zT,zT,zT,zT,zT,zT,zT,zT,zT,zT,zT,zT,zT,zT,zT,zT,zT,zT,zT,zT,zT,zT,zT,zF,zF,zF,zF,zF]) rfl (by rfl) (by kernel_rfl) (by kernel_rfl) (by kernel_rfl) (fun _ _ _ h => h) (by rfl) ?_
       try simp only [Act.put, zp]
       refine skipJ (i := 33) (L := #[zT,zT,zT,zT,zT,zT,zT,zT,zT,zT,zT,zT,zT,zT,zT,zT,zT,zT,zT,zT,zT,zT,zT,zT,zT,zT,zT,zT,zT,zT,zT,zT,zT,zT,zF,zF,zF,zF]) rfl (by rfl) (by kernel_rfl) (by kernel_rfl) (by kernel_rfl) (fun _ _ _ h => h) (by rfl) ?_
       try simp only [Act.put, zp]
       refine skipJ (i := 34) (L := #[zT,zT,zT,zT,zT,zT,zT,zT,zT,zT,zT,zT,zT,zT,zT,zT,zT,zT,zT,zT,zT,zT,zT,zT,zT,zT,zT,zT,zT,zT,zT,zT,zT,zT,zT,zF,zF,zF]) rfl (by rfl) (by kernel_rfl) (by kernel_rfl) (by kernel_rfl) (fun _ _ _ h => h) (by rfl) ?_
       try simp only [Act.put, zp]
       refine skipJ (i := 35) (L := #[zT,zT,zT,zT,zT,zT,zT,zT,zT,zT,zT,zT,zT,zT,zT,zT,zT,zT,zT,zT,zT,zT,zT,zT,zT,zT,zT,zT,zT,zT,zT,zT,zT,zT,zT,zT,zF,zF]) rfl (by rfl) (by kernel_rfl) (by kernel_rfl) (by kernel_rfl) (fun _ _ _ h => h) (by rfl) ?_
       try simp only [Act.put, zp]
       refine skipJ (i := 36) (L := #[zT,zT,zT,zT,zT,zT,zT,zT,zT,zT,zT,zT,zT,zT,zT,zT,zT,zT,zT,zT,zT,zT,zT,zT,zT,zT,zT,zT,zT,zT,zT,zT,zT,zT,zT,zT,zT,zF]) rfl (by rfl) (by kernel_rfl) (by kernel_rfl) (by kernel_rfl) (fun _ _ _ h => h) (by rfl) ?_
       try simp only [Act.put, zp]
       refine pureJ (i := 37) (L := #[zT,zT,zT,zT,zT,zT,zT,zT,zT,zT,zT,zT,zT,zT,zT,zT,zT,zT,zT,zT,zT,zT,zT,zT,zT,zT,zT,zT,zT,zT,zT,zT,zT,zT,zT,zT,zT,zT]) (v := ?_) rfl (by rfl) (by kernel_rfl) (by kernel_rfl) (by kernel_rfl) (fun _ _ _ h => h) (by rfl) ?hy50 ?rest50
       case hy50 => intro w; go_simp; (try with_reducible rfl)
       try simp only [Act.put, zp]
       refine doneJ (by kernel_rfl) ?_ _
       gi_wp2
       refine bodyPost_end (results_none rfl _ _ _) rfl ?_
       exact ⟨⟨_, rfl⟩, .inr ⟨_, O3, .inr (.inr (.inl rfl)), hx3⟩⟩
   · 
     go_simp
     refine hK _ _ ⟨fun _ _ => ⟨hG.same _ _ _ _ ha0 hs.1, hG.same _ _ _ _ hb0 hs.2⟩, ?_⟩
     clear hK K hs ha0 hb0 hj hG
     try simp only [Act.put, zp]
     refine pureJ (i := 17) (L := #[zT,zT,zT,zT,zT,zT,zT,zT,zT,zT,zT,zT,zT,zT,zT,zT,zT,zT,zF,zF,zF,zF,zF,zF,zF,zF,zF,zF,zF,zF,zF,zF,zF,zF,zF,zF,zF,zF]) (v := ?_) rfl (by rfl) (by kernel_rfl) (by kernel_rfl) (by kernel_rfl) (fun _ _ _ h => h) (by rfl) ?hy51 ?rest51
     case hy51 => intro w; go_simp; (try with_reducible rfl)
     try simp only [Act.put, zp]
     refine pureJ (i := 18) (L := #[zT,zT,zT,zT,zT,zT,zT,zT,zT,zT,zT,zT,zT,zT,zT,zT,zT,zT,zT,zF,zF,zF,zF,zF,zF,zF,zF,zF,zF,zF,zF,zF,zF,zF,zF,zF,zF,zF]) (v := ?_) rfl (by rfl) (by kernel_rfl) (by kernel_rfl) (by kernel_rfl) (fun _ _ _ h => h) (by rfl) ?hy52 ?rest52
     case hy52 => intro w; go_simp; (try with_reducible rfl)
     try simp only [Act.put, zp]
     refine skipJ (i := 19) (L := #[zT,zT,zT,zT,zT,zT,zT,zT,zT,zT,zT,zT,zT,zT,zT,zT,zT,zT,zT,zT,zF,zF,zF,zF,zF,zF,zF,zF,zF,zF,zF,zF,zF,zF,zF,zF,zF,zF]) rfl (by rfl) (by kernel_rfl) (by kernel_rfl) (by kernel_rfl) (fun _ _ _ h => h) (by rfl) ?_
     try simp only [Act.put, zp]
     refine skipJ (i := 20) (L := #[zT,zT,zT,zT,zT,zT,zT,zT,zT,zT,zT,zT,zT,zT,zT,zT,zT,zT,zT,zT,zT,zF,zF,zF,zF,zF,zF,zF,zF,zF,zF,zF,zF,zF,zF,zF,zF,zF]) rfl (by rfl) (by kernel_rfl) (by kernel_rfl) (by kernel_rfl) (fun _ _ _ h => h) (by rfl) ?_
     try simp only [Act.put, zp]
     refine skipJ (i := 21) (L := #[zT,zT,zT,zT,zT,zT,zT,zT,zT,zT,zT,zT,zT,zT,zT,zT,zT,zT,zT,zT,zT,zT,zF,zF,zF,zF,zF,zF,zF,zF,zF,zF,zF,zF,zF,zF,zF,zF]) rfl (by rfl) (by kernel_rfl) (by kernel_rfl) (by kernel_rfl) (fun _ _ _ h => h) (by rfl) ?_
     try simp only [Act.put, zp]
     refine skipJ (i := 22) (L := #[zT,zT,zT,zT,zT,zT,zT,zT,zT,zT,zT,zT,zT,zT,zT,zT,zT,zT,zT,zT,zT,zT,zT,zF,zF,zF,zF,zF,zF,zF,zF,zF,zF,zF,zF,zF,zF,zF]) rfl (by rfl) (by kernel_rfl) (by kernel_rfl) (by kernel_rfl) (fun _ _ _ h => h) (by rfl) ?_
     try simp only [Act.put, zp]
     refine skipJ (i := 23) (L := #[zT,zT,zT,zT,zT,zT,zT,zT,zT,zT,zT,zT,zT,zT,zT,zT,zT,zT,zT,zT,zT,zT,zT,zT,zF,zF,zF,zF,zF,zF,zF,zF,zF,zF,zF,zF,zF,zF]) rfl (by rfl) (by kernel_rfl) (by kernel_rfl) (by kernel_rfl) (fun _ _ _ h => h) (by rfl) ?_
     try simp only [Act.put, zp]
     refine skipJ (i := 24) (L := #[zT,zT,zT,zT,zT,zT,zT,zT,zT,zT,zT,zT,zT,zT,zT,zT,zT,zT,zT,zT,zT,zT,zT,zT,zT,zF,zF,zF,zF,zF,zF,zF,zF,zF,zF,zF,zF,zF]) rfl (by rfl) (by kernel_rfl) (by kernel_rfl) (by kernel_rfl) (fun _ _ _ h => h) (by rfl) ?_
     try simp only [Act.put, zp]
     refine skipJ (i := 25) (L := #[zT,zT,zT,zT,zT,zT,zT,zT,zT,zT,zT,zT,zT,zT,zT,zT,zT,zT,zT,zT,zT,zT,zT,zT,zT,zT,zF,zF,zF,zF,zF,zF,zF,zF,zF,zF,zF,zF]) rfl (by rfl) (by kernel_rfl) (by kernel_rfl) (by kernel_rfl) (fun _ _ _ h => h) (by rfl) ?_
     try simp only [Act.put, zp]
     refine skipJ (i := 26) (L := #[zT,zT,zT,zT,zT,zT,zT,zT,zT,zT,zT,zT,zT,zT,zT,zT,zT,zT,zT,zT,zT,zT,zT,zT,zT,zT,zT,zF,zF,zF,zF,zF,zF,zF,zF,zF,zF,zF]) rfl (by rfl) (by kernel_rfl) (by kernel_rfl) (by kernel_rfl) (fun _ _ _ h => h) (by rfl) ?_
     try simp only [Act.put, zp]
     refine pureJ (i := 27) (L := #[zT,zT,zT,zT,zT,zT,zT,zT,zT,zT,zT,zT,zT,zT,zT,zT,zT,zT,zT,zT,zT,zT,zT,zT,zT,zT,zT,zT,zF,zF,zF,zF,zF,zF,zF,zF,zF,zF]) (v := ?_) rfl (by rfl) (by kernel_rfl) (by kernel_rfl) (by kernel_rfl) (fun _ _ _ h => h) (by rfl) ?hy61 ?rest61
     case hy61 => intro w; go_simp; (try with_reducible rfl)
     try simp only [Act.put, zp]
     refine pureJ (i := 28) (L := #[zT,zT,zT,zT,zT,zT,zT,zT,zT,zT,zT,zT,zT,zT,zT,zT,zT,zT,zT,zT,zT,zT,zT,zT,zT,zT,zT,zT,zT,zF,zF,zF,zF,zF,zF,zF,zF,zF]) (v := ?_) rfl (by rfl) (by kernel_rfl) (by kernel_rfl) (by kernel_rfl) (fun _ _ _ h => h) (by rfl) ?hy62 ?rest62
     case hy62 => intro w; go_simp; (try with_reducible rfl)
     try simp only [Act.put, zp]
     refine skipJ (i := 29) (L := #[zT,zT,zT,zT,zT,zT,zT,zT,zT,zT,zT,zT,zT,zT,zT,zT,zT,zT,zT,zT,zT,zT,zT,zT,zT,zT,zT,zT,zT,zT,zF,zF,zF,zF,zF,zF,zF,zF]) rfl (by rfl) (by kernel_rfl) (by kernel_rfl) (by kernel_rfl) (fun _ _ _ h => h) (by rfl) ?_
     try simp only [Act.put, zp]
     refine skipJ (i := 30) (L := #[zT,zT,zT,zT,zT,zT,zT,zT,zT,zT,zT,zT,zT,zT,zT,zT,zT,zT,zT,zT,zT,zT,zT,zT,zT,zT,zT,zT,zT,zT,zT,zF,zF,zF,zF,zF,zF,zF]) rfl (by rfl) (by kernel_rfl) (by kernel_rfl) (by kernel_rfl) (fun _ _ _ h => h) (by rfl) ?_
     try simp only [Act.put, zp]
     refine skipJ (i := 31) (L := #[zT,zT,zT,zT,zT,zT,zT,zT,zT,zT,zT,zT,zT,zT,zT,zT,zT,zT,zT,zT,zT,zT,zT,zT,zT,zT,zT,zT,zT,zT,zT,zT,zF,zF,zF,zF,zF,zF]) rfl (by rfl) (by kernel_rfl) (by kernel_rfl) (by kernel_rfl) (fun _ _ _ h => h) (by rfl) ?_
     try simp only [Act.put, zp]
     refine skipJ (i := 32) (L := #[zT,zT,zT,zT,zT,zT,zT,zT,zT,zT,zT,zT,zT,zT,zT,zT,zT,zT,zT,zT,zT,zT,zT,zT,zT,zT,zT,zT,zT,zT,zT,zT,zT,zF,zF,zF,zF,zF]) rfl (by rfl) (by kernel_rfl) (by kernel_rfl) (by kernel_rfl) (fun _ _ _ h => h) (by rfl) ?_
     try simp only [Act.put, zp]
     refine skipJ (i := 33) (L := #[zT,zT,zT,zT,zT,zT,zT,zT,zT,zT,zT,zT,zT,zT,zT,zT,zT,zT,zT,zT,zT,zT,zT,zT,zT,zT,zT,zT,zT,zT,zT,zT,zT,zT,zF,zF,zF,zF]) rfl (by rfl) (by kernel_rfl) (by kernel_rfl) (by kernel_rfl) (fun _ _ _ h => h) (by rfl) ?_
     try simp only [Act.put, zp]
     refine skipJ (i := 34) (L := #[zT,zT,zT,zT,zT,zT,zT,zT,zT,zT,zT,zT,zT,zT,zT,zT,zT,zT,zT,zT,zT,zT,zT,zT,zT,zT,zT,zT,zT,zT,zT,zT,zT,zT,zT,zF,zF,zF]) rfl (by rfl) (by kernel_rfl) (by kernel_rfl) (by kernel_rfl) (fun _ _ _ h => h) (by rfl) ?_
     try simp only [Act.put, zp]
     refine skipJ (i := 35) (L := #[zT,zT,zT,zT,zT,zT,zT,zT,zT,zT,zT,zT,zT,zT,zT,zT,zT,zT,zT,zT,zT,zT,zT,zT,zT,zT,zT,zT,zT,zT,zT,zT,zT,zT,zT,zT,zF,zF]) rfl (by rfl) (by kernel_rfl) (by kernel_rfl) (by kernel_rfl) (fun _ _ _ h => h) (by rfl) ?_
     try simp only [Act.put, zp]
     refine skipJ (i := 36) (L := #[zT,zT,zT,zT,zT,zT,zT,zT,zT,zT,zT,zT,zT,zT,zT,zT,zT,zT,zT,zT,zT,zT,zT,zT,zT,zT,zT,zT,zT,zT,zT,zT,zT,zT,zT,zT,zT,zF]) rfl (by rfl) (by kernel_rfl) (by kernel_rfl) (by kernel_rfl) (fun _ _ _ h => h) (by rfl) ?_
     try simp only [Act.put, zp]
     refine pureJ (i := 37) (L := #[zT,zT,zT,zT,zT,zT,zT,zT,zT,zT,zT,zT,zT,zT,zT,zT,zT,zT,zT,zT,zT,zT,zT,zT,zT,zT,zT,zT,zT,zT,zT,zT,zT,zT,zT,zT,zT,zT]) (v := ?_) rfl (by rfl) (by kernel_rfl) (by kernel_rfl) (by kernel_rfl) (fun _ _ _ h => h) (by rfl) ?hy71 ?rest71
     case hy71 => intro w; go_simp; (try with_reducible rfl)
     try simp only [Act.put, zp]
     refine doneJ (by kernel_rfl) ?_ _
     gi_wp2
     refine bodyPost_end (results_none rfl _ _ _) rfl ?_
     exact ⟨⟨_, rfl⟩, .inr ⟨_, O2, .inr (.inl rfl), hx2⟩⟩
 · 
   go_simp
   refine hK _ _ ⟨fun _ _ => ⟨hG.same _ _ _ _ ha0 hs.1, hG.same _ _ _ _ hb0 hs.2⟩, ?_⟩
   clear hK K hs ha0 hb0 hj hG
   try simp only [Act.put, zp]
   refine pureJ (i := 8) (L := #[zT,zT,zT,zT,zT,zT,zT,zT,zT,zF,zF,zF,zF,zF,zF,zF,zF,zF,zF,zF,zF,zF,zF,zF,zF,zF,zF,zF,zF,zF,zF,zF,zF,zF,zF,zF,zF,zF]) (v := ?_) rfl (by rfl) (by kernel_rfl) (by kernel_rfl) (by kernel_rfl) (fun _ _ _ h => h) (by rfl) ?hy72 ?rest72
   case hy72 => intro w; go_simp; (try with_reducible rfl)
   try simp only [Act.put, zp]
   refine skipJ (i := 9) (L := #[zT,zT,zT,zT,zT,zT,zT,zT,zT,zT,zF,zF,zF,zF,zF,zF,zF,zF,zF,zF,zF,zF,zF,zF,zF,zF,zF,zF,zF,zF,zF,zF,zF,zF,zF,zF,zF,zF]) rfl (by rfl) (by kernel_rfl) (by kernel_rfl) (by kernel_rfl) (fun _ _ _ h => h) (by rfl) ?_
   try simp only [Act.put, zp]
   refine skipJ (i := 10) (L := #[zT,zT,zT,zT,zT,zT,zT,zT,zT,zT,zT,zF,zF,zF,zF,zF,zF,zF,zF,zF,zF,zF,zF,zF,zF,zF,zF,zF,zF,zF,zF,zF,zF,zF,zF,zF,zF,zF]) rfl (by rfl) (by kernel_rfl) (by kernel_rfl) (by kernel_rfl) (fun _ _ _ h => h) (by rfl) ?_
   try simp only [Act.put, zp]
   refine skipJ (i := 11) (L := #[zT,zT,zT,zT,zT,zT,zT,zT,zT,zT,zT,zT,zF,zF,zF,zF,zF,zF,zF,zF,zF,zF,zF,zF,zF,zF,zF,zF,zF,zF,zF,zF,zF,zF,zF,zF,zF,zF]) rfl (by rfl) (by kernel_rfl) (by kernel_rfl) (by kernel_rfl) (fun _ _ _ h => h) (by rfl) ?_
   try simp only [Act.put, zp]
   refine skipJ (i := 12) (L := #[zT,zT,zT,zT,zT,zT,zT,zT,zT,zT,zT,zT,zT,zF,zF,zF,zF,zF,zF,zF,zF,zF,zF,zF,zF,zF,zF,zF,zF,zF,zF,zF,zF,zF,zF,zF,zF,zF]) rfl (by rfl) (by kernel_rfl) (by kernel_rfl) (by kernel_rfl) (fun _ _ _ h => h) (by rfl) ?_
   try simp only [Act.put, zp]
   refine skipJ (i := 13) (L := #[zT,zT,zT,zT,zT,zT,zT,zT,zT,zT,zT,zT,zT,zT,zF,zF,zF,zF,zF,zF,zF,zF,zF,zF,zF,zF,zF,zF,zF,zF,zF,zF,zF,zF,zF,zF,zF,zF]) rfl (by rfl) (by kernel_rfl) (by kernel_rfl) (by kernel_rfl) (fun _ _ _ h => h) (by rfl) ?_
   try simp only [Act.put, zp]
   refine skipJ (i := 14) (L := #[zT,zT,zT,zT,zT,zT,zT,zT,zT,zT,zT,zT,zT,zT,zT,zF,zF,zF,zF,zF,zF,zF,zF,zF,zF,zF,zF,zF,zF,zF,zF,zF,zF,zF,zF,zF,zF,zF]) rfl (by rfl) (by kernel_rfl) (by kernel_rfl) (by kernel_rfl) (fun _ _ _ h => h) (by rfl) ?_
   try simp only [Act.put, zp]
   refine skipJ (i := 15) (L := #[zT,zT,zT,zT,zT,zT,zT,zT,zT,zT,zT,zT,zT,zT,zT,zT,zF,zF,zF,zF,zF,zF,zF,zF,zF,zF,zF,zF,zF,zF,zF,zF,zF,zF,zF,zF,zF,zF]) rfl (by rfl) (by kernel_rfl) (by kernel_rfl) (by kernel_rfl) (fun _ _ _ h => h) (by rfl) ?_
   try simp only [Act.put, zp]
   refine skipJ (i := 16) (L := #[zT,zT,zT,zT,zT,zT,zT,zT,zT,zT,zT,zT,zT,zT,zT,zT,zT,zF,zF,zF,zF,zF,zF,zF,zF,zF,zF,zF,zF,zF,zF,zF,zF,zF,zF,zF,zF,zF]) rfl (by rfl) (by kernel_rfl) (by kernel_rfl) (by kernel_rfl) (fun _ _ _ h => h) (by rfl) ?_
   try simp only [Act.put, zp]
   refine pureJ (i := 17) (L := #[zT,zT,zT,zT,zT,zT,zT,zT,zT,zT,zT,zT,zT,zT,zT,zT,zT,zT,zF,zF,zF,zF,zF,zF,zF,zF,zF,zF,zF,zF,zF,zF,zF,zF,zF,zF,zF,zF]) (v := ?_) rfl (by rfl) (by kernel_rfl) (by kernel_rfl) (by kernel_rfl) (fun _ _ _ h => h) (by rfl) ?hy81 ?rest81
   case hy81 => intro w; go_simp; (try with_reducible rfl)
   try simp only [Act.put, zp]
   refine pureJ (i := 18) (L := #[zT,zT,zT,zT,zT,zT,zT,zT,zT,zT,zT,zT,zT,zT,zT,zT,zT,zT,zT,zF,zF,zF,zF,zF,zF,zF,zF,zF,zF,zF,zF,zF,zF,zF,zF,zF,zF,zF]) (v := ?_) rfl (by rfl) (by kernel_rfl) (by kernel_rfl) (by kernel_rfl) (fun _ _ _ h => h) (by rfl) ?hy82 ?rest82
   case hy82 => intro w; go_simp; (try with_reducible rfl)
   try simp only [Act.put, zp]
   refine skipJ (i := 19) (L := #[zT,zT,zT,zT,zT,zT,zT,zT,zT,zT,zT,zT,zT,zT,zT,zT,zT,zT,zT,zT,zF,zF,zF,zF,zF,zF,zF,zF,zF,zF,zF,zF,zF,zF,zF,zF,zF,zF]) rfl (by rfl) (by kernel_rfl) (by kernel_rfl) (by kernel_rfl) (fun _ _ _ h => h) (by rfl) ?_
   try simp only [Act.put, zp]
   refine skipJ (i := 20) (L := #[zT,zT,zT,zT,zT,zT,zT,zT,zT,zT,zT,zT,zT,zT,zT,zT,zT,zT,zT,zT,zT,zF,zF,zF,zF,zF,zF,zF,zF,zF,zF,zF,zF,zF,zF,zF,zF,zF]) rfl (by rfl) (by kernel_rfl) (by kernel_rfl) (by kernel_rfl) (fun _ _ _ h => h) (by rfl) ?_
   try simp only [Act.put, zp]
   refine skipJ (i := 21) (L := #[zT,zT,zT,zT,zT,zT,zT,zT,zT,zT,zT,zT,zT,zT,zT,zT,zT,zT,zT,zT,zT,zT,zF,zF,zF,zF,zF,zF,zF,zF,zF,zF,zF,zF,zF,zF,zF,zF]) rfl (by rfl) (by kernel_rfl) (by kernel_rfl) (by kernel_rfl) (fun _ _ _ h => h) (by rfl) ?_
   try simp only [Act.put, zp]
   refine skipJ (i := 22) (L := #[zT,zT,zT,zT,zT,zT,zT,zT,zT,zT,zT,zT,zT,zT,zT,zT,zT,zT,zT,zT,zT,zT,zT,zF,zF,zF,zF,zF,zF,zF,zF,zF,zF,zF,zF,zF,zF,zF]) rfl (by rfl) (by kernel_rfl) (by kernel_rfl) (by kernel_rfl) (fun _ _ _ h => h) (by rfl) ?_
   try simp only [Act.put, zp]
   refine skipJ (i := 23) (L := #[zT,zT,zT,zT,zT,zT,zT,zT,zT,zT,zT,zT,zT,zT,zT,zT,zT,zT,zT,zT,zT,zT,zT,zT,zF,zF,zF,zF,zF,zF,zF,zF,zF,zF,zF,zF,zF,zF]) rfl (by rfl) (by kernel_rfl) (by kernel_rfl) (by kernel_rfl) (fun _ _ _ h => h) (by rfl) ?_
   try simp only [Act.put, zp]
   refine skipJ (i := 24) (L := #[zT,zT,zT,zT,zT,zT,zT,zT,zT,zT,zT,zT,zT,zT,zT,zT,zT,zT,zT,zT,zT,zT,zT,zT,zT,zF,zF,zF,zF,zF,zF,zF,zF,zF,zF,zF,zF,zF]) rfl (by rfl) (by kernel_rfl) (by kernel_rfl) (by kernel_rfl) (fun _ _ _ h => h) (by rfl) ?_
   try simp only [Act.put, zp]
   refine skipJ (i := 25) (L := #[zT,zT,zT,zT,zT,zT,zT,zT,zT,zT,zT,zT,zT,zT,zT,zT,zT,zT,zT,zT,zT,zT,zT,zT,zT,zT,zF,zF,zF,zF,zF,zF,zF,zF,zF,zF,zF,zF]) rfl (by rfl) (by kernel_rfl) (by kernel_rfl) (by kernel_rfl) (fun _ _ _ h => h) (by rfl) ?_
   try simp only [Act.put, zp]
   refine skipJ (i := 26) (L := #[zT,zT,zT,zT,zT,zT,zT,zT,zT,zT,zT,zT,zT,zT,zT,zT,zT,zT,zT,zT,zT,zT,zT,zT,zT,zT,zT,zF,zF,zF,zF,zF,zF,zF,zF,zF,zF,zF]) rfl (by rfl) (by kernel_rfl) (by kernel_rfl) (by kernel_rfl) (fun _ _ _ h => h) (by rfl) ?_
   try simp only [Act.put, zp]
   refine pureJ (i := 27) (L := #[zT,zT,zT,zT,zT,zT,zT,zT,zT,zT,zT,zT,zT,zT,zT,zT,zT,zT,zT,zT,zT,zT,zT,zT,zT,zT,zT,zT,zF,zF,zF,zF,zF,zF,zF,zF,zF,zF]) (v := ?_) rfl (by rfl) (by kernel_rfl) (by kernel_rfl) (by kernel_rfl) (fun _ _ _ h => h) (by rfl) ?hy91 ?rest91
   case hy91 => intro w; go_simp; (try with_reducible rfl)
   try simp only [Act.put, zp]
   refine pureJ (i := 28) (L := #[zT,zT,zT,zT,zT,zT,zT,zT,zT,zT,zT,zT,zT,zT,zT,zT,zT,zT,zT,zT,zT,zT,zT,zT,zT,zT,zT,zT,zT,zF,zF,zF,zF,zF,zF,zF,zF,zF]) (v := ?_) rfl (by rfl) (by kernel_rfl) (by kernel_rfl) (by kernel_rfl) (fun _ _ _ h => h) (by rfl) ?hy92 ?rest92
   case hy92 => intro w; go_simp; (try with_reducible rfl)
   try simp only [Act.put, zp]
   refine skipJ (i := 29) (L := #[zT,zT,zT,zT,zT,zT,zT,zT,zT,zT,zT,zT,zT,zT,zT,zT,zT,zT,zT,zT,zT,zT,zT,zT,zT,zT,zT,zT,zT,zT,zF,zF,zF,zF,zF,zF,zF,zF]) rfl (by rfl) (by kernel_rfl) (by kernel_rfl) (by kernel_rfl) (fun _ _ _ h => h) (by rfl) ?_
   try simp only [Act.put, zp]
   refine skipJ (i := 30) (L := #[zT,zT,zT,zT,zT,zT,zT,zT,zT,zT,zT,zT,zT,zT,zT,zT,zT,zT,zT,zT,zT,zT,zT,zT,zT,zT,zT,zT,zT,zT,zT,zF,zF,zF,zF,zF,zF,zF]) rfl (by rfl) (by kernel_rfl) (by kernel_rfl) (by kernel_rfl) (fun _ _ _ h => h) (by rfl) ?_
   try simp only [Act.put, zp]
   refine skipJ (i := 31) (L := #[zT,zT,zT,zT,zT,zT,zT,zT,zT,zT,zT,zT,zT,zT,zT,zT,zT,zT,zT,zT,zT,zT,zT,zT,zT,zT,zT,zT,zT,zT,zT,zT,zF,zF,zF,zF,zF,zF]) rfl (by rfl) (by kernel_rfl) (by kernel_rfl) (by kernel_rfl) (fun _ _ _ h => h) (by rfl) ?_
   try simp only [Act.put, zp]
   refine skipJ (i := 32) (L := #[zT,zT,zT,zT,zT,zT,zT,zT,zT,zT,zT,zT,zT,zT,zT,zT,zT,zT,zT,zT,zT,zT,zT,zT,zT,zT,zT,zT,zT,zT,zT,zT,zT,zF,zF,zF,zF,zF]) rfl (by rfl) (by kernel_rfl) (by kernel_rfl) (by kernel_rfl) (fun _ _ _ h => h) (by rfl) ?_
   try simp only [Act.put, zp]
   refine skipJ (i := 33) (L := #[zT,zT,zT,zT,zT,zT,zT,zT,zT,zT,zT,zT,zT,zT,zT,zT,zT,zT,zT,zT,zT,zT,zT,zT,zT,zT,zT,zT,zT,zT,zT,zT,zT,zT,zF,zF,zF,zF]) rfl (by rfl) (by kernel_rfl) (by kernel_rfl) (by kernel_rfl) (fun _ _ _ h => h) (by rfl) ?_
   try simp only [Act.put, zp]
   refine skipJ (i := 34) (L := #[zT,zT,zT,zT,zT,zT,zT,zT,zT,zT,zT,zT,zT,zT,zT,zT,zT,zT,zT,zT,zT,zT,zT,zT,zT,zT,zT,zT,zT,zT,zT,zT,zT,zT,zT,zF,zF,zF]) rfl (by rfl) (by kernel_rfl) (by kernel_rfl) (by kernel_rfl) (fun _ _ _ h => h) (by rfl) ?_
   try simp only [Act.put, zp]
   refine skipJ (i := 35) (L := #[zT,zT,zT,zT,zT,zT,zT,zT,zT,zT,zT,zT,zT,zT,zT,zT,zT,zT,zT,zT,zT,zT,zT,zT,zT,zT,zT,zT,zT,zT,zT,zT,zT,zT,zT,zT,zF,zF]) rfl (by rfl) (by kernel_rfl) (by kernel_rfl) (by kernel_rfl) (fun _ _ _ h => h) (by rfl) ?_
   try simp only [Act.put, zp]
   refine skipJ (i := 36) (L := #[zT,zT,zT,zT,zT,zT,zT,zT,zT,zT,zT,zT,zT,zT,zT,zT,zT,zT,zT,zT,zT,zT,zT,zT,zT,zT,zT,zT,zT,zT,zT,zT,zT,zT,zT,zT,zT,zF]) rfl (by rfl) (by kernel_rfl) (by kernel_rfl) (by kernel_rfl) (fun _ _ _ h => h) (by rfl) ?_
   try simp only [Act.put, zp]
   refine pureJ (i := 37) (L := #[zT,zT,zT,zT,zT,zT,zT,zT,zT,zT,zT,zT,zT,zT,zT,zT,zT,zT,zT,zT,zT,zT,zT,zT,zT,zT,zT,zT,zT,zT,zT,zT,zT,zT,zT,zT,zT,zT]) (v := ?_) rfl (by rfl) (by kernel_rfl) (by kernel_rfl) (by kernel_rfl) (fun _ _ _ h => h) (by rfl) ?hy101 ?rest101
   case hy101 => intro w; go_simp; (try with_reducible rfl)
   try simp only [Act.put, zp]
   refine doneJ (by kernel_rfl) ?_ _
   gi_wp2
   refine bodyPost_end (results_none rfl _ _ _) rfl ?_
   exact ⟨⟨_, rfl⟩, .inr ⟨_, O1, .inl rfl, hx1⟩⟩
theorem parts_seq (m ga gb ma mb : Nat) (w : World) (hS : Two ga gb ma mb w) :
  SeqSep2 Nxt Fence.wide m Tryd.prog 80 #[.pointer (some ⟨ga, 0, none⟩), .pointer (some ⟨gb, 0, none⟩)] (encM ma mb) (fun ys => ys = [0, 1, 2, 3]) Pre 4 (fun k => k = ga ∨ k = gb) ga w :=
 fun l J Jx O0 W hW hJ _ hP _ hY h0 => parts1_in m l ga gb ma mb J Jx ga hJ hY O0 W ⟨(hW.block ga (lt_of_heap hS.1)).trans hS.1, (hW.block gb (lt_of_heap hS.2)).trans hS.2⟩ (hP _ (.inl rfl)) (hP _ (.inr rfl)) h0
/-- mass.parts. -/
theorem parts_any (w : World) (ma mb : Nat) : Calls Tryd.prog 59 #[.pointer (some ⟨ma, 0, none⟩), .pointer (some ⟨mb, 0, none⟩)] w fun e w' =>
  e = .returned (.func (.func 80) #[] #[.pointer (some ⟨w.heap.size, 0, none⟩), .pointer (some ⟨w.heap.size + 1, 0, none⟩)]) ∧ w' = (w.alloc (.cells #[.pointer (some ⟨ma, 0, none⟩)] 86)).alloc (.cells #[.pointer (some ⟨mb, 0, none⟩)] 86) := by
 go_enter Tryd.func59, Tryd.ntmps59
 go_wp2
 go_ret
 exact ⟨rfl, rfl⟩
end Ma
end Go.Proofs.YtbbnbgllgomolaaDoor
namespace Go.Proofs.YtbbnbgllgomolaaDoor
open Go.RowKit
namespace Ma
open Dp Dy
attribute [local go_sem] Oper.semAt_some
/-- A dyad's value, and what its row holds. -/
structure Dv where
 s : Bool
 A : Option Addr
 n : Nat
 c : Nat
 e : Int
 xs : List Int
structure Mv where
 S : Dv
 W : Dv
 C : Dv
 A : Dv
def Mv.get (m : Mv) : Nat → Dv
 | 0 => m.S
 | 1 => m.W
 | 2 => m.C
 | _ => m.A
def Dv.Row (w : World) (lo hi : Nat) (d : Dv) : Prop := Ints w lo hi .u32 d.A d.n d.xs
def Dv.may (d : Dv) : Prop := MayD d.s d.xs d.e
structure MRows (w : World) (lo hi : Nat) (m : Mv) : Prop where
 S : m.S.Row w lo hi
 W : m.W.Row w lo hi
 C : m.C.Row w lo hi
 A : m.A.Row w lo hi
theorem MRows.get {w : World} {lo hi : Nat} {m : Mv} (h : MRows w lo hi m) (x : Nat) : Ints w lo hi .u32 (m.get x).A (m.get x).n (m.get x).xs := by
 unfold Mv.get
 split
 · exact h.S
 · exact h.W
 · exact h.C
 · exact h.A
theorem MRows.below {w w' : World} {lo hi B : Nat} {m : Mv} (h : MRows w lo hi m) (hb : Below B w w') (hB : hi ≤ B) : MRows w' lo hi m := ⟨Ints.below h.S hb hB, Ints.below h.W hb hB, Ints.below h.C hb hB, Ints.below h.A hb hB⟩
theorem MRows.more {w : World} {lo hi lo' hi' : Nat} {m : Mv} (h : MRows w lo hi m) (hl : lo' ≤ lo) (hh : hi ≤ hi') : MRows w lo' hi' m := ⟨Ints.more h.S hl hh, Ints.more h.W hl hh, Ints.more h.C hl hh, Ints.more h.A hl hh⟩
/-- A mass in a block. -/
def MBox (w : World) (g : Nat) (m : Mv) : Prop := w.heap[g]? = some (.cells #[.bool m.S.s, .slice m.S.A m.S.n m.S.c, .int .i64 m.S.e, .bool m.W.s, .slice m.W.A m.W.n m.W.c, .int .i64 m.W.e, .bool m.C.s, .slice m.C.A m.C.n m.C.c, .int .i64 m.C.e, .bool m.A.s, .slice m.A.A m.A.n m.A.c, .int .i64 m.A.e] 26 (0, 0))
theorem MBox.at_ {w : World} {g : Nat} {m : Mv} (h : MBox w g m) {x : Nat} (hx : x < 4) :
  (w.cell? ⟨g, 3 * x, none⟩ = some (.bool (m.get x).s) ∧ w.cell? ⟨g, 3 * x + 1, none⟩ = some (.slice (m.get x).A (m.get x).n (m.get x).c) ∧ w.cell? ⟨g, 3 * x + 2, none⟩ = some (.int .i64 (m.get x).e)) ∧
   (w.frozen? ⟨g, 3 * x, none⟩ = false ∧ w.frozen? ⟨g, 3 * x + 1, none⟩ = false ∧ w.frozen? ⟨g, 3 * x + 2, none⟩ = false) := by
 have hf : ∀ k, w.frozen? ⟨g, k, none⟩ = false := fun k => frozen_of_row w g k _ _ h
 refine ⟨?_, hf _, hf _, hf _⟩
 have hc : ∀ k v, (#[.bool m.S.s, .slice m.S.A m.S.n m.S.c, .int .i64 m.S.e, .bool m.W.s, .slice m.W.A m.W.n m.W.c, .int .i64 m.W.e, .bool m.C.s, .slice m.C.A m.C.n m.C.c, .int .i64 m.C.e, .bool m.A.s, .slice m.A.A m.A.n m.A.c, .int .i64 m.A.e] : Array Value)[k]? = some v → w.cell? ⟨g, k, none⟩ = some v := fun k v hk => by
  unfold MBox at h
  simp [World.cell?, h]
  simpa using hk
 have hx' : x = 0 ∨ x = 1 ∨ x = 2 ∨ x = 3 := by omega
 rcases hx' with rfl | rfl | rfl | rfl <;> exact ⟨hc _ _ rfl, hc _ _ rfl, hc _ _ rfl⟩
def Mv.may (m : Mv) : Prop := ∀ x, x < 4 → (m.get x).may
open Classical in
noncomputable def chkM (m : Mv) : Int := if m.may then 0 else 8
theorem box_on {w w' : World} {g B : Nat} {o : Obj} (h : w.heap[g]? = some o) (hb : Below B w w') (hB : g < B) : w'.heap[g]? = some o := (hb.block g hB).trans h
theorem gain_below {O : Nat → Prop} {w w' : World} (hb : Below w.heap.size w w') : Gain O O w w' := ⟨hb.size, fun k _ _ _ _ h => (hb.block k (lt_of_heap h)).trans h, fun _ h => .inl h⟩
theorem keeps_below {w w' : World} {B : Nat} (hb : Below w.heap.size w w') : KeepsFrom B w w' := ⟨hb.size, fun k _ _ hk _ => (hb.block k (lt_of_heap hk)).trans hk⟩
theorem gain_set {O : Nat → Prop} {w : World} {p : Addr} (hp : O p.block) (v : Value) : Gain O O w (w.setCell p v) := ⟨by simp [World.setCell], fun k _ _ _ hk h => by
  have : p.block ≠ k := fun e => hk (e ▸ hp)
  rw [← h]
  simp [World.setCell, Array.getElem?_modify, this], fun _ h => .inl h⟩
theorem heap_own {W W' : World} {row : Option Nat} {g : Nat} {cs : Array Value} {t : TypeId} {z : Nat × Nat} (h : W.heap[g]? = some (.cells cs t z)) (hg : W.grownBy W' row) (hr : ∀ r, row = some r → ∃ o : Obj, W.heap[r]? = some o ∧ o.isCells = false) : W'.heap[g]? = some (.cells cs t z) := by
 refine (hg.block g (lt_of_heap h) (fun e => ?_)).trans h
 obtain ⟨o, h1, h2⟩ := hr g e.symm
 rw [h] at h1
 cases h1
 cases h2
theorem heap_loose {W W' : World} {row : Option Nat} {g gl : Nat} {o : Obj} (h : W.heap[g]? = some o) (hg : W.grownBy W' row) (hr : ∀ r, row = some r → r = gl) (hne : g ≠ gl) : W'.heap[g]? = some o :=
 (hg.block g (lt_of_heap h) (fun e => hne (hr g e.symm))).trans h
theorem below_loose {W0 W W' : World} {B gl : Nat} {row : Option Nat} (h : Below B W0 W) (hB : B ≤ W0.heap.size) (hg : W.grownBy W' row) (hr : ∀ r, row = some r → r = gl) (hle : B ≤ gl) : Below B W0 W' :=
 h.grown hg (Nat.le_trans hB h.size) (fun k e => by have := hr k e; omega)
theorem set1 {w : World} {g : Nat} {x : Value} {t : TypeId} (h : w.heap[g]? = some (.cells #[x] t (0, 0))) (v : Value) : (w.setCell ⟨g, 0, none⟩ v).heap[g]? = some (.cells #[v] t (0, 0)) := by
 simp [World.setCell, Array.getElem?_modify, h]
set_option maxHeartbeats 3200000 in
set_option maxRecDepth 100000 in
/-- mass.Check. -/
theorem MCheck_any (w : World) (m : Mv) (hR : MRows w 0 w.heap.size m) (k : Int) (hk : chkM m = k) :
  Calls Tryd.prog 57 #[.agg #[.bool m.S.s, .slice m.S.A m.S.n m.S.c, .int .i64 m.S.e, .bool m.W.s, .slice m.W.A m.W.n m.W.c, .int .i64 m.W.e, .bool m.C.s, .slice m.C.A m.C.n m.C.c, .int .i64 m.C.e, .bool m.A.s, .slice m.A.A m.A.n m.A.c, .int .i64 m.A.e]] w fun e w' => e = .returned (.int .i64 k) ∧ Below w.heap.size w w' := by
 have HK := Lib.hid hk
 clear hk
 refine (callsIn_wide (n := 5)).1 ?_
 refine callsIn_of_wp_marks Tryd.func57 rfl trivial ?_ rfl
 simp only [Tryd.ntmps57, List.size_toArray, List.length_cons, List.length_nil, Nat.reduceAdd, Nat.reduceSub, Array.replicate_succ, Array.replicate_zero, List.push_toArray, List.append_toArray, List.nil_append, List.cons_append]
 gi_wp2_with fail
 refine ⟨trivial, (callsIn_wide.2 (parts_any _ _ _)).mono ?_⟩
 rintro e w2 ⟨rfl, rfl⟩
 gi_wp2_with fail
 obtain ⟨W0, hW0⟩ : ∃ W0, ((((w.alloc (.cells #[.bool m.S.s, .slice m.S.A m.S.n m.S.c, .int .i64 m.S.e, .bool m.W.s, .slice m.W.A m.W.n m.W.c, .int .i64 m.W.e, .bool m.C.s, .slice m.C.A m.C.n m.C.c, .int .i64 m.C.e, .bool m.A.s, .slice m.A.A m.A.n m.A.c, .int .i64 m.A.e] 26)).alloc (.cells #[.int .i64 0] 29)).alloc (.cells #[.pointer (some ⟨w.heap.size, 0, none⟩)] 86)).alloc (.cells #[.pointer (some ⟨w.heap.size, 0, none⟩)] 86)) = W0 := ⟨_, rfl⟩
 have hsz : W0.heap.size = w.heap.size + 4 := by rw [← hW0]; simp
 have hB0 : Below w.heap.size w W0 := by rw [← hW0]; exact ((((Below.refl _ w).alloc (Nat.le_refl _) _).alloc (by simp) _).alloc (by simp <;> omega) _).alloc (by simp <;> omega) _
 have hM0 : MBox W0 w.heap.size m := by rw [← hW0]; exact (Below.heap_alloc _ _ _ (by simp <;> omega)).trans ((Below.heap_alloc _ _ _ (by simp <;> omega)).trans ((Below.heap_alloc _ _ _ (by simp)).trans (heap_alloc_last _ _)))
 have hE0 : W0.heap[w.heap.size + 1]? = some (.cells #[.int .i64 0] 29 (0, 0)) := by rw [← hW0]; exact (Below.heap_alloc _ _ _ (by simp <;> omega)).trans ((Below.heap_alloc _ _ _ (by simp)).trans (heap_alloc2_new _ _ _))
 have hS0 : Two (w.heap.size + 1 + 1) (w.heap.size + 1 + 1 + 1) w.heap.size w.heap.size W0 := by
  rw [← hW0]
  refine ⟨(Below.heap_alloc _ _ _ (by simp)).trans ?_, ?_⟩
  · have := heap_alloc_last ((w.alloc (.cells #[.bool m.S.s, .slice m.S.A m.S.n m.S.c, .int .i64 m.S.e, .bool m.W.s, .slice m.W.A m.W.n m.W.c, .int .i64 m.W.e, .bool m.C.s, .slice m.C.A m.C.n m.C.c, .int .i64 m.C.e, .bool m.A.s, .slice m.A.A m.A.n m.A.c, .int .i64 m.A.e] 26)).alloc (.cells #[.int .i64 0] 29)) (.cells #[.pointer (some ⟨w.heap.size, 0, none⟩)] 86)
    simpa using this
  · have := heap_alloc_last (((w.alloc (.cells #[.bool m.S.s, .slice m.S.A m.S.n m.S.c, .int .i64 m.S.e, .bool m.W.s, .slice m.W.A m.W.n m.W.c, .int .i64 m.W.e, .bool m.C.s, .slice m.C.A m.C.n m.C.c, .int .i64 m.C.e, .bool m.A.s, .slice m.A.A m.A.n m.A.c, .int .i64 m.A.e] 26)).alloc (.cells #[.int .i64 0] 29)).alloc (.cells #[.pointer (some ⟨w.heap.size, 0, none⟩)] 86)) (.cells #[.pointer (some ⟨w.heap.size, 0, none⟩)] 86)
    simpa using this
 have HSZ := Lib.hid hsz
 have hlo : w.heap.size + 4 ≤ W0.heap.size := by omega
 have hhi : W0.heap.size ≤ w.heap.size + 4 := by omega
 rw [hW0]
 clear hW0 hsz
 refine wpIn_rangeFunc_sep2 (F := Fence.wide) rfl (by decide) (gf := 80) (lb := #[.pointer (some ⟨w.heap.size + 1 + 1, 0, none⟩), .pointer (some ⟨w.heap.size + 1 + 1 + 1, 0, none⟩)]) rfl trivial (enters_of Tryd.func80 (by kernel_rfl) rfl)
  (parts_seq _ _ _ _ _ W0 hS0) (by omega) (fun _ => rfl)
  (fun pre O W => O (w.heap.size + 1) ∧ (∀ x, x ∈ pre → x < 4 → (m.get x).may) ∧ MBox W w.heap.size m ∧ W.heap[w.heap.size + 1]? = some (.cells #[.int .i64 0] 29 (0, 0)) ∧ Below w.heap.size w W)
  (fun j pre O W => j = .ret ∧ (¬ m.may) ∧ W.heap[w.heap.size + 1]? = some (.cells #[.int .i64 8] 29 (0, 0)) ∧ Below w.heap.size w W)
  (fun O s A B row hs hg hr => ⟨hs.1, hs.2.1, heap_own hs.2.2.1 hg (fun r e => (hr r e).2), heap_own hs.2.2.2.1 hg (fun r e => (hr r e).2), hs.2.2.2.2.grown hg hs.2.2.2.2.size (fun k e => by have := (hr k e).1; omega)⟩)
  (fun j O s A B row hs hg hr => ⟨hs.1, hs.2.1, heap_own hs.2.2.1 hg (fun r e => (hr r e).2), hs.2.2.2.grown hg hs.2.2.2.size (fun k e => by have := (hr k e).1; omega)⟩)
  (fun s O A B row hs hg hr => ⟨hs.1, hs.2.1, heap_loose hs.2.2.1 hg hr (by omega), heap_loose hs.2.2.2.1 hg hr (by omega), below_loose hs.2.2.2.2 (Nat.le_refl _) hg hr (by omega)⟩)
  (fun j s O A B row hs hg hr => ⟨hs.1, hs.2.1, heap_loose hs.2.2.1 hg hr (by omega), below_loose hs.2.2.2 (Nat.le_refl _) hg hr (by omega)⟩)
  (fun k => k = w.heap.size + 1) (fun k hk e => by omega) (fun k e => by omega) ⟨rfl, (fun x hx => absurd hx (List.not_mem_nil)), hM0, hE0, hB0⟩
  (fun x a' W => a' = { tmps := #[.agg #[.bool m.S.s, .slice m.S.A m.S.n m.S.c, .int .i64 m.S.e, .bool m.W.s, .slice m.W.A m.W.n m.W.c, .int .i64 m.W.e, .bool m.C.s, .slice m.C.A m.C.n m.C.c, .int .i64 m.C.e, .bool m.A.s, .slice m.A.A m.A.n m.A.c, .int .i64 m.A.e], .pointer (some ⟨w.heap.size, 0, none⟩), .pointer (some ⟨w.heap.size + 1, 0, none⟩), .pointer (some ⟨w.heap.size, 3 * x, none⟩), undef,
   .func (.func 80) #[] #[.pointer (some ⟨w.heap.size + 1 + 1, 0, none⟩), .pointer (some ⟨w.heap.size + 1 + 1 + 1, 0, none⟩)], .pointer (some ⟨w.heap.size, 3 * x, none⟩), .pointer (some ⟨w.heap.size, 3 * x, none⟩), undef, undef, undef, undef, undef, undef, undef], defers := [] })
  (fun x a' _ _ _ _ h _ _ => h) ?assign ?body ?done ?stop
 case assign =>
  intro l pre x O W K hgx hsW hi hK
  unfold encM
  gi_wp2
  exact hK _ _ (KeepsFrom.refl _ _) (Gain.refl _ _) hi rfl
 case body =>
  rintro l pre x O a' W ⟨hx4, hpre⟩ hsW ⟨hO, hall, hM, hE, hb⟩ rfl _
  obtain ⟨⟨k1, k2, k3⟩, _⟩ := MBox.at_ hM hx4
  have hrow : Ints W 0 W.heap.size .u32 (m.get x).A (m.get x).n (m.get x).xs := ((hR.get x).below hb (Nat.le_refl _)).more (Nat.le_refl _) hb.size
  generalize hd : m.get x = d at k1 k2 k3 hrow
  have HD := Lib.hid hd
  clear hd
  obtain ⟨e1, e2⟩ := cells1 hE
  by_cases hm : d.may
  · have hc : chkX d.s d.xs d.e = 0 := if_pos hm
    have HC := Lib.hid hc
    have HM := Lib.hid hm
    clear hc hm
    gi_wp2_with fail
    refine ⟨trivial, (CallsIn.inRound l (callsIn_wide.2 (Check_all W d.s d.A d.n d.c d.xs d.e hrow 0 HC.out))).mono ?_⟩
    rintro e W2 ⟨rfl, hB⟩
    gi_wp2
    refine ⟨keeps_below hB, O, gain_below hB, hO, fun y hy hy4 => ?_, box_on hM hB (by omega), box_on hE hB (by omega), hb.trans (hB.mono hb.size)⟩
    rcases List.mem_append.1 hy with h | h
    · exact hall y h hy4
    · rw [List.mem_singleton.1 h, HD.out]
      exact HM.out
  · have hc : chkX d.s d.xs d.e = 8 := if_neg hm
    have HC := Lib.hid hc
    have HM := Lib.hid hm
    clear hc hm
    gi_wp2_with fail
    refine ⟨trivial, (CallsIn.inRound l (callsIn_wide.2 (Check_all W d.s d.A d.n d.c d.xs d.e hrow 8 HC.out))).mono ?_⟩
    rintro e W2 ⟨rfl, hB⟩
    have hE2 := box_on hE hB (by omega)
    obtain ⟨e3, e4⟩ := cells1 hE2
    clear e1 e2
    gi_wp2
    exact ⟨(keeps_below hB).trans ((KeepsOthers.setCell _ _ _).from _), O, (gain_below hB).trans (gain_set hO _), rfl, fun h => HM.out (by have := h x hx4; rw [HD.out] at this; exact this), set1 hE2 _, (hb.trans (hB.mono hb.size)).setCell (by simp) _⟩
 case done =>
  rintro D ys O W hD hS ⟨hO, hall, hM, hE, hb⟩ hK
  obtain ⟨e1, e2⟩ := cells1 hE
  have hm : m.may := fun x hx => hall x (by rw [hS]; simp; omega) hx
  have hk := HK.out
  rw [chkM, if_pos hm] at hk
  subst hk
  clear hm hS hall
  gi_wp2
  have hK' := (KeepsOthers.setCell W ⟨w.heap.size + 1, 0, none⟩ (.int .i64 0)).same D _ hK rfl
  have c1 := cells1 ((World.putObj_heap_other (o := .deferred none) (by omega : w.heap.size + 1 ≠ D)).trans (set1 hE (.int .i64 0)))
  refine ⟨by simp, .inl ⟨_, _, rfl, run_takeDeferred hK', ?_⟩⟩
  refine ⟨.int .i64 0, ?_, rfl, ?_⟩
  · simp [results, Tryd.f57, go_sem, c1.1]
  · exact (hb.setCell (by simp) _).trans (belowK_b (w := w) (Nat.le_refl _) _ D _ _ (by omega) hK' rfl rfl)
 case stop =>
  rintro D j pre O W hD hSp ⟨rfl, hm, hE, hb⟩ hK
  have hk := HK.out
  rw [chkM, if_neg hm] at hk
  subst hk
  gi_wp2
  have c1 := cells1 ((World.putObj_heap_other (o := .deferred none) (by omega : w.heap.size + 1 ≠ D)).trans hE)
  refine ⟨by simp, .inl ⟨_, _, rfl, run_takeDeferred hK, ?_⟩⟩
  refine ⟨.int .i64 8, ?_, rfl, ?_⟩
  · simp [results, Tryd.f57, go_sem, c1.1]
  · exact hb.trans (belowK_b (w := w) (Nat.le_refl _) _ D _ _ (by omega) hK rfl rfl)
end Ma
end Go.Proofs.YtbbnbgllgomolaaDoor
namespace Go.Proofs.YtbbnbgllgomolaaDoor
open Go.RowKit
namespace Ma
open Dp Dy
attribute [local go_sem] Oper.semAt_some
def sameV (d d' : Dv) : Bool := Pa.Dy.same ⟨d.s, d.xs, d.e⟩ ⟨d'.s, d'.xs, d'.e⟩
def sameM (a b : Mv) : Bool := sameV a.S b.S && sameV a.W b.W && sameV a.C b.C && sameV a.A b.A
theorem four {p : Nat → Prop} (h0 : p 0) (h1 : p 1) (h2 : p 2) (h3 : p 3) : ∀ x, x < 4 → p x := fun x hx => by
 have hx' : x = 0 ∨ x = 1 ∨ x = 2 ∨ x = 3 := by omega
 rcases hx' with rfl | rfl | rfl | rfl
 · exact h0
 · exact h1
 · exact h2
 · exact h3
theorem sameM_iff (a b : Mv) : sameM a b = true ↔ ∀ x, x < 4 → sameV (a.get x) (b.get x) = true := by
 unfold sameM
 simp only [Bool.and_eq_true]
 exact ⟨fun h => four h.1.1.1 h.1.1.2 h.1.2 h.2, fun h => ⟨⟨⟨h 0 (by decide), h 1 (by decide)⟩, h 2 (by decide)⟩, h 3 (by decide)⟩⟩
theorem heapN {w w' : World} {g : Nat} {o : Obj} (hb : Below w.heap.size w w') (h : w.heap[g]? = some o) : w'.heap[g]? = some o := (hb.block g (lt_of_heap h)).trans h
theorem boxes5 (w : World) (o1 o2 o3 o4 o5 : Obj) {w1 : World} (hw : ((((w.alloc o1).alloc o2).alloc o3).alloc o4).alloc o5 = w1) :
  (w1.heap[w.heap.size]? = some o1 ∧ w1.heap[w.heap.size + 1]? = some o2 ∧ w1.heap[w.heap.size + 1 + 1]? = some o3 ∧ w1.heap[w.heap.size + 1 + 1 + 1]? = some o4 ∧ w1.heap[w.heap.size + 1 + 1 + 1 + 1]? = some o5) ∧ Below w.heap.size w w1 ∧ w.heap.size + 5 ≤ w1.heap.size ∧ w1.heap.size ≤ w.heap.size + 5 := by
 obtain ⟨h1, h2, h3, h4, h5, h6⟩ := boxes3 w o1 o2 o3 rfl
 obtain ⟨k1, k2, k3, k4, k5⟩ := boxes2 (((w.alloc o1).alloc o2).alloc o3) o4 o5 rfl
 subst hw
 have e : (((w.alloc o1).alloc o2).alloc o3).heap.size = w.heap.size + 1 + 1 + 1 := by simp
 rw [e] at k1 k2
 exact ⟨⟨heapN k3 h1, heapN k3 h2, heapN k3 h3, k1, k2⟩, h4.trans (k3.mono (by omega)), by omega, by omega⟩
set_option maxHeartbeats 3200000 in
set_option maxRecDepth 100000 in
/-- mass.Same. -/
theorem MSame_any (w : World) (a b : Mv) (hA : MRows w 0 w.heap.size a) (hBb : MRows w 0 w.heap.size b) (k : Bool) (hk : sameM a b = k) :
  Calls Tryd.prog 32 #[.agg #[.bool a.S.s, .slice a.S.A a.S.n a.S.c, .int .i64 a.S.e, .bool a.W.s, .slice a.W.A a.W.n a.W.c, .int .i64 a.W.e, .bool a.C.s, .slice a.C.A a.C.n a.C.c, .int .i64 a.C.e, .bool a.A.s, .slice a.A.A a.A.n a.A.c, .int .i64 a.A.e], .agg #[.bool b.S.s, .slice b.S.A b.S.n b.S.c, .int .i64 b.S.e, .bool b.W.s, .slice b.W.A b.W.n b.W.c, .int .i64 b.W.e, .bool b.C.s, .slice b.C.A b.C.n b.C.c, .int .i64 b.C.e, .bool b.A.s, .slice b.A.A b.A.n b.A.c, .int .i64 b.A.e]] w fun e w' => e = .returned (.bool k) ∧ Below w.heap.size w w' := by
 have HK := Lib.hid hk
 clear hk
 have hmx : Tryd.prog.follows .mixedOrders = true := by kernel_rfl
 refine (callsIn_wide (n := 5)).1 ?_
 refine callsIn_of_wp_marks Tryd.func32 rfl trivial ?_ rfl
 simp only [Tryd.ntmps32, List.size_toArray, List.length_cons, List.length_nil, Nat.reduceAdd, Nat.reduceSub, Array.replicate_succ, Array.replicate_zero, List.push_toArray, List.append_toArray, List.nil_append, List.cons_append]
 gi_wp2_with fail
 refine ⟨trivial, (callsIn_wide.2 (parts_any _ _ _)).mono ?_⟩
 rintro e w2 ⟨rfl, rfl⟩
 gi_wp2_with fail
 obtain ⟨W0, hW0⟩ : ∃ W0, ((((w.alloc (.cells #[.bool a.S.s, .slice a.S.A a.S.n a.S.c, .int .i64 a.S.e, .bool a.W.s, .slice a.W.A a.W.n a.W.c, .int .i64 a.W.e, .bool a.C.s, .slice a.C.A a.C.n a.C.c, .int .i64 a.C.e, .bool a.A.s, .slice a.A.A a.A.n a.A.c, .int .i64 a.A.e] 26)).alloc (.cells #[.bool b.S.s, .slice b.S.A b.S.n b.S.c, .int .i64 b.S.e, .bool b.W.s, .slice b.W.A b.W.n b.W.c, .int .i64 b.W.e, .bool b.C.s, .slice b.C.A b.C.n b.C.c, .int .i64 b.C.e, .bool b.A.s, .slice b.A.A b.A.n b.A.c, .int .i64 b.A.e] 26)).alloc (.cells #[.bool false] 4)).alloc (.cells #[.pointer (some ⟨w.heap.size, 0, none⟩)] 86)).alloc (.cells #[.pointer (some ⟨w.heap.size + 1, 0, none⟩)] 86) = W0 := ⟨_, rfl⟩
 obtain ⟨⟨hM0, hN0, hE0, hS1, hS2⟩, hB0, hlo, hhi⟩ := boxes5 w _ _ _ _ _ hW0
 rw [hW0]
 clear hW0
 refine wpIn_rangeFunc_sep2 (F := Fence.wide) rfl (by decide) (gf := 80) (lb := #[.pointer (some ⟨w.heap.size + 1 + 1 + 1, 0, none⟩), .pointer (some ⟨w.heap.size + 1 + 1 + 1 + 1, 0, none⟩)]) rfl trivial (enters_of Tryd.func80 (by kernel_rfl) rfl)
  (parts_seq _ _ _ w.heap.size (w.heap.size + 1) W0 ⟨hS1, hS2⟩) (by omega) (fun _ => rfl)
  (fun pre O W => O (w.heap.size + 1 + 1) ∧ (∀ x, x ∈ pre → x < 4 → sameV (a.get x) (b.get x) = true) ∧ MBox W w.heap.size a ∧ MBox W (w.heap.size + 1) b ∧ W.heap[w.heap.size + 1 + 1]? = some (.cells #[.bool false] 4 (0, 0)) ∧ Below w.heap.size w W)
  (fun j pre O W => j = .ret ∧ sameM a b = false ∧ W.heap[w.heap.size + 1 + 1]? = some (.cells #[.bool false] 4 (0, 0)) ∧ Below w.heap.size w W)
  (fun O s A B row hs hg hr => ⟨hs.1, hs.2.1, heap_own hs.2.2.1 hg (fun r e => (hr r e).2), heap_own hs.2.2.2.1 hg (fun r e => (hr r e).2), heap_own hs.2.2.2.2.1 hg (fun r e => (hr r e).2), hs.2.2.2.2.2.grown hg hs.2.2.2.2.2.size (fun k e => by have := (hr k e).1; omega)⟩)
  (fun j O s A B row hs hg hr => ⟨hs.1, hs.2.1, heap_own hs.2.2.1 hg (fun r e => (hr r e).2), hs.2.2.2.grown hg hs.2.2.2.size (fun k e => by have := (hr k e).1; omega)⟩)
  (fun s O A B row hs hg hr => ⟨hs.1, hs.2.1, heap_loose hs.2.2.1 hg hr (by omega), heap_loose hs.2.2.2.1 hg hr (by omega), heap_loose hs.2.2.2.2.1 hg hr (by omega), below_loose hs.2.2.2.2.2 (Nat.le_refl _) hg hr (by omega)⟩)
  (fun j s O A B row hs hg hr => ⟨hs.1, hs.2.1, heap_loose hs.2.2.1 hg hr (by omega), below_loose hs.2.2.2 (Nat.le_refl _) hg hr (by omega)⟩)
  (fun k => k = w.heap.size + 1 + 1) (fun k hk e => by omega) (fun k e => by omega) ⟨rfl, (fun x hx => absurd hx (List.not_mem_nil)), hM0, hN0, hE0, hB0⟩
  (fun x a' W => a' = { tmps := #[.agg #[.bool a.S.s, .slice a.S.A a.S.n a.S.c, .int .i64 a.S.e, .bool a.W.s, .slice a.W.A a.W.n a.W.c, .int .i64 a.W.e, .bool a.C.s, .slice a.C.A a.C.n a.C.c, .int .i64 a.C.e, .bool a.A.s, .slice a.A.A a.A.n a.A.c, .int .i64 a.A.e], .agg #[.bool b.S.s, .slice b.S.A b.S.n b.S.c, .int .i64 b.S.e, .bool b.W.s, .slice b.W.A b.W.n b.W.c, .int .i64 b.W.e, .bool b.C.s, .slice b.C.A b.C.n b.C.c, .int .i64 b.C.e, .bool b.A.s, .slice b.A.A b.A.n b.A.c, .int .i64 b.A.e], .pointer (some ⟨w.heap.size, 0, none⟩), .pointer (some ⟨w.heap.size + 1, 0, none⟩), .pointer (some ⟨w.heap.size + 1 + 1, 0, none⟩), .pointer (some ⟨w.heap.size, 3 * x, none⟩), .pointer (some ⟨w.heap.size + 1, 3 * x, none⟩),
   .func (.func 80) #[] #[.pointer (some ⟨w.heap.size + 1 + 1 + 1, 0, none⟩), .pointer (some ⟨w.heap.size + 1 + 1 + 1 + 1, 0, none⟩)], .pointer (some ⟨w.heap.size, 3 * x, none⟩), .pointer (some ⟨w.heap.size + 1, 3 * x, none⟩), undef, undef, undef, undef, undef, undef, undef, undef], defers := [] })
  (fun x a' _ _ _ _ h _ _ => h) ?assign ?body ?done ?stop
 case assign =>
  intro l pre x O W K hgx hsW hi hK
  unfold encM
  gi_wp2
  exact hK _ _ (KeepsFrom.refl _ _) (Gain.refl _ _) hi rfl
 case body =>
  rintro l pre x O a' W ⟨hx4, hpre⟩ hsW ⟨hO, hall, hM, hN, hE, hb⟩ rfl _
  have hrow : Ints W 0 W.heap.size .u32 (a.get x).A (a.get x).n (a.get x).xs := ((hA.get x).below hb (Nat.le_refl _)).more (Nat.le_refl _) hb.size
  have hrow2 : Ints W 0 W.heap.size .u32 (b.get x).A (b.get x).n (b.get x).xs := ((hBb.get x).below hb (Nat.le_refl _)).more (Nat.le_refl _) hb.size
  have hcm := MBox.at_ hM hx4
  have hcn := MBox.at_ hN hx4
  generalize hd : a.get x = d at hcm hrow
  generalize hd' : b.get x = d' at hcn hrow2
  have HD := Lib.hid hd
  have HD' := Lib.hid hd'
  clear hd hd'
  obtain ⟨r, hr⟩ : ∃ r, sameV d d' = r := ⟨_, rfl⟩
  have HR := Lib.hid hr
  clear hr
  gi_wp2
  refine roundRegion_E (Keeps W) [] (m := 8) (L := #[zF,zF,zF,zF,zF,zF,zF,zF]) hmx (by kernel_rfl) (fun _ _ h => h) (by rfl) (by rfl) ?_
  have kD : Keeps W W.drew := fun _ _ => rfl
  refine zE 0 #[zT,zF,zF,zF,zF,zF,zF,zF] ?_ rfl ?hy102 ?rest102
  case hy102 => intro w; go_simp; (try with_reducible rfl)
  try simp only [Act.put, zp]
  refine zE 1 #[zT,zT,zF,zF,zF,zF,zF,zF] ?_ rfl ?hy103 ?rest103
  case hy103 => intro w; go_simp; (try with_reducible rfl)
  try simp only [Act.put, zp]
  refine readE (i := 2) (L := #[zT,zT,zT,zF,zF,zF,zF,zF]) (v := .agg #[.bool d.s, .slice d.A d.n d.c, .int .i64 d.e]) rfl (by rfl) (by kernel_rfl) (by kernel_rfl) (by kernel_rfl) (fun _ _ _ h => h) (by assumption) (by rfl) ?ry2 ?rr2
  case ry2 =>
   intro w' h1
   obtain ⟨⟨k1, k2, k3⟩, _⟩ := MBox.at_ ((h1 _ (by omega)).trans hM) hx4
   rw [HD.out] at k1 k2 k3
   go_simp
  try simp only [Act.put, zp]
  refine zE 3 #[zT,zT,zT,zT,zF,zF,zF,zF] ?_ rfl ?hy105 ?rest105
  case hy105 => intro w; go_simp; (try with_reducible rfl)
  try simp only [Act.put, zp]
  refine zE 4 #[zT,zT,zT,zT,zT,zF,zF,zF] ?_ rfl ?hy106 ?rest106
  case hy106 => intro w; go_simp; (try with_reducible rfl)
  try simp only [Act.put, zp]
  refine readE (i := 5) (L := #[zT,zT,zT,zT,zT,zT,zF,zF]) (v := .agg #[.bool d'.s, .slice d'.A d'.n d'.c, .int .i64 d'.e]) rfl (by rfl) (by kernel_rfl) (by kernel_rfl) (by kernel_rfl) (fun _ _ _ h => h) (by assumption) (by rfl) ?ry5 ?rr5
  case ry5 =>
   intro w' h1
   obtain ⟨⟨k1, k2, k3⟩, _⟩ := MBox.at_ ((h1 _ (by omega)).trans hN) hx4
   rw [HD'.out] at k1 k2 k3
   go_simp
  try simp only [Act.put, zp]
  refine stepK (i := 6) (L := #[zT,zT,zT,zT,zT,zT,zT,zF]) rfl (by rfl) (by kernel_rfl) (by rfl) (fun K hK => ?_)
  go_simp
  go_at_call 23
  refine (Pa.dyadSame_any W.drew _ _ _ _ _ _ _ _ _ _ _ _ (hrow.drewN 1) (hrow2.drewN 1) r HR.out).mono ?_
  rintro e W2 ⟨rfl, hB'⟩
  have hB : Below W.heap.size W W2 := (Below.refl _ W).drew.trans hB'
  clear hB'
  refine hK _ _ ⟨fun _ _ p hp => hB.block p hp, ?_⟩
  clear hK K
  try simp only [Act.put, zp]
  refine zE 7 #[zT,zT,zT,zT,zT,zT,zT,zT] ?_ rfl ?hy109 ?rest109
  case hy109 => intro w; go_simp; (try with_reducible rfl)
  try simp only [Act.put, zp]
  refine doneE (by kernel_rfl) ?_ _
  have hE2 := box_on hE hB (by omega)
  obtain ⟨e3, e4⟩ := cells1 hE2
  cases r
  · gi_wp2
    refine ⟨(keeps_below hB).trans ((KeepsOthers.setCell _ _ _).from _), O, (gain_below hB).trans (gain_set hO _), rfl, ?_, set1 hE2 _, (hb.trans (hB.mono hb.size)).setCell (by simp <;> omega) _⟩
    refine Bool.eq_false_iff.2 fun h => ?_
    have := (sameM_iff a b).1 h x hx4
    rw [HD.out, HD'.out, HR.out] at this
    cases this
  · gi_wp2
    refine ⟨keeps_below hB, O, gain_below hB, hO, fun y hy hy4 => ?_, box_on hM hB (by omega), box_on hN hB (by omega), hE2, hb.trans (hB.mono hb.size)⟩
    rcases List.mem_append.1 hy with h | h
    · exact hall y h hy4
    · rw [List.mem_singleton.1 h, HD.out, HD'.out]
      exact HR.out
 case done =>
  rintro D ys O W hD hS ⟨hO, hall, hM, hN, hE, hb⟩ hK
  obtain ⟨e1, e2⟩ := cells1 hE
  have hk := HK.out
  rw [show sameM a b = true from (sameM_iff a b).2 fun x hx => hall x (by rw [hS]; simp; omega) hx] at hk
  subst hk
  clear hS hall
  gi_wp2
  have hK' := (KeepsOthers.setCell W ⟨w.heap.size + 1 + 1, 0, none⟩ (.bool true)).same D _ hK rfl
  have c1 := cells1 ((World.putObj_heap_other (o := .deferred none) (by omega : w.heap.size + 1 + 1 ≠ D)).trans (set1 hE (.bool true)))
  refine ⟨by simp, .inl ⟨_, _, rfl, run_takeDeferred hK', ?_⟩⟩
  refine ⟨.bool true, ?_, rfl, ?_⟩
  · simp [results, Tryd.f32, go_sem, c1.1]
  · exact (hb.setCell (by simp <;> omega) _).trans (belowK_b (w := w) (Nat.le_refl _) _ D _ _ (by omega) hK' rfl rfl)
 case stop =>
  rintro D j pre O W hD hSp ⟨rfl, hm, hE, hb⟩ hK
  have hk := HK.out
  rw [hm] at hk
  subst hk
  gi_wp2
  have c1 := cells1 ((World.putObj_heap_other (o := .deferred none) (by omega : w.heap.size + 1 + 1 ≠ D)).trans hE)
  refine ⟨by simp, .inl ⟨_, _, rfl, run_takeDeferred hK, ?_⟩⟩
  refine ⟨.bool false, ?_, rfl, ?_⟩
  · simp [results, Tryd.f32, go_sem, c1.1]
  · exact hb.trans (belowK_b (w := w) (Nat.le_refl _) _ D _ _ (by omega) hK rfl rfl)
end Ma
end Go.Proofs.YtbbnbgllgomolaaDoor
namespace Go.Proofs.YtbbnbgllgomolaaDoor
open Go.RowKit
namespace Ma
open Dp Dy
attribute [local go_sem] Oper.semAt_some
def Mv.put (m : Mv) (x : Nat) (d : Dv) : Mv := match x with
 | 0 => { m with S := d }
 | 1 => { m with W := d }
 | 2 => { m with C := d }
 | _ => { m with A := d }
theorem put_get {m : Mv} {x y : Nat} {d : Dv} (hx : x < 4) (hy : y < 4) : (m.put x d).get y = if y = x then d else m.get y := by
 have hx' : x = 0 ∨ x = 1 ∨ x = 2 ∨ x = 3 := by omega
 have hy' : y = 0 ∨ y = 1 ∨ y = 2 ∨ y = 3 := by omega
 rcases hx' with rfl | rfl | rfl | rfl <;> rcases hy' with rfl | rfl | rfl | rfl <;> rfl
theorem MBox.put {w : World} {g : Nat} {m : Mv} (h : MBox w g m) {x : Nat} (hx : x < 4) (d : Dv) :
  MBox (((w.setCell ⟨g, 3 * x, none⟩ (.bool d.s)).setCell ⟨g, 3 * x + 1, none⟩ (.slice d.A d.n d.c)).setCell ⟨g, 3 * x + 2, none⟩ (.int .i64 d.e)) g (m.put x d) := by
 have hx' : x = 0 ∨ x = 1 ∨ x = 2 ∨ x = 3 := by omega
 unfold MBox at *
 rcases hx' with rfl | rfl | rfl | rfl <;> simp [World.setCell, Array.getElem?_modify, h, Mv.put]
theorem MBox.cells {w : World} {g : Nat} {m : Mv} (h : MBox w g m) : (w.cell? ⟨g, 0, none⟩ = some (.bool m.S.s) ∧ w.cell? ⟨g, 1, none⟩ = some (.slice m.S.A m.S.n m.S.c) ∧ w.cell? ⟨g, 2, none⟩ = some (.int .i64 m.S.e) ∧ w.cell? ⟨g, 3, none⟩ = some (.bool m.W.s) ∧ w.cell? ⟨g, 4, none⟩ = some (.slice m.W.A m.W.n m.W.c) ∧ w.cell? ⟨g, 5, none⟩ = some (.int .i64 m.W.e) ∧ w.cell? ⟨g, 6, none⟩ = some (.bool m.C.s) ∧ w.cell? ⟨g, 7, none⟩ = some (.slice m.C.A m.C.n m.C.c) ∧ w.cell? ⟨g, 8, none⟩ = some (.int .i64 m.C.e) ∧ w.cell? ⟨g, 9, none⟩ = some (.bool m.A.s) ∧ w.cell? ⟨g, 10, none⟩ = some (.slice m.A.A m.A.n m.A.c) ∧ w.cell? ⟨g, 11, none⟩ = some (.int .i64 m.A.e)) ∧ ∀ k, w.frozen? ⟨g, k, none⟩ = false := by
 refine ⟨?_, fun k => frozen_of_row w g k _ _ h⟩
 have hc : ∀ k v, (#[.bool m.S.s, .slice m.S.A m.S.n m.S.c, .int .i64 m.S.e, .bool m.W.s, .slice m.W.A m.W.n m.W.c, .int .i64 m.W.e, .bool m.C.s, .slice m.C.A m.C.n m.C.c, .int .i64 m.C.e, .bool m.A.s, .slice m.A.A m.A.n m.A.c, .int .i64 m.A.e] : Array Value)[k]? = some v → w.cell? ⟨g, k, none⟩ = some v := fun k v hk => by
  unfold MBox at h
  simp [World.cell?, h]
  simpa using hk
 exact ⟨hc _ _ rfl, hc _ _ rfl, hc _ _ rfl, hc _ _ rfl, hc _ _ rfl, hc _ _ rfl, hc _ _ rfl, hc _ _ rfl, hc _ _ rfl, hc _ _ rfl, hc _ _ rfl, hc _ _ rfl⟩
/-- A whole mass is laid into a block of 12 cells. -/
theorem MBox.all {w : World} {g : Nat} {m0 : Mv} (h : MBox w g m0) (m : Mv) : MBox ((((((((((((w.setCell ⟨g, 0, none⟩ (.bool m.S.s)).setCell ⟨g, 1, none⟩ (.slice m.S.A m.S.n m.S.c)).setCell ⟨g, 2, none⟩ (.int .i64 m.S.e)).setCell ⟨g, 3, none⟩ (.bool m.W.s)).setCell ⟨g, 4, none⟩ (.slice m.W.A m.W.n m.W.c)).setCell ⟨g, 5, none⟩ (.int .i64 m.W.e)).setCell ⟨g, 6, none⟩ (.bool m.C.s)).setCell ⟨g, 7, none⟩ (.slice m.C.A m.C.n m.C.c)).setCell ⟨g, 8, none⟩ (.int .i64 m.C.e)).setCell ⟨g, 9, none⟩ (.bool m.A.s)).setCell ⟨g, 10, none⟩ (.slice m.A.A m.A.n m.A.c)).setCell ⟨g, 11, none⟩ (.int .i64 m.A.e)) g m :=
 ((((h.put (x := 0) (by decide) m.S).put (x := 1) (by decide) m.W).put (x := 2) (by decide) m.C).put (x := 3) (by decide) m.A)
theorem below_all {w0 w : World} {B g : Nat} (h : Below B w0 w) (hg : B ≤ g) (m : Mv) : Below B w0 ((((((((((((w.setCell ⟨g, 0, none⟩ (.bool m.S.s)).setCell ⟨g, 1, none⟩ (.slice m.S.A m.S.n m.S.c)).setCell ⟨g, 2, none⟩ (.int .i64 m.S.e)).setCell ⟨g, 3, none⟩ (.bool m.W.s)).setCell ⟨g, 4, none⟩ (.slice m.W.A m.W.n m.W.c)).setCell ⟨g, 5, none⟩ (.int .i64 m.W.e)).setCell ⟨g, 6, none⟩ (.bool m.C.s)).setCell ⟨g, 7, none⟩ (.slice m.C.A m.C.n m.C.c)).setCell ⟨g, 8, none⟩ (.int .i64 m.C.e)).setCell ⟨g, 9, none⟩ (.bool m.A.s)).setCell ⟨g, 10, none⟩ (.slice m.A.A m.A.n m.A.c)).setCell ⟨g, 11, none⟩ (.int .i64 m.A.e)) :=
 ((((((((((((h.setCell hg _).setCell hg _).setCell hg _).setCell hg _).setCell hg _).setCell hg _).setCell hg _).setCell hg _).setCell hg _).setCell hg _).setCell hg _).setCell hg _)
theorem size_set (w : World) (p : Addr) (v : Value) : (w.setCell p v).heap.size = w.heap.size := by simp [World.setCell]
theorem size_all {w : World} {g : Nat} (m : Mv) : (((((((((((((w.setCell ⟨g, 0, none⟩ (.bool m.S.s)).setCell ⟨g, 1, none⟩ (.slice m.S.A m.S.n m.S.c)).setCell ⟨g, 2, none⟩ (.int .i64 m.S.e)).setCell ⟨g, 3, none⟩ (.bool m.W.s)).setCell ⟨g, 4, none⟩ (.slice m.W.A m.W.n m.W.c)).setCell ⟨g, 5, none⟩ (.int .i64 m.W.e)).setCell ⟨g, 6, none⟩ (.bool m.C.s)).setCell ⟨g, 7, none⟩ (.slice m.C.A m.C.n m.C.c)).setCell ⟨g, 8, none⟩ (.int .i64 m.C.e)).setCell ⟨g, 9, none⟩ (.bool m.A.s)).setCell ⟨g, 10, none⟩ (.slice m.A.A m.A.n m.A.c)).setCell ⟨g, 11, none⟩ (.int .i64 m.A.e))).heap.size = w.heap.size := by simp only [size_set]
theorem far_all {w : World} {g g' : Nat} (hne : g' ≠ g) (m : Mv) : (((((((((((((w.setCell ⟨g, 0, none⟩ (.bool m.S.s)).setCell ⟨g, 1, none⟩ (.slice m.S.A m.S.n m.S.c)).setCell ⟨g, 2, none⟩ (.int .i64 m.S.e)).setCell ⟨g, 3, none⟩ (.bool m.W.s)).setCell ⟨g, 4, none⟩ (.slice m.W.A m.W.n m.W.c)).setCell ⟨g, 5, none⟩ (.int .i64 m.W.e)).setCell ⟨g, 6, none⟩ (.bool m.C.s)).setCell ⟨g, 7, none⟩ (.slice m.C.A m.C.n m.C.c)).setCell ⟨g, 8, none⟩ (.int .i64 m.C.e)).setCell ⟨g, 9, none⟩ (.bool m.A.s)).setCell ⟨g, 10, none⟩ (.slice m.A.A m.A.n m.A.c)).setCell ⟨g, 11, none⟩ (.int .i64 m.A.e))).heap[g']? = w.heap[g']? := by
 exact (Below.heap_setCell _ _ _ _ hne).trans ((Below.heap_setCell _ _ _ _ hne).trans ((Below.heap_setCell _ _ _ _ hne).trans ((Below.heap_setCell _ _ _ _ hne).trans ((Below.heap_setCell _ _ _ _ hne).trans ((Below.heap_setCell _ _ _ _ hne).trans ((Below.heap_setCell _ _ _ _ hne).trans ((Below.heap_setCell _ _ _ _ hne).trans ((Below.heap_setCell _ _ _ _ hne).trans ((Below.heap_setCell _ _ _ _ hne).trans ((Below.heap_setCell _ _ _ _ hne).trans (Below.heap_setCell _ _ _ _ hne)))))))))))
theorem keeps_all {w : World} {g : Nat} (m : Mv) : KeepsOthers w ((((((((((((w.setCell ⟨g, 0, none⟩ (.bool m.S.s)).setCell ⟨g, 1, none⟩ (.slice m.S.A m.S.n m.S.c)).setCell ⟨g, 2, none⟩ (.int .i64 m.S.e)).setCell ⟨g, 3, none⟩ (.bool m.W.s)).setCell ⟨g, 4, none⟩ (.slice m.W.A m.W.n m.W.c)).setCell ⟨g, 5, none⟩ (.int .i64 m.W.e)).setCell ⟨g, 6, none⟩ (.bool m.C.s)).setCell ⟨g, 7, none⟩ (.slice m.C.A m.C.n m.C.c)).setCell ⟨g, 8, none⟩ (.int .i64 m.C.e)).setCell ⟨g, 9, none⟩ (.bool m.A.s)).setCell ⟨g, 10, none⟩ (.slice m.A.A m.A.n m.A.c)).setCell ⟨g, 11, none⟩ (.int .i64 m.A.e)) :=
 ((((((((((((KeepsOthers.refl _).trans (KeepsOthers.setCell _ _ _)).trans (KeepsOthers.setCell _ _ _)).trans (KeepsOthers.setCell _ _ _)).trans (KeepsOthers.setCell _ _ _)).trans (KeepsOthers.setCell _ _ _)).trans (KeepsOthers.setCell _ _ _)).trans (KeepsOthers.setCell _ _ _)).trans (KeepsOthers.setCell _ _ _)).trans (KeepsOthers.setCell _ _ _)).trans (KeepsOthers.setCell _ _ _)).trans (KeepsOthers.setCell _ _ _)).trans (KeepsOthers.setCell _ _ _)
theorem rows_all {w : World} {g lo hi : Nat} {m' : Mv} (h : MRows w lo hi m') (hg : g < lo ∨ hi ≤ g) (m : Mv) : MRows ((((((((((((w.setCell ⟨g, 0, none⟩ (.bool m.S.s)).setCell ⟨g, 1, none⟩ (.slice m.S.A m.S.n m.S.c)).setCell ⟨g, 2, none⟩ (.int .i64 m.S.e)).setCell ⟨g, 3, none⟩ (.bool m.W.s)).setCell ⟨g, 4, none⟩ (.slice m.W.A m.W.n m.W.c)).setCell ⟨g, 5, none⟩ (.int .i64 m.W.e)).setCell ⟨g, 6, none⟩ (.bool m.C.s)).setCell ⟨g, 7, none⟩ (.slice m.C.A m.C.n m.C.c)).setCell ⟨g, 8, none⟩ (.int .i64 m.C.e)).setCell ⟨g, 9, none⟩ (.bool m.A.s)).setCell ⟨g, 10, none⟩ (.slice m.A.A m.A.n m.A.c)).setCell ⟨g, 11, none⟩ (.int .i64 m.A.e)) lo hi m' :=
 ⟨ints_far (ints_far (ints_far (ints_far (ints_far (ints_far (ints_far (ints_far (ints_far (ints_far (ints_far (ints_far (show Ints _ _ _ _ _ _ _ from h.S) hg _) hg _) hg _) hg _) hg _) hg _) hg _) hg _) hg _) hg _) hg _) hg _, ints_far (ints_far (ints_far (ints_far (ints_far (ints_far (ints_far (ints_far (ints_far (ints_far (ints_far (ints_far (show Ints _ _ _ _ _ _ _ from h.W) hg _) hg _) hg _) hg _) hg _) hg _) hg _) hg _) hg _) hg _) hg _) hg _, ints_far (ints_far (ints_far (ints_far (ints_far (ints_far (ints_far (ints_far (ints_far (ints_far (ints_far (ints_far (show Ints _ _ _ _ _ _ _ from h.C) hg _) hg _) hg _) hg _) hg _) hg _) hg _) hg _) hg _) hg _) hg _) hg _, ints_far (ints_far (ints_far (ints_far (ints_far (ints_far (ints_far (ints_far (ints_far (ints_far (ints_far (ints_far (show Ints _ _ _ _ _ _ _ from h.A) hg _) hg _) hg _) hg _) hg _) hg _) hg _) hg _) hg _) hg _) hg _) hg _⟩
def ZM : Mv := ⟨⟨false, none, 0, 0, 0, []⟩, ⟨false, none, 0, 0, 0, []⟩, ⟨false, none, 0, 0, 0, []⟩, ⟨false, none, 0, 0, 0, []⟩⟩
/-- A twin: the same but for where it lies. -/
def TwinV (d d' : Dv) : Prop := d'.s = d.s ∧ d'.n = d.n ∧ d'.e = d.e ∧ d'.xs = d.xs ∧ d'.n ≤ d'.c
theorem ints_own {W W' : World} {row : Option Nat} {lo hi : Nat} {k : IntKind} {A : Option Addr} {n : Nat} {xs : List Int} (h : Ints W lo hi k A n xs) (hg : W.grownBy W' row) (hr : ∀ r, row = some r → (∃ o : Obj, W.heap[r]? = some o ∧ o.isCells = false) ∨ r < lo) : Ints W' lo hi k A n xs :=
 ⟨h.len, h.wf, h.big, fun h0 => by
  obtain ⟨b, off, e, h1, h2, hc⟩ := h.row h0
  have hlt := World.block_lt_of_cell? W _ (hc 0 h0).1
  have h3 : W'.heap[b]? = W.heap[b]? := hg.block b hlt fun e' => by
   rcases hr b e'.symm with ⟨o, h4, h5⟩ | h4
   · have := (hc 0 h0).1
     rw [World.cell?] at this
     simp only [h4] at this
     cases o <;> simp_all [Obj.isCells]
   · omega
  exact ⟨b, off, e, h1, h2, fun j hj => ⟨by rw [World.cell?_of_block h3]; exact (hc j hj).1, by rw [World.frozen?_of_block h3]; exact (hc j hj).2⟩⟩⟩
theorem boxes4 (w : World) (o1 o2 o3 o4 : Obj) {w1 : World} (hw : (((w.alloc o1).alloc o2).alloc o3).alloc o4 = w1) :
  (w1.heap[w.heap.size]? = some o1 ∧ w1.heap[w.heap.size + 1]? = some o2 ∧ w1.heap[w.heap.size + 1 + 1]? = some o3 ∧ w1.heap[w.heap.size + 1 + 1 + 1]? = some o4) ∧ Below w.heap.size w w1 ∧ w.heap.size + 4 ≤ w1.heap.size ∧ w1.heap.size ≤ w.heap.size + 4 := by
 obtain ⟨h1, h2, h3, h4, h5⟩ := boxes2 w o1 o2 rfl
 obtain ⟨k1, k2, k3, k4, k5⟩ := boxes2 ((w.alloc o1).alloc o2) o3 o4 rfl
 subst hw
 have e : ((w.alloc o1).alloc o2).heap.size = w.heap.size + 1 + 1 := by simp
 rw [e] at k1 k2
 exact ⟨⟨heapN k3 h1, heapN k3 h2, k1, k2⟩, h3.trans (k3.mono (by omega)), by omega, by omega⟩
theorem grown_putD (w : World) (D : Nat) : w.grownBy (w.putObj D (.deferred none)) (some D) := ⟨rfl, rfl, rfl, by simp, fun k _ hk => World.putObj_heap_other (fun e => hk (by rw [e]))⟩
/-- What stands amid mass.Twin's rounds. -/
structure TwI (w : World) (B : Nat) (m : Mv) (pre : List Nat) (O : Nat → Prop) (W : World) (m' : Mv) : Prop where
 own : O w.heap.size
 box : MBox W w.heap.size m'
 res : MBox W (w.heap.size + 1) ZM
 done : ∀ j, j ∈ pre → j < 4 → TwinV (m.get j) (m'.get j) ∧ Ints W B W.heap.size .u32 (m'.get j).A (m'.get j).n (m'.get j).xs
 rest : ∀ j, j ∉ pre → j < 4 → m'.get j = m.get j
 bel : Below w.heap.size w W
set_option maxHeartbeats 6400000 in
set_option maxRecDepth 100000 in
/-- mass.Twin. -/
theorem MTwin_any (w : World) (m : Mv) (hR : MRows w 0 w.heap.size m) (hn : ∀ x, x < 4 → (m.get x).n ≤ 1000000) :
  Calls Tryd.prog 37 #[.agg #[.bool m.S.s, .slice m.S.A m.S.n m.S.c, .int .i64 m.S.e, .bool m.W.s, .slice m.W.A m.W.n m.W.c, .int .i64 m.W.e, .bool m.C.s, .slice m.C.A m.C.n m.C.c, .int .i64 m.C.e, .bool m.A.s, .slice m.A.A m.A.n m.A.c, .int .i64 m.A.e]] w fun e w' => ∃ m', e = .returned (.agg #[.bool m'.S.s, .slice m'.S.A m'.S.n m'.S.c, .int .i64 m'.S.e, .bool m'.W.s, .slice m'.W.A m'.W.n m'.W.c, .int .i64 m'.W.e, .bool m'.C.s, .slice m'.C.A m'.C.n m'.C.c, .int .i64 m'.C.e, .bool m'.A.s, .slice m'.A.A m'.A.n m'.A.c, .int .i64 m'.A.e]) ∧ (∀ x, x < 4 → TwinV (m.get x) (m'.get x)) ∧ Below w.heap.size w w' ∧ MRows w' w.heap.size w'.heap.size m' := by
 refine (callsIn_wide (n := 5)).1 ?_
 refine callsIn_of_wp_marks Tryd.func37 rfl trivial ?_ rfl
 simp only [Tryd.ntmps37, List.size_toArray, List.length_cons, List.length_nil, Nat.reduceAdd, Nat.reduceSub, Array.replicate_succ, Array.replicate_zero, List.push_toArray, List.append_toArray, List.nil_append, List.cons_append]
 gi_wp2_with fail
 refine ⟨trivial, (callsIn_wide.2 (parts_any _ _ _)).mono ?_⟩
 rintro e w2 ⟨rfl, rfl⟩
 gi_wp2_with fail
 obtain ⟨W0, hW0⟩ : ∃ W0, (((w.alloc (.cells #[.bool m.S.s, .slice m.S.A m.S.n m.S.c, .int .i64 m.S.e, .bool m.W.s, .slice m.W.A m.W.n m.W.c, .int .i64 m.W.e, .bool m.C.s, .slice m.C.A m.C.n m.C.c, .int .i64 m.C.e, .bool m.A.s, .slice m.A.A m.A.n m.A.c, .int .i64 m.A.e] 26)).alloc (.cells #[.bool false, .slice none 0 0, .int .i64 0, .bool false, .slice none 0 0, .int .i64 0, .bool false, .slice none 0 0, .int .i64 0, .bool false, .slice none 0 0, .int .i64 0] 26)).alloc (.cells #[.pointer (some ⟨w.heap.size, 0, none⟩)] 86)).alloc (.cells #[.pointer (some ⟨w.heap.size, 0, none⟩)] 86) = W0 := ⟨_, rfl⟩
 obtain ⟨⟨hM0, hE0, hS1, hS2⟩, hB0, hlo, hhi⟩ := boxes4 w _ _ _ _ hW0
 rw [hW0]
 clear hW0
 refine wpIn_rangeFunc_sep2 (F := Fence.wide) rfl (by decide) (gf := 80) (lb := #[.pointer (some ⟨w.heap.size + 1 + 1, 0, none⟩), .pointer (some ⟨w.heap.size + 1 + 1 + 1, 0, none⟩)]) rfl trivial (enters_of Tryd.func80 (by kernel_rfl) rfl)
  (parts_seq _ _ _ w.heap.size w.heap.size W0 ⟨hS1, hS2⟩) (by omega) (fun _ => rfl)
  (fun pre O W => W0.heap.size ≤ W.heap.size ∧ ∃ m', TwI w W0.heap.size m pre O W m')
  (fun _ _ _ _ => False)
  (fun O s A B row hs hg hr => by
   obtain ⟨hsz, m', h⟩ := hs
   exact ⟨Nat.le_trans hsz hg.size, m', h.own, heap_own h.box hg (fun r e => (hr r e).2), heap_own h.res hg (fun r e => (hr r e).2), fun j h1 h2 => ⟨(h.done j h1 h2).1, (ints_own (h.done j h1 h2).2 hg (fun r e => .inl (hr r e).2)).more (Nat.le_refl _) hg.size⟩, h.rest, h.bel.grown hg h.bel.size (fun k e => by have := (hr k e).1; omega)⟩)
  (fun j O s A B row hs hg hr => hs)
  (fun s O A B row hs hg hr => by
   obtain ⟨hsz, m', h⟩ := hs
   exact ⟨Nat.le_trans hsz hg.size, m', h.own, heap_loose h.box hg hr (by omega), heap_loose h.res hg hr (by omega), fun j h1 h2 => ⟨(h.done j h1 h2).1, (ints_own (h.done j h1 h2).2 hg (fun r e => .inr (by have := hr r e; omega))).more (Nat.le_refl _) hg.size⟩, h.rest, below_loose h.bel (Nat.le_refl _) hg hr (by omega)⟩)
  (fun j s O A B row hs hg hr => hs)
  (fun k => k = w.heap.size) (fun k hk e => by omega) (fun k e => by omega) ⟨Nat.le_refl _, m, rfl, hM0, hE0, (fun x hx => absurd hx (List.not_mem_nil)), fun _ _ _ => rfl, hB0⟩
  (fun x a' W => a' = { tmps := #[.agg #[.bool m.S.s, .slice m.S.A m.S.n m.S.c, .int .i64 m.S.e, .bool m.W.s, .slice m.W.A m.W.n m.W.c, .int .i64 m.W.e, .bool m.C.s, .slice m.C.A m.C.n m.C.c, .int .i64 m.C.e, .bool m.A.s, .slice m.A.A m.A.n m.A.c, .int .i64 m.A.e], .pointer (some ⟨w.heap.size, 0, none⟩), .pointer (some ⟨w.heap.size + 1, 0, none⟩), .pointer (some ⟨w.heap.size, 3 * x, none⟩),
   .func (.func 80) #[] #[.pointer (some ⟨w.heap.size + 1 + 1, 0, none⟩), .pointer (some ⟨w.heap.size + 1 + 1 + 1, 0, none⟩)], .pointer (some ⟨w.heap.size, 3 * x, none⟩), .pointer (some ⟨w.heap.size, 3 * x, none⟩), undef, undef, undef, undef, undef, undef, undef], defers := [] })
  (fun x a' _ _ _ _ h _ _ => h) ?assign ?body ?done ?stop
 case assign =>
  intro l pre x O W K hgx hsW hi hK
  unfold encM
  gi_wp2
  exact hK _ _ (KeepsFrom.refl _ _) (Gain.refl _ _) hi rfl
 case body =>
  rintro l pre x O a' W ⟨hx4, hpre⟩ hsW ⟨hsz, m', h⟩ rfl _
  have hnin : x ∉ pre := fun hin => by
   rw [hpre] at hin
   exact Nat.lt_irrefl x (List.mem_range.1 hin)
  have hmx := h.rest x hnin hx4
  have hrow : Ints W 0 W.heap.size .u32 (m.get x).A (m.get x).n (m.get x).xs := ((hR.get x).below h.bel (Nat.le_refl _)).more (Nat.le_refl _) h.bel.size
  have hn' := hn x hx4
  have hcm := MBox.at_ h.box hx4
  rw [hmx] at hcm
  generalize hd : m.get x = d at hcm hrow hn' hmx
  have HD := Lib.hid hd
  have HMX := Lib.hid hmx
  clear hd hmx
  obtain ⟨⟨k1, k2, k3⟩, k4, k5, k6⟩ := hcm
  gi_wp2_with fail
  refine ⟨trivial, (CallsIn.inRound l (callsIn_wide.2 (Pa.dyadTwin_any W d.s d.A d.n d.c d.xs d.e hrow hn'))).mono ?_⟩
  rintro e W2 ⟨A', c', rfl, hc', hB, hlt, hI⟩
  have hM2 := box_on h.box hB (by omega)
  have hcm2 := MBox.at_ (m := m') hM2 hx4
  rw [HMX.out] at hcm2
  obtain ⟨⟨j1, j2, j3⟩, j4, j5, j6⟩ := hcm2
  clear k1 k2 k3 k4 k5 k6
  gi_wp2
  have hb2 := h.bel.trans (hB.mono h.bel.size)
  have hs2 := h.bel.size
  have hs3 := hB.size
  refine ⟨(keeps_below hB).trans (((KeepsOthers.setCell _ _ _).trans (KeepsOthers.setCell _ _ _)).trans (KeepsOthers.setCell _ _ _) |>.from _), O, (gain_below hB).trans (((gain_set h.own _).trans (gain_set h.own _)).trans (gain_set h.own _)), by simp [World.setCell]; omega, m'.put x ⟨d.s, A', d.n, c', d.e, d.xs⟩, h.own, MBox.put hM2 hx4 ⟨d.s, A', d.n, c', d.e, d.xs⟩, ?_, fun j hj hj4 => ?_, fun j hj hj4 => ?_, ((hb2.setCell (Nat.le_refl _) _).setCell (Nat.le_refl _) _).setCell (Nat.le_refl _) _⟩
  · exact (Below.heap_setCell _ _ _ _ (by simp)).trans ((Below.heap_setCell _ _ _ _ (by simp)).trans ((Below.heap_setCell _ _ _ _ (by simp)).trans (box_on h.res hB (by omega))))
  · rw [put_get hx4 hj4]
    have hsz3 : (((W2.setCell ⟨w.heap.size, 3 * x, none⟩ (.bool d.s)).setCell ⟨w.heap.size, 3 * x + 1, none⟩ (.slice A' d.n c')).setCell ⟨w.heap.size, 3 * x + 2, none⟩ (.int .i64 d.e)).heap.size = W2.heap.size := by simp [World.setCell]
    by_cases e : j = x
    · rw [if_pos e, e, HD.out]
      refine ⟨⟨rfl, rfl, rfl, rfl, hc'⟩, ?_⟩
      exact (ints_far (ints_far (ints_far (hI.more (by omega) (Nat.le_refl _)) (.inl (by show w.heap.size < W0.heap.size; omega)) _) (.inl (by show w.heap.size < W0.heap.size; omega)) _) (.inl (by show w.heap.size < W0.heap.size; omega)) _).more (Nat.le_refl _) (by rw [hsz3]; exact Nat.le_refl _)
    · rw [if_neg e]
      have hjp : j ∈ pre := by
       rcases List.mem_append.1 hj with h1 | h1
       · exact h1
       · exact absurd (List.mem_singleton.1 h1) e
      refine ⟨(h.done j hjp hj4).1, ?_⟩
      exact (ints_far (ints_far (ints_far ((h.done j hjp hj4).2.below hB (Nat.le_refl _)) (.inl (by show w.heap.size < W0.heap.size; omega)) _) (.inl (by show w.heap.size < W0.heap.size; omega)) _) (.inl (by show w.heap.size < W0.heap.size; omega)) _).more (Nat.le_refl _) (by rw [hsz3]; omega)
  · have h1 : j ∉ pre := fun h1 => hj (List.mem_append_left _ h1)
    have e : j ≠ x := fun e => hj (by rw [e]; exact List.mem_append_right _ (List.mem_singleton.2 rfl))
    rw [put_get hx4 hj4, if_neg e]
    exact h.rest j h1 hj4
 case done =>
  rintro D ys O W hD hS ⟨hsz, m', h⟩ hK
  obtain ⟨⟨k0, k1, k2, k3, k4, k5, k6, k7, k8, k9, k10, k11⟩, kf⟩ := MBox.cells h.box
  obtain ⟨⟨z0, z1, z2, z3, z4, z5, z6, z7, z8, z9, z10, z11⟩, zf⟩ := MBox.cells h.res
  have hall : ∀ x, x < 4 → TwinV (m.get x) (m'.get x) ∧ Ints W W0.heap.size W.heap.size .u32 (m'.get x).A (m'.get x).n (m'.get x).xs := fun x hx => h.done x (by rw [hS]; simp; omega) hx
  have hbel := h.bel
  have hres := h.res
  clear h hS
  gi_wp2
  have hK' := (keeps_all (w := W) (g := w.heap.size + 1) m').same D _ hK rfl
  have hR' : MRows W W0.heap.size W.heap.size m' := ⟨(hall 0 (by decide)).2, (hall 1 (by decide)).2, (hall 2 (by decide)).2, (hall 3 (by decide)).2⟩
  have hX := MBox.all hres m'
  have hY := below_all hbel (show w.heap.size ≤ w.heap.size + 1 by omega) m'
  have hZ := rows_all hR' (g := w.heap.size + 1) (.inl (by omega)) m'
  have hs := size_all (w := W) (g := w.heap.size + 1) m'
  clear k0 k1 k2 k3 k4 k5 k6 k7 k8 k9 k10 k11 kf z0 z1 z2 z3 z4 z5 z6 z7 z8 z9 z10 z11 zf
  generalize ((((((((((((W.setCell ⟨w.heap.size + 1, 0, none⟩ (.bool m'.S.s)).setCell ⟨w.heap.size + 1, 1, none⟩ (.slice m'.S.A m'.S.n m'.S.c)).setCell ⟨w.heap.size + 1, 2, none⟩ (.int .i64 m'.S.e)).setCell ⟨w.heap.size + 1, 3, none⟩ (.bool m'.W.s)).setCell ⟨w.heap.size + 1, 4, none⟩ (.slice m'.W.A m'.W.n m'.W.c)).setCell ⟨w.heap.size + 1, 5, none⟩ (.int .i64 m'.W.e)).setCell ⟨w.heap.size + 1, 6, none⟩ (.bool m'.C.s)).setCell ⟨w.heap.size + 1, 7, none⟩ (.slice m'.C.A m'.C.n m'.C.c)).setCell ⟨w.heap.size + 1, 8, none⟩ (.int .i64 m'.C.e)).setCell ⟨w.heap.size + 1, 9, none⟩ (.bool m'.A.s)).setCell ⟨w.heap.size + 1, 10, none⟩ (.slice m'.A.A m'.A.n m'.A.c)).setCell ⟨w.heap.size + 1, 11, none⟩ (.int .i64 m'.A.e)) = V at *
  have hX2 : MBox (V.putObj D (.deferred none)) (w.heap.size + 1) m' := (World.putObj_heap_other (o := .deferred none) (by omega : w.heap.size + 1 ≠ D)).trans hX
  obtain ⟨⟨k0, k1, k2, k3, k4, k5, k6, k7, k8, k9, k10, k11⟩, kf⟩ := MBox.cells hX2
  refine ⟨by simp, .inl ⟨_, _, rfl, run_takeDeferred hK', ?_⟩⟩
  refine ⟨.agg #[.bool m'.S.s, .slice m'.S.A m'.S.n m'.S.c, .int .i64 m'.S.e, .bool m'.W.s, .slice m'.W.A m'.W.n m'.W.c, .int .i64 m'.W.e, .bool m'.C.s, .slice m'.C.A m'.C.n m'.C.c, .int .i64 m'.C.e, .bool m'.A.s, .slice m'.A.A m'.A.n m'.A.c, .int .i64 m'.A.e], ?_, m', rfl, ?_⟩
  · simp [results, Tryd.f37, go_sem, k0, k1, k2, k3, k4, k5, k6, k7, k8, k9, k10, k11]
  · refine ⟨fun x hx => (hall x hx).1, hY.trans (belowK_b (w := w) (Nat.le_refl _) _ D _ _ (by omega) hK' rfl rfl), ?_⟩
    have hp : ∀ k, k ≠ D → (V.putObj D (.deferred none)).heap[k]? = V.heap[k]? := fun k hk => World.putObj_heap_other hk
    have hdD : D < V.heap.size := lt_of_heap hK'
    have rr : ∀ x, x < 4 → Ints (V.putObj D (.deferred none)) W0.heap.size W.heap.size .u32 (m'.get x).A (m'.get x).n (m'.get x).xs := fun x _ => ints_own (hZ.get x) (grown_putD V D) (fun r e => by
     injection e with e
     exact .inl ⟨_, e ▸ hK', rfl⟩)
    have hsz2 : (V.putObj D (.deferred none)).heap.size = V.heap.size := by simp
    have hs' : V.heap.size = W.heap.size := hs
    exact MRows.more ⟨rr 0 (by decide), rr 1 (by decide), rr 2 (by decide), rr 3 (by decide)⟩ (by omega) (by omega)
 case stop =>
  rintro D j pre O W hD hSp hf hK
  exact hf.elim
end Ma
end Go.Proofs.YtbbnbgllgomolaaDoor