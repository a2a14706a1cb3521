/- The laws of quotients: no program in sight. -/
/- The laws of quotients, for any arguments: no program in sight. -/
/- Quotients of whole numbers: no program in sight. -/
/- RegionE: an operation whose guard says no. No program in sight. -/
/- Facts are moved along a chain of calls. No function in sight. -/
/- The reference's Minus and Add: walks (printed by a program of mine). -/
/- The law DyadSums: a walk (printed by a program of mine). -/
/- The parts of two masses, together: the iterator's contract (printed by a program of mine). -/
import Derived.Deep.Cut
import Derived.Test.YtbbnbgllgomolaaDoorBs08
import Derived.Test.YtbbnbgllgomolaaDoorBs02
import Derived.Deep.DeepCutAuto
import Derived.Deep.CutRange
import Derived.Test.YtbbnbgllgomolaaDoorBs07
import Derived.Test.YtbbnbgllgomolaaDoorBs05
import Derived.Test.YtbbnbgllgomolaaDoorBs03
import Derived.Test.YtbbnbgllgomolaaDoorProg
namespace Go.Proofs.YtbbnbgllgomolaaDoor
namespace Dp
theorem floor_neg {M B : Nat} (hB : 0 < B) : (-(M : Int)) / (B : Int) = -((M / B + (if M % B ≠ 0 then 1 else 0) : Nat) : Int) := by
 have h1 : B * (M / B) + M % B = M := Nat.div_add_mod M B
 have h2 := Nat.mod_lt M hB
 have h3 : ((B : Int) * ((M / B : Nat) : Int)) + ((M % B : Nat) : Int) = M := by exact_mod_cast h1
 generalize M / B = q at *
 generalize M % B = r at *
 split
 · refine ((Int.ediv_emod_unique (r := (B : Int) - r) (by omega)).2 ⟨?_, by omega, by omega⟩).1
   rw [Int.natCast_add, Int.mul_neg, Int.mul_add]
   simp only [Int.natCast_one, Int.mul_one]
   omega
 · refine ((Int.ediv_emod_unique (r := 0) (by omega)).2 ⟨?_, by omega, by omega⟩).1
   rw [Nat.add_zero, Int.mul_neg]
   omega
theorem quo_at (a b : Dn) (k : Nat) {K : Nat} (hK : a.e + b.e ≤ K) : (quoN a b k).1 = (a.m * 2 ^ (K - a.e) * 2 ^ k) / (b.m * 2 ^ (K - b.e)) ∧ ((quoN a b k).2 = 0 ↔ (a.m * 2 ^ (K - a.e) * 2 ^ k) % (b.m * 2 ^ (K - b.e)) = 0) := by
 obtain ⟨h1, h2⟩ := quo_shift (a.m * 2 ^ (b.e + k)) (b.m * 2 ^ a.e) (K - a.e - b.e)
 have e1 : a.m * 2 ^ (b.e + k) * 2 ^ (K - a.e - b.e) = a.m * 2 ^ (K - a.e) * 2 ^ k := by
  rw [Nat.mul_assoc, Nat.mul_assoc, ← Nat.pow_add, ← Nat.pow_add]
  congr 2
  omega
 have e2 : b.m * 2 ^ a.e * 2 ^ (K - a.e - b.e) = b.m * 2 ^ (K - b.e) := by
  rw [Nat.mul_assoc, ← Nat.pow_add]
  congr 2
  omega
 rw [e1, e2] at h1 h2
 exact ⟨h1.symm, h2.symm⟩
theorem vl_pos {b : Dn} (hn : b.neg = false) (h0 : b.m ≠ 0) (K : Nat) : vl b K = ((b.m * 2 ^ (K - b.e) : Nat) : Int) ∧ 0 < b.m * 2 ^ (K - b.e) := by
 unfold vl sg
 rw [hn]
 exact ⟨rfl, Nat.mul_pos (Nat.pos_of_ne_zero h0) (Nat.pow_pos (by decide))⟩
theorem pos_vl {b : Dn} {K : Nat} (h : 0 < vl b K) : b.neg = false ∧ b.m ≠ 0 := by
 unfold vl sg at h
 cases hn : b.neg
 · refine ⟨rfl, fun h0 => ?_⟩
   rw [hn, h0] at h
   simp at h
 · rw [hn] at h
   simp only [if_true] at h
   omega
theorem vl_scaled (a : Dn) (K k : Nat) : vl a K * (2 : Int) ^ k = sg a.neg (a.m * 2 ^ (K - a.e) * 2 ^ k) := by
 unfold vl
 rw [sg_mul _ _ (2 ^ k)]
 norm_cast
/-- Down. -/
theorem toD_floor {a b : Dn} (hn : b.neg = false) (h0 : b.m ≠ 0) (k : Nat) {K : Nat} (hK : a.e + b.e ≤ K) :
  ∃ N, toD a b k a.neg = formed a.neg N k ∧ sg a.neg N = vl a K * 2 ^ k / vl b K := by
 obtain ⟨q1, q2⟩ := quo_at a b k hK
 obtain ⟨b1, b2⟩ := vl_pos hn h0 K
 refine ⟨_, rfl, ?_⟩
 rw [vl_scaled, b1]
 generalize a.m * 2 ^ (K - a.e) * 2 ^ k = M at *
 generalize b.m * 2 ^ (K - b.e) = B at *
 cases a.neg
 · rw [if_neg (fun h => by cases h.2), Nat.add_zero, q1]
   exact Int.natCast_ediv M B
 · show -(((_ : Nat)) : Int) = (-(M : Int)) / (B : Int)
   rw [floor_neg b2, q1]
   congr 2
   by_cases h : M % B = 0
   · simp [q2.2 h, h]
   · simp [mt q2.1 h, h]
/-- Up. -/
theorem toD_ceil {a b : Dn} (hn : b.neg = false) (h0 : b.m ≠ 0) (k : Nat) {K : Nat} (hK : a.e + b.e ≤ K) :
  ∃ N, toD a b k (!a.neg) = formed a.neg N k ∧ sg a.neg N = -(-(vl a K * 2 ^ k) / vl b K) := by
 obtain ⟨q1, q2⟩ := quo_at a b k hK
 obtain ⟨b1, b2⟩ := vl_pos hn h0 K
 refine ⟨_, rfl, ?_⟩
 rw [vl_scaled, b1]
 generalize a.m * 2 ^ (K - a.e) * 2 ^ k = M at *
 generalize b.m * 2 ^ (K - b.e) = B at *
 cases a.neg
 · show (((_ : Nat)) : Int) = -(-(M : Int) / (B : Int))
   rw [floor_neg b2, q1, Int.neg_neg]
   congr 2
   by_cases h : M % B = 0
   · simp [q2.2 h, h]
   · simp [mt q2.1 h, h]
 · rw [if_neg (fun h => by cases h.2), Nat.add_zero, q1]
   show -((M / B : Nat) : Int) = -(-(-(M : Int)) / (B : Int))
   rw [Int.neg_neg]
   rw [Int.natCast_ediv M B]
theorem formed_sg {s t : Bool} {m n : Nat} (h : sg s m = sg t n) (k : Nat) : formed s m k = formed t n k := by
 by_cases h0 : m = 0
 · subst h0
   rw [sg_zero] at h
   have := sg_nil h.symm
   subst this
   simp [formed]
 · obtain ⟨h1, h2⟩ := sg_inj h h0
   rw [h1, h2]
end Dp
end Go.Proofs.YtbbnbgllgomolaaDoor
namespace Go.Proofs.YtbbnbgllgomolaaDoor
namespace Dy
open Dp
theorem dn_ne {s : Bool} {xs : List Int} {e : Int} (hd : Dig 4294967296 xs) (h : MayD s xs e) (hx : xs ≠ []) : (dn s xs e).m ≠ 0 := fun h0 => hx (by rw [← (dn_ok hd h).2.1, h0]; rfl)
theorem cmpX_dn {x y : Dn} (hx : x.May) (hy : y.May) : cmpX x.neg (canon 4294967296 x.m) x.e y.neg (canon 4294967296 y.m) y.e = (cmpD x y, 0) := by
 unfold cmpX
 rw [if_pos ⟨dn_may hx, dn_may hy⟩, dn_of, dn_of]
end Dy
end Go.Proofs.YtbbnbgllgomolaaDoor
namespace Go.Proofs.YtbbnbgllgomolaaDoor
namespace Dp
/-- A whole number. -/
def whole (z : Int) : Dn := ⟨decide (z < 0), z.natAbs, 0⟩
theorem whole_may {z : Int} (h0 : -9223372036854775808 ≤ z) (h1 : z ≤ 9223372036854775807) : (whole z).May := by
 refine ⟨capD_gt (k := 64) (show z.natAbs < 2 ^ 64 by omega) (by decide), Nat.zero_le _, fun h => ⟨rfl, ?_⟩, fun h => absurd h (Nat.lt_irrefl 0)⟩
 have h : z.natAbs = 0 := h
 exact decide_eq_false (by omega)
theorem vl_whole (z : Int) : vl (whole z) 0 = z := by
 unfold vl sg whole
 simp only [Nat.sub_self, Nat.pow_zero, Nat.mul_one]
 split
 · rename_i h
   have := of_decide_eq_true h
   omega
 · rename_i h
   have : ¬ z < 0 := fun k => h (decide_eq_true k)
   omega
theorem whole_of {s : Bool} {N : Nat} {z : Int} (h0 : -9223372036854775808 ≤ z) (h1 : z ≤ 9223372036854775807) (h : sg s N = z) : formed s N 0 = (whole z, 0) :=
 formed_of (K := 0) (whole_may h0 h1) (Nat.le_refl _) (Nat.le_refl _) (by rw [vl_whole, Nat.sub_self, Nat.pow_zero, Nat.mul_one, h])
end Dp
end Go.Proofs.YtbbnbgllgomolaaDoor
namespace Go.Proofs.YtbbnbgllgomolaaDoor
open Go.RowKit
section
variable {P : Program} {ops : Array Oper} {os : List Oper} {Q : Exit → Act → World → Prop} {md : Region.Mode} {S : World → Prop} {E : List Nat}
/-- An operation whose guard says no. -/
theorem skipE {i n : Nat} {oi : Oper} {listed L : Array Bool} {a : Act} {w : World} (hi : os[i]? = some oi) (hL : listed.setIfInBounds i true = L)
  (hs : Region.noSelect os.toArray = true) (hf : Region.free md os.toArray listed i = true) (hr : (Region.ready md os.toArray listed).contains i = true)
  (hQ : ∀ c a w, Q (.panic c) (a.put oi.dst undef) w → Q (.panic c) a w) (hw : Region.wanted oi (yielded os.toArray a.tmps) = false)
  (h : wpAnyE P md os.toArray Q S E n L (a.put oi.dst undef) w) : wpAnyE P md os.toArray Q S E (n + 1) listed a w := by
 have hi' : os.toArray[i]? = some oi := by simpa using hi
 exact firstT hi' (Region.noSelect_spec hs) hQ n listed a w (Region.free_spec hi' hf) (by simpa using hr) (Or.inr ⟨hw, rfl⟩) (hL ▸ h)
end
end Go.Proofs.YtbbnbgllgomolaaDoor
namespace Go.Proofs.YtbbnbgllgomolaaDoor
open Go.RowKit
namespace Dy
open Dp
theorem later {a b c : World} (h : Below a.heap.size a b) (k : Below b.heap.size b c) : Below a.heap.size a c := h.trans (k.mono h.size)
theorem box_later {w w' : World} {g : Nat} {o : Obj} (h : w.heap[g]? = some o) (hb : Below w.heap.size w w') (hg : g < w.heap.size) : w'.heap[g]? = some o := (hb.block g hg).trans h
theorem tab_later {w w' : World} (h : Tab w) (hb : Below w.heap.size w w') : Tab w' := h.below hb h.lt
end Dy
end Go.Proofs.YtbbnbgllgomolaaDoor
namespace Go.Proofs.YtbbnbgllgomolaaDoor
open Go.RowKit
namespace Dy
open Dp
theorem boxes2 (w : World) (o1 o2 : Obj) {w1 : World} (hw : (w.alloc o1).alloc o2 = w1) : w1.heap[w.heap.size]? = some o1 ∧ w1.heap[w.heap.size + 1]? = some o2 ∧ Below w.heap.size w w1 ∧ w.heap.size + 2 ≤ w1.heap.size ∧ w1.heap.size ≤ w.heap.size + 2 := by
 subst hw
 exact ⟨by rw [Below.heap_alloc _ _ _ (by simp)]; exact heap_alloc_last _ _, heap_alloc2_new _ _ _, ((Below.refl _ w).alloc (Nat.le_refl _) _).alloc (by simp) _, by simp, by simp⟩
theorem boxes3 (w : World) (o1 o2 o3 : Obj) {w1 : World} (hw : ((w.alloc o1).alloc o2).alloc o3 = w1) : w1.heap[w.heap.size]? = some o1 ∧ w1.heap[w.heap.size + 1]? = some o2 ∧ w1.heap[w.heap.size + 1 + 1]? = some o3 ∧ Below w.heap.size w w1 ∧ w.heap.size + 3 ≤ w1.heap.size ∧ w1.heap.size ≤ w.heap.size + 3 := by
 obtain ⟨h1, h2, h3, h4, h5⟩ := boxes2 w o1 o2 rfl
 subst hw
 refine ⟨(Below.heap_alloc _ _ _ (by omega)).trans h1, (Below.heap_alloc _ _ _ (by omega)).trans h2, ?_, h3.alloc (by omega) _, by simp, by simp⟩
 have e : w.heap.size + 1 + 1 = ((w.alloc o1).alloc o2).heap.size := by omega
 rw [e]
 exact heap_alloc_last _ _
end Dy
end Go.Proofs.YtbbnbgllgomolaaDoor
namespace Go.Proofs.YtbbnbgllgomolaaDoor
open Go.RowKit
namespace Dy
open Dp
/-- Cells that may be written. -/
def WrD (w : World) (b off n : Nat) : Prop := ∀ j, j < n → (∃ u, w.cell? ⟨b, off + j, none⟩ = some u) ∧ w.frozen? ⟨b, off + j, none⟩ = false
/-- What lies from hi on stays, too. -/
def From (hi : Nat) (w w' : World) : Prop := ∀ k, hi ≤ k → k < w.heap.size → w'.heap[k]? = w.heap[k]?
theorem From.setCell {hi : Nat} {w0 w : World} (h : From hi w0 w) {p : Addr} (hp : p.block < hi) (v : Value) : From hi w0 (w.setCell p v) := fun k h1 h2 => by
 rw [← h k h1 h2]
 exact Below.heap_setCell _ _ _ _ (by omega)
theorem great_len {s : Bool} {xs : List Int} {e : Int} {n : Nat} {gr : Bool} (hl : xs.length = n) (h : Pa.Dy.great ⟨s, xs, e⟩ = gr) : gr = false → n ≤ 42 := by
 rintro rfl
 simp [Pa.Dy.great] at h
 omega
end Dy
end Go.Proofs.YtbbnbgllgomolaaDoor
namespace Go.Proofs.YtbbnbgllgomolaaDoor
open Go.RowKit
namespace Ma
attribute [local go_sem] Oper.semAt_some
theorem lt_of_heap {W : World} {g : Nat} {o : Obj} (h : W.heap[g]? = some o) : g < W.heap.size := (Array.getElem?_eq_some_iff.1 h).1
theorem cells1 {w : World} {g : Nat} {x : Value} {t : TypeId} (h : w.heap[g]? = some (.cells #[x] t (0, 0))) : w.cell? ⟨g, 0, none⟩ = some x ∧ w.frozen? ⟨g, 0, none⟩ = false :=
 ⟨cell_of_row w g 0 _ t _ h, frozen_of_row w g 0 _ t h⟩
/-- What the k-th round is handed. -/
def encM (ma mb : Nat) (k : Nat) : Array Value := #[.pointer (some ⟨ma, 3 * k, none⟩), .pointer (some ⟨mb, 3 * k, none⟩)]
/-- The two boxes that the iterator reads. -/
def Two (ga gb ma mb : Nat) (W : World) : Prop := W.heap[ga]? = some (.cells #[.pointer (some ⟨ma, 0, none⟩)] 86 (0, 0)) ∧ W.heap[gb]? = some (.cells #[.pointer (some ⟨mb, 0, none⟩)] 86 (0, 0))
/-- The k-th one comes behind the first k. -/
def Nxt (pre : List Nat) (x : Nat) : Prop := x < 4 ∧ pre = List.range x
def Pre (pre : List Nat) : Prop := pre = [0] ∨ pre = [0, 1] ∨ pre = [0, 1, 2] ∨ pre = [0, 1, 2, 3]
theorem drew_grown (W : World) : W.grownBy W.drew none := ⟨rfl, rfl, rfl, Nat.le_refl _, fun _ _ _ => rfl⟩
set_option maxRecDepth 100000 in
set_option maxHeartbeats 6400000 in
/-- mass.parts's closure. -/
theorem parts1_in (m l ga gb ma mb : Nat) (J Jx : List Nat → (Nat → Prop) → World → Prop) (gl : Nat) (hJ : Loose gl J)
  (hY : ∀ pre x O W1, Nxt pre x → J pre O W1 → pre.length < 4 → YieldAt Fence.wide (m - 1) Tryd.prog l (encM ma mb x) W1 fun e W' =>
   (e = .returned (.bool true) ∧ ∃ O', J (pre ++ [x]) O' W' ∧ Gain O O' W1 W') ∨ (e = .returned (.bool false) ∧ ∃ O', Jx (pre ++ [x]) O' W' ∧ Gain O O' W1 W'))
  (O0 : Nat → Prop) (W : World) (hS : Two ga gb ma mb W) (ha0 : ¬ O0 ga) (hb0 : ¬ O0 gb) (h0 : J [] O0 W) :
  CallsIn Fence.wide m Tryd.prog 80 #[.func (.yield l) #[] #[], .pointer (some ⟨ga, 0, none⟩), .pointer (some ⟨gb, 0, none⟩)] W fun e W' => (∃ v, e = .returned v) ∧
   ((∃ ys O, ys = [0, 1, 2, 3] ∧ J ys O W') ∨ (∃ pre O, Pre pre ∧ Jx pre O W')) := by
 have mixed : Tryd.prog.follows .mixedOrders = true := by kernel_rfl
 refine callsIn_of_wp Tryd.func80 rfl trivial ?_ rfl
 simp only [Tryd.ntmps80, List.size_toArray, List.length_cons, List.length_nil, Nat.reduceAdd, Nat.reduceSub, Array.replicate_succ, Array.replicate_zero, List.push_toArray, List.append_toArray, List.nil_append, List.cons_append]
 have hj : J [] O0 W.drew := hJ _ _ _ _ none h0 (drew_grown W) (fun _ h => by cases h)
 have hs : Two ga gb ma mb W.drew := hS
 clear h0
 refine region_J (Two ga gb ma mb) [] (m := 38) (L := #[zF,zF,zF,zF,zF,zF,zF,zF,zF,zF,zF,zF,zF,zF,zF,zF,zF,zF,zF,zF,zF,zF,zF,zF,zF,zF,zF,zF,zF,zF,zF,zF,zF,zF,zF,zF,zF,zF]) (by kernel_rfl) (by rfl) (by rfl) ?_
 generalize W.drew = W0 at *
 refine pureJ (i := 0) (L := #[zT,zF,zF,zF,zF,zF,zF,zF,zF,zF,zF,zF,zF,zF,zF,zF,zF,zF,zF,zF,zF,zF,zF,zF,zF,zF,zF,zF,zF,zF,zF,zF,zF,zF,zF,zF,zF,zF]) (v := ?_) rfl (by rfl) (by kernel_rfl) (by kernel_rfl) (by kernel_rfl) (fun _ _ _ h => h) (by rfl) ?hy1 ?rest1
 case hy1 => intro w; go_simp; (try with_reducible rfl)
 try simp only [Act.put, zp]
 refine readJ (i := 1) (L := #[zT,zT,zF,zF,zF,zF,zF,zF,zF,zF,zF,zF,zF,zF,zF,zF,zF,zF,zF,zF,zF,zF,zF,zF,zF,zF,zF,zF,zF,zF,zF,zF,zF,zF,zF,zF,zF,zF]) (v := .pointer (some ⟨ma, 0, none⟩)) rfl (by rfl) (by kernel_rfl) (by kernel_rfl) (by kernel_rfl) (fun _ _ _ h => h) (by assumption) (by rfl) ?ry1 ?rr1
 case ry1 =>
  intro w' h1
  obtain ⟨⟨k1, _⟩, k2, _⟩ := And.intro (cells1 h1.1) (cells1 h1.2)
  go_simp
 try simp only [Act.put, zp]
 refine pureJ (i := 2) (L := #[zT,zT,zT,zF,zF,zF,zF,zF,zF,zF,zF,zF,zF,zF,zF,zF,zF,zF,zF,zF,zF,zF,zF,zF,zF,zF,zF,zF,zF,zF,zF,zF,zF,zF,zF,zF,zF,zF]) (v := ?_) rfl (by rfl) (by kernel_rfl) (by kernel_rfl) (by kernel_rfl) (fun _ _ _ h => h) (by rfl) ?hy3 ?rest3
 case hy3 => intro w; go_simp; (try with_reducible rfl)
 try simp only [Act.put, zp]
 refine pureJ (i := 3) (L := #[zT,zT,zT,zT,zF,zF,zF,zF,zF,zF,zF,zF,zF,zF,zF,zF,zF,zF,zF,zF,zF,zF,zF,zF,zF,zF,zF,zF,zF,zF,zF,zF,zF,zF,zF,zF,zF,zF]) (v := ?_) rfl (by rfl) (by kernel_rfl) (by kernel_rfl) (by kernel_rfl) (fun _ _ _ h => h) (by rfl) ?hy4 ?rest4
 case hy4 => intro w; go_simp; (try with_reducible rfl)
 try simp only [Act.put, zp]
 refine readJ (i := 4) (L := #[zT,zT,zT,zT,zT,zF,zF,zF,zF,zF,zF,zF,zF,zF,zF,zF,zF,zF,zF,zF,zF,zF,zF,zF,zF,zF,zF,zF,zF,zF,zF,zF,zF,zF,zF,zF,zF,zF]) (v := .pointer (some ⟨mb, 0, none⟩)) rfl (by rfl) (by kernel_rfl) (by kernel_rfl) (by kernel_rfl) (fun _ _ _ h => h) (by assumption) (by rfl) ?ry4 ?rr4
 case ry4 =>
  intro w' h1
  obtain ⟨⟨k1, _⟩, k2, _⟩ := And.intro (cells1 h1.1) (cells1 h1.2)
  go_simp
 try simp only [Act.put, zp]
 refine pureJ (i := 5) (L := #[zT,zT,zT,zT,zT,zT,zF,zF,zF,zF,zF,zF,zF,zF,zF,zF,zF,zF,zF,zF,zF,zF,zF,zF,zF,zF,zF,zF,zF,zF,zF,zF,zF,zF,zF,zF,zF,zF]) (v := ?_) rfl (by rfl) (by kernel_rfl) (by kernel_rfl) (by kernel_rfl) (fun _ _ _ h => h) (by rfl) ?hy6 ?rest6
 case hy6 => intro w; go_simp; (try with_reducible rfl)
 try simp only [Act.put, zp]
 refine pureJ (i := 6) (L := #[zT,zT,zT,zT,zT,zT,zT,zF,zF,zF,zF,zF,zF,zF,zF,zF,zF,zF,zF,zF,zF,zF,zF,zF,zF,zF,zF,zF,zF,zF,zF,zF,zF,zF,zF,zF,zF,zF]) (v := ?_) rfl (by rfl) (by kernel_rfl) (by kernel_rfl) (by kernel_rfl) (fun _ _ _ h => h) (by rfl) ?hy7 ?rest7
 case hy7 => intro w; go_simp; (try with_reducible rfl)
 try simp only [Act.put, zp]
 obtain ⟨fn, tmps, assign, body, hy, hR⟩ := hY [] 0 O0 W0 ⟨by decide, by decide⟩ hj (by decide)
 unfold encM at hy
 (try dsimp only at hy)
 (try simp only [Nat.reduceMul] at hy)
 refine stepKJ (i := 7) (L := #[zT,zT,zT,zT,zT,zT,zT,zT,zF,zF,zF,zF,zF,zF,zF,zF,zF,zF,zF,zF,zF,zF,zF,zF,zF,zF,zF,zF,zF,zF,zF,zF,zF,zF,zF,zF,zF,zF]) rfl (by rfl) (by kernel_rfl) (by rfl) (fun K hK => ?_)
 go_simp
 gi_wp2_with fail
 refine ⟨(fun h => by cases h), hR.mono ?_⟩
 clear hy hR
 rintro e W1 (⟨rfl, O1, hj1, hG⟩ | ⟨rfl, O1, hx1, hG⟩)
 · have hs1 : Two ga gb ma mb W1 := ⟨hG.same _ _ _ _ ha0 hs.1, hG.same _ _ _ _ hb0 hs.2⟩
   have ha1 : ¬ O1 ga := fun h => by
    rcases hG.new _ h with h | h
    · exact ha0 h
    · have := lt_of_heap hs.1
      omega
   have hb1 : ¬ O1 gb := fun h => by
    rcases hG.new _ h with h | h
    · exact hb0 h
    · have := lt_of_heap hs.2
      omega
   go_simp
   refine hK _ _ ⟨fun _ _ => hs1, ?_⟩
   clear hK K hG hs ha0 hb0 hj
   have hs := hs1
   have ha0 := ha1
   have hb0 := hb1
   have hj := hj1
   clear hs1 ha1 hb1 hj1
   try simp only [Act.put, zp]
   refine pureJ (i := 8) (L := #[zT,zT,zT,zT,zT,zT,zT,zT,zT,zF,zF,zF,zF,zF,zF,zF,zF,zF,zF,zF,zF,zF,zF,zF,zF,zF,zF,zF,zF,zF,zF,zF,zF,zF,zF,zF,zF,zF]) (v := ?_) rfl (by rfl) (by kernel_rfl) (by kernel_rfl) (by kernel_rfl) (fun _ _ _ h => h) (by rfl) ?hy9 ?rest9
   case hy9 => intro w; go_simp; (try with_reducible rfl)
   try simp only [Act.put, zp]
   refine pureJ (i := 9) (L := #[zT,zT,zT,zT,zT,zT,zT,zT,zT,zT,zF,zF,zF,zF,zF,zF,zF,zF,zF,zF,zF,zF,zF,zF,zF,zF,zF,zF,zF,zF,zF,zF,zF,zF,zF,zF,zF,zF]) (v := ?_) rfl (by rfl) (by kernel_rfl) (by kernel_rfl) (by kernel_rfl) (fun _ _ _ h => h) (by rfl) ?hy10 ?rest10
   case hy10 => intro w; go_simp; (try with_reducible rfl)
   try simp only [Act.put, zp]
   refine readJ (i := 10) (L := #[zT,zT,zT,zT,zT,zT,zT,zT,zT,zT,zT,zF,zF,zF,zF,zF,zF,zF,zF,zF,zF,zF,zF,zF,zF,zF,zF,zF,zF,zF,zF,zF,zF,zF,zF,zF,zF,zF]) (v := .pointer (some ⟨ma, 0, none⟩)) rfl (by rfl) (by kernel_rfl) (by kernel_rfl) (by kernel_rfl) (fun _ _ _ h => h) (by assumption) (by rfl) ?ry10 ?rr10
   case ry10 =>
    intro w' h1
    obtain ⟨⟨k1, _⟩, k2, _⟩ := And.intro (cells1 h1.1) (cells1 h1.2)
    go_simp
   try simp only [Act.put, zp]
   refine pureJ (i := 11) (L := #[zT,zT,zT,zT,zT,zT,zT,zT,zT,zT,zT,zT,zF,zF,zF,zF,zF,zF,zF,zF,zF,zF,zF,zF,zF,zF,zF,zF,zF,zF,zF,zF,zF,zF,zF,zF,zF,zF]) (v := ?_) rfl (by rfl) (by kernel_rfl) (by kernel_rfl) (by kernel_rfl) (fun _ _ _ h => h) (by rfl) ?hy12 ?rest12
   case hy12 => intro w; go_simp; (try with_reducible rfl)
   try simp only [Act.put, zp]
   refine pureJ (i := 12) (L := #[zT,zT,zT,zT,zT,zT,zT,zT,zT,zT,zT,zT,zT,zF,zF,zF,zF,zF,zF,zF,zF,zF,zF,zF,zF,zF,zF,zF,zF,zF,zF,zF,zF,zF,zF,zF,zF,zF]) (v := ?_) rfl (by rfl) (by kernel_rfl) (by kernel_rfl) (by kernel_rfl) (fun _ _ _ h => h) (by rfl) ?hy13 ?rest13
   case hy13 => intro w; go_simp; (try with_reducible rfl)
   try simp only [Act.put, zp]
   refine readJ (i := 13) (L := #[zT,zT,zT,zT,zT,zT,zT,zT,zT,zT,zT,zT,zT,zT,zF,zF,zF,zF,zF,zF,zF,zF,zF,zF,zF,zF,zF,zF,zF,zF,zF,zF,zF,zF,zF,zF,zF,zF]) (v := .pointer (some ⟨mb, 0, none⟩)) rfl (by rfl) (by kernel_rfl) (by kernel_rfl) (by kernel_rfl) (fun _ _ _ h => h) (by assumption) (by rfl) ?ry13 ?rr13
   case ry13 =>
    intro w' h1
    obtain ⟨⟨k1, _⟩, k2, _⟩ := And.intro (cells1 h1.1) (cells1 h1.2)
    go_simp
   try simp only [Act.put, zp]
   refine pureJ (i := 14) (L := #[zT,zT,zT,zT,zT,zT,zT,zT,zT,zT,zT,zT,zT,zT,zT,zF,zF,zF,zF,zF,zF,zF,zF,zF,zF,zF,zF,zF,zF,zF,zF,zF,zF,zF,zF,zF,zF,zF]) (v := ?_) rfl (by rfl) (by kernel_rfl) (by kernel_rfl) (by kernel_rfl) (fun _ _ _ h => h) (by rfl) ?hy15 ?rest15
   case hy15 => intro w; go_simp; (try with_reducible rfl)
   try simp only [Act.put, zp]
   refine pureJ (i := 15) (L := #[zT,zT,zT,zT,zT,zT,zT,zT,zT,zT,zT,zT,zT,zT,zT,zT,zF,zF,zF,zF,zF,zF,zF,zF,zF,zF,zF,zF,zF,zF,zF,zF,zF,zF,zF,zF,zF,zF]) (v := ?_) rfl (by rfl) (by kernel_rfl) (by kernel_rfl) (by kernel_rfl) (fun _ _ _ h => h) (by rfl) ?hy16 ?rest16
   case hy16 => intro w; go_simp; (try with_reducible rfl)
   try simp only [Act.put, zp]
   obtain ⟨fn, tmps, assign, body, hy, hR⟩ := hY [0] 1 O1 W1 ⟨by decide, by decide⟩ hj (by decide)
   unfold encM at hy
   (try dsimp only at hy)
   (try simp only [Nat.reduceMul] at hy)
   refine stepKJ (i := 16) (L := #[zT,zT,zT,zT,zT,zT,zT,zT,zT,zT,zT,zT,zT,zT,zT,zT,zT,zF,zF,zF,zF,zF,zF,zF,zF,zF,zF,zF,zF,zF,zF,zF,zF,zF,zF,zF,zF,zF]) rfl (by rfl) (by kernel_rfl) (by rfl) (fun K hK => ?_)
   go_simp
   gi_wp2_with fail
   refine ⟨(fun h => by cases h), hR.mono ?_⟩
   clear hy hR
   rintro e W2 (⟨rfl, O2, hj2, hG⟩ | ⟨rfl, O2, hx2, hG⟩)
   · have hs2 : Two ga gb ma mb W2 := ⟨hG.same _ _ _ _ ha0 hs.1, hG.same _ _ _ _ hb0 hs.2⟩
     have ha2 : ¬ O2 ga := fun h => by
      rcases hG.new _ h with h | h
      · exact ha0 h
      · have := lt_of_heap hs.1
        omega
     have hb2 : ¬ O2 gb := fun h => by
      rcases hG.new _ h with h | h
      · exact hb0 h
      · have := lt_of_heap hs.2
        omega
     go_simp
     refine hK _ _ ⟨fun _ _ => hs2, ?_⟩
     clear hK K hG hs ha0 hb0 hj
     have hs := hs2
     have ha0 := ha2
     have hb0 := hb2
     have hj := hj2
     clear hs2 ha2 hb2 hj2
     try simp only [Act.put, zp]
     refine pureJ (i := 17) (L := #[zT,zT,zT,zT,zT,zT,zT,zT,zT,zT,zT,zT,zT,zT,zT,zT,zT,zT,zF,zF,zF,zF,zF,zF,zF,zF,zF,zF,zF,zF,zF,zF,zF,zF,zF,zF,zF,zF]) (v := ?_) rfl (by rfl) (by kernel_rfl) (by kernel_rfl) (by kernel_rfl) (fun _ _ _ h => h) (by rfl) ?hy18 ?rest18
     case hy18 => intro w; go_simp; (try with_reducible rfl)
     try simp only [Act.put, zp]
     refine pureJ (i := 18) (L := #[zT,zT,zT,zT,zT,zT,zT,zT,zT,zT,zT,zT,zT,zT,zT,zT,zT,zT,zT,zF,zF,zF,zF,zF,zF,zF,zF,zF,zF,zF,zF,zF,zF,zF,zF,zF,zF,zF]) (v := ?_) rfl (by rfl) (by kernel_rfl) (by kernel_rfl) (by kernel_rfl) (fun _ _ _ h => h) (by rfl) ?hy19 ?rest19
     case hy19 => intro w; go_simp; (try with_reducible rfl)
     try simp only [Act.put, zp]
     refine pureJ (i := 19) (L := #[zT,zT,zT,zT,zT,zT,zT,zT,zT,zT,zT,zT,zT,zT,zT,zT,zT,zT,zT,zT,zF,zF,zF,zF,zF,zF,zF,zF,zF,zF,zF,zF,zF,zF,zF,zF,zF,zF]) (v := ?_) rfl (by rfl) (by kernel_rfl) (by kernel_rfl) (by kernel_rfl) (fun _ _ _ h => h) (by rfl) ?hy20 ?rest20
     case hy20 => intro w; go_simp; (try with_reducible rfl)
     try simp only [Act.put, zp]
     refine readJ (i := 20) (L := #[zT,zT,zT,zT,zT,zT,zT,zT,zT,zT,zT,zT,zT,zT,zT,zT,zT,zT,zT,zT,zT,zF,zF,zF,zF,zF,zF,zF,zF,zF,zF,zF,zF,zF,zF,zF,zF,zF]) (v := .pointer (some ⟨ma, 0, none⟩)) rfl (by rfl) (by kernel_rfl) (by kernel_rfl) (by kernel_rfl) (fun _ _ _ h => h) (by assumption) (by rfl) ?ry20 ?rr20
     case ry20 =>
      intro w' h1
      obtain ⟨⟨k1, _⟩, k2, _⟩ := And.intro (cells1 h1.1) (cells1 h1.2)
      go_simp
     try simp only [Act.put, zp]
     refine pureJ (i := 21) (L := #[zT,zT,zT,zT,zT,zT,zT,zT,zT,zT,zT,zT,zT,zT,zT,zT,zT,zT,zT,zT,zT,zT,zF,zF,zF,zF,zF,zF,zF,zF,zF,zF,zF,zF,zF,zF,zF,zF]) (v := ?_) rfl (by rfl) (by kernel_rfl) (by kernel_rfl) (by kernel_rfl) (fun _ _ _ h => h) (by rfl) ?hy22 ?rest22
     case hy22 => intro w; go_simp; (try with_reducible rfl)
     try simp only [Act.put, zp]
     refine pureJ (i := 22) (L := #[zT,zT,zT,zT,zT,zT,zT,zT,zT,zT,zT,zT,zT,zT,zT,zT,zT,zT,zT,zT,zT,zT,zT,zF,zF,zF,zF,zF,zF,zF,zF,zF,zF,zF,zF,zF,zF,zF]) (v := ?_) rfl (by rfl) (by kernel_rfl) (by kernel_rfl) (by kernel_rfl) (fun _ _ _ h => h) (by rfl) ?hy23 ?rest23
     case hy23 => intro w; go_simp; (try with_reducible rfl)
     try simp only [Act.put, zp]
     refine readJ (i := 23) (L := #[zT,zT,zT,zT,zT,zT,zT,zT,zT,zT,zT,zT,zT,zT,zT,zT,zT,zT,zT,zT,zT,zT,zT,zT,zF,zF,zF,zF,zF,zF,zF,zF,zF,zF,zF,zF,zF,zF]) (v := .pointer (some ⟨mb, 0, none⟩)) rfl (by rfl) (by kernel_rfl) (by kernel_rfl) (by kernel_rfl) (fun _ _ _ h => h) (by assumption) (by rfl) ?ry23 ?rr23
     case ry23 =>
      intro w' h1
      obtain ⟨⟨k1, _⟩, k2, _⟩ := And.intro (cells1 h1.1) (cells1 h1.2)
      go_simp
     try simp only [Act.put, zp]
     refine pureJ (i := 24) (L := #[zT,zT,zT,zT,zT,zT,zT,zT,zT,zT,zT,zT,zT,zT,zT,zT,zT,zT,zT,zT,zT,zT,zT,zT,zT,zF,zF,zF,zF,zF,zF,zF,zF,zF,zF,zF,zF,zF]) (v := ?_) rfl (by rfl) (by kernel_rfl) (by kernel_rfl) (by kernel_rfl) (fun _ _ _ h => h) (by rfl) ?hy25 ?rest25
     case hy25 => intro w; go_simp; (try with_reducible rfl)
     try simp only [Act.put, zp]
     refine pureJ (i := 25) (L := #[zT,zT,zT,zT,zT,zT,zT,zT,zT,zT,zT,zT,zT,zT,zT,zT,zT,zT,zT,zT,zT,zT,zT,zT,zT,zT,zF,zF,zF,zF,zF,zF,zF,zF,zF,zF,zF,zF]) (v := ?_) rfl (by rfl) (by kernel_rfl) (by kernel_rfl) (by kernel_rfl) (fun _ _ _ h => h) (by rfl) ?hy26 ?rest26
     case hy26 => intro w; go_simp; (try with_reducible rfl)
     try simp only [Act.put, zp]
     obtain ⟨fn, tmps, assign, body, hy, hR⟩ := hY [0, 1] 2 O2 W2 ⟨by decide, by decide⟩ hj (by decide)
     unfold encM at hy
     (try dsimp only at hy)
     (try simp only [Nat.reduceMul] at hy)
     refine stepKJ (i := 26) (L := #[zT,zT,zT,zT,zT,zT,zT,zT,zT,zT,zT,zT,zT,zT,zT,zT,zT,zT,zT,zT,zT,zT,zT,zT,zT,zT,zT,zF,zF,zF,zF,zF,zF,zF,zF,zF,zF,zF]) rfl (by rfl) (by kernel_rfl) (by rfl) (fun K hK => ?_)
     go_simp
     gi_wp2_with fail
     refine ⟨(fun h => by cases h), hR.mono ?_⟩
     clear hy hR
     rintro e W3 (⟨rfl, O3, hj3, hG⟩ | ⟨rfl, O3, hx3, hG⟩)
     · have hs3 : Two ga gb ma mb W3 := ⟨hG.same _ _ _ _ ha0 hs.1, hG.same _ _ _ _ hb0 hs.2⟩
       have ha3 : ¬ O3 ga := fun h => by
        rcases hG.new _ h with h | h
        · exact ha0 h
        · have := lt_of_heap hs.1
          omega
       have hb3 : ¬ O3 gb := fun h => by
        rcases hG.new _ h with h | h
        · exact hb0 h
        · have := lt_of_heap hs.2
          omega
       go_simp
       refine hK _ _ ⟨fun _ _ => hs3, ?_⟩
       clear hK K hG hs ha0 hb0 hj
       have hs := hs3
       have ha0 := ha3
       have hb0 := hb3
       have hj := hj3
       clear hs3 ha3 hb3 hj3
       try simp only [Act.put, zp]
       refine pureJ (i := 27) (L := #[zT,zT,zT,zT,zT,zT,zT,zT,zT,zT,zT,zT,zT,zT,zT,zT,zT,zT,zT,zT,zT,zT,zT,zT,zT,zT,zT,zT,zF,zF,zF,zF,zF,zF,zF,zF,zF,zF]) (v := ?_) rfl (by rfl) (by kernel_rfl) (by kernel_rfl) (by kernel_rfl) (fun _ _ _ h => h) (by rfl) ?hy28 ?rest28
       case hy28 => intro w; go_simp; (try with_reducible rfl)
       try simp only [Act.put, zp]
       refine pureJ (i := 28) (L := #[zT,zT,zT,zT,zT,zT,zT,zT,zT,zT,zT,zT,zT,zT,zT,zT,zT,zT,zT,zT,zT,zT,zT,zT,zT,zT,zT,zT,zT,zF,zF,zF,zF,zF,zF,zF,zF,zF]) (v := ?_) rfl (by rfl) (by kernel_rfl) (by kernel_rfl) (by kernel_rfl) (fun _ _ _ h => h) (by rfl) ?hy29 ?rest29
       case hy29 => intro w; go_simp; (try with_reducible rfl)
       try simp only [Act.put, zp]
       refine pureJ (i := 29) (L := #[zT,zT,zT,zT,zT,zT,zT,zT,zT,zT,zT,zT,zT,zT,zT,zT,zT,zT,zT,zT,zT,zT,zT,zT,zT,zT,zT,zT,zT,zT,zF,zF,zF,zF,zF,zF,zF,zF]) (v := ?_) rfl (by rfl) (by kernel_rfl) (by kernel_rfl) (by kernel_rfl) (fun _ _ _ h => h) (by rfl) ?hy30 ?rest30
       case hy30 => intro w; go_simp; (try with_reducible rfl)
       try simp only [Act.put, zp]
       refine readJ (i := 30) (L := #[zT,zT,zT,zT,zT,zT,zT,zT,zT,zT,zT,zT,zT,zT,zT,zT,zT,zT,zT,zT,zT,zT,zT,zT,zT,zT,zT,zT,zT,zT,zT,zF,zF,zF,zF,zF,zF,zF]) (v := .pointer (some ⟨ma, 0, none⟩)) rfl (by rfl) (by kernel_rfl) (by kernel_rfl) (by kernel_rfl) (fun _ _ _ h => h) (by assumption) (by rfl) ?ry30 ?rr30
       case ry30 =>
        intro w' h1
        obtain ⟨⟨k1, _⟩, k2, _⟩ := And.intro (cells1 h1.1) (cells1 h1.2)
        go_simp
       try simp only [Act.put, zp]
       refine pureJ (i := 31) (L := #[zT,zT,zT,zT,zT,zT,zT,zT,zT,zT,zT,zT,zT,zT,zT,zT,zT,zT,zT,zT,zT,zT,zT,zT,zT,zT,zT,zT,zT,zT,zT,zT,zF,zF,zF,zF,zF,zF]) (v := ?_) rfl (by rfl) (by kernel_rfl) (by kernel_rfl) (by kernel_rfl) (fun _ _ _ h => h) (by rfl) ?hy32 ?rest32
       case hy32 => intro w; go_simp; (try with_reducible rfl)
       try simp only [Act.put, zp]
       refine pureJ (i := 32) (L := #[zT,zT,zT,zT,zT,zT,zT,zT,zT,zT,zT,zT,zT,zT,zT,zT,zT,zT,zT,zT,zT,zT,zT,zT,zT,zT,zT,zT,zT,zT,zT,zT,zT,zF,zF,zF,zF,zF]) (v := ?_) rfl (by rfl) (by kernel_rfl) (by kernel_rfl) (by kernel_rfl) (fun _ _ _ h => h) (by rfl) ?hy33 ?rest33
       case hy33 => intro w; go_simp; (try with_reducible rfl)
       try simp only [Act.put, zp]
       refine readJ (i := 33) (L := #[zT,zT,zT,zT,zT,zT,zT,zT,zT,zT,zT,zT,zT,zT,zT,zT,zT,zT,zT,zT,zT,zT,zT,zT,zT,zT,zT,zT,zT,zT,zT,zT,zT,zT,zF,zF,zF,zF]) (v := .pointer (some ⟨mb, 0, none⟩)) rfl (by rfl) (by kernel_rfl) (by kernel_rfl) (by kernel_rfl) (fun _ _ _ h => h) (by assumption) (by rfl) ?ry33 ?rr33
       case ry33 =>
        intro w' h1
        obtain ⟨⟨k1, _⟩, k2, _⟩ := And.intro (cells1 h1.1) (cells1 h1.2)
        go_simp
       try simp only [Act.put, zp]
       refine pureJ (i := 34) (L := #[zT,zT,zT,zT,zT,zT,zT,zT,zT,zT,zT,zT,zT,zT,zT,zT,zT,zT,zT,zT,zT,zT,zT,zT,zT,zT,zT,zT,zT,zT,zT,zT,zT,zT,zT,zF,zF,zF]) (v := ?_) rfl (by rfl) (by kernel_rfl) (by kernel_rfl) (by kernel_rfl) (fun _ _ _ h => h) (by rfl) ?hy35 ?rest35
       case hy35 => intro w; go_simp; (try with_reducible rfl)
       try simp only [Act.put, zp]
       refine pureJ (i := 35) (L := #[zT,zT,zT,zT,zT,zT,zT,zT,zT,zT,zT,zT,zT,zT,zT,zT,zT,zT,zT,zT,zT,zT,zT,zT,zT,zT,zT,zT,zT,zT,zT,zT,zT,zT,zT,zT,zF,zF]) (v := ?_) rfl (by rfl) (by kernel_rfl) (by kernel_rfl) (by kernel_rfl) (fun _ _ _ h => h) (by rfl) ?hy36 ?rest36
       case hy36 => intro w; go_simp; (try with_reducible rfl)
       try simp only [Act.put, zp]
       obtain ⟨fn, tmps, assign, body, hy, hR⟩ := hY [0, 1, 2] 3 O3 W3 ⟨by decide, by decide⟩ hj (by decide)
       unfold encM at hy
       (try dsimp only at hy)
       (try simp only [Nat.reduceMul] at hy)
       refine stepKJ (i := 36) (L := #[zT,zT,zT,zT,zT,zT,zT,zT,zT,zT,zT,zT,zT,zT,zT,zT,zT,zT,zT,zT,zT,zT,zT,zT,zT,zT,zT,zT,zT,zT,zT,zT,zT,zT,zT,zT,zT,zF]) rfl (by rfl) (by kernel_rfl) (by rfl) (fun K hK => ?_)
       go_simp
       gi_wp2_with fail
       refine ⟨(fun h => by cases h), hR.mono ?_⟩
       clear hy hR
       rintro e W4 (⟨rfl, O4, hj4, hG⟩ | ⟨rfl, O4, hx4, hG⟩)
       · have hs4 : Two ga gb ma mb W4 := ⟨hG.same _ _ _ _ ha0 hs.1, hG.same _ _ _ _ hb0 hs.2⟩
         have ha4 : ¬ O4 ga := fun h => by
          rcases hG.new _ h with h | h
          · exact ha0 h
          · have := lt_of_heap hs.1
            omega
         have hb4 : ¬ O4 gb := fun h => by
          rcases hG.new _ h with h | h
          · exact hb0 h
          · have := lt_of_heap hs.2
            omega
         go_simp
         refine hK _ _ ⟨fun _ _ => hs4, ?_⟩
         clear hK K hG hs ha0 hb0 hj
         have hs := hs4
         have ha0 := ha4
         have hb0 := hb4
         have hj := hj4
         clear hs4 ha4 hb4 hj4
         try simp only [Act.put, zp]
         refine pureJ (i := 37) (L := #[zT,zT,zT,zT,zT,zT,zT,zT,zT,zT,zT,zT,zT,zT,zT,zT,zT,zT,zT,zT,zT,zT,zT,zT,zT,zT,zT,zT,zT,zT,zT,zT,zT,zT,zT,zT,zT,zT]) (v := ?_) rfl (by rfl) (by kernel_rfl) (by kernel_rfl) (by kernel_rfl) (fun _ _ _ h => h) (by rfl) ?hy38 ?rest38
         case hy38 => intro w; go_simp; (try with_reducible rfl)
         try simp only [Act.put, zp]
         refine doneJ (by kernel_rfl) ?_ _
         gi_wp2
         refine bodyPost_end (results_none rfl _ _ _) rfl ?_
         exact ⟨⟨_, rfl⟩, .inl ⟨_, O4, rfl, hj⟩⟩
       · 
         go_simp
         refine hK _ _ ⟨fun _ _ => ⟨hG.same _ _ _ _ ha0 hs.1, hG.same _ _ _ _ hb0 hs.2⟩, ?_⟩
         clear hK K hs ha0 hb0 hj hG
         try simp only [Act.put, zp]
         refine pureJ (i := 37) (L := #[zT,zT,zT,zT,zT,zT,zT,zT,zT,zT,zT,zT,zT,zT,zT,zT,zT,zT,zT,zT,zT,zT,zT,zT,zT,zT,zT,zT,zT,zT,zT,zT,zT,zT,zT,zT,zT,zT]) (v := ?_) rfl (by rfl) (by kernel_rfl) (by kernel_rfl) (by kernel_rfl) (fun _ _ _ h => h) (by rfl) ?hy39 ?rest39
         case hy39 => intro w; go_simp; (try with_reducible rfl)
         try simp only [Act.put, zp]
         refine doneJ (by kernel_rfl) ?_ _
         gi_wp2
         refine bodyPost_end (results_none rfl _ _ _) rfl ?_
         exact ⟨⟨_, rfl⟩, .inr ⟨_, O4, .inr (.inr (.inr rfl)), hx4⟩⟩
     · 
       go_simp
       refine hK _ _ ⟨fun _ _ => ⟨hG.same _ _ _ _ ha0 hs.1, hG.same _ _ _ _ hb0 hs.2⟩, ?_⟩
       clear hK K hs ha0 hb0 hj hG
       try simp only [Act.put, zp]
       refine pureJ (i := 27) (L := #[zT,zT,zT,zT,zT,zT,zT,zT,zT,zT,zT,zT,zT,zT,zT,zT,zT,zT,zT,zT,zT,zT,zT,zT,zT,zT,zT,zT,zF,zF,zF,zF,zF,zF,zF,zF,zF,zF]) (v := ?_) rfl (by rfl) (by kernel_rfl) (by kernel_rfl) (by kernel_rfl) (fun _ _ _ h => h) (by rfl) ?hy40 ?rest40
       case hy40 => intro w; go_simp; (try with_reducible rfl)
       try simp only [Act.put, zp]
       refine pureJ (i := 28) (L := #[zT,zT,zT,zT,zT,zT,zT,zT,zT,zT,zT,zT,zT,zT,zT,zT,zT,zT,zT,zT,zT,zT,zT,zT,zT,zT,zT,zT,zT,zF,zF,zF,zF,zF,zF,zF,zF,zF]) (v := ?_) rfl (by rfl) (by kernel_rfl) (by kernel_rfl) (by kernel_rfl) (fun _ _ _ h => h) (by rfl) ?hy41 ?rest41
       case hy41 => intro w; go_simp; (try with_reducible rfl)
       try simp only [Act.put, zp]
       refine skipJ (i := 29) (L := #[zT,zT,zT,zT,zT,zT,zT,zT,zT,zT,zT,zT,zT,zT,zT,zT,zT,zT,zT,zT,zT,zT,zT,zT,zT,zT,zT,zT,zT,zT,zF,zF,zF,zF,zF,zF,zF,zF]) rfl (by rfl) (by kernel_rfl) (by kernel_rfl) (by kernel_rfl) (fun _ _ _ h => h) (by rfl) ?_
       try simp only [Act.put, zp]
       refine skipJ (i := 30) (L := #[zT,zT,zT,zT,zT,zT,zT,zT,zT,zT,zT,zT,zT,zT,zT,zT,zT,zT,zT,zT,zT,zT,zT,zT,zT,zT,zT,zT,zT,zT,zT,zF,zF,zF,zF,zF,zF,zF]) rfl (by rfl) (by kernel_rfl) (by kernel_rfl) (by kernel_rfl) (fun _ _ _ h => h) (by rfl) ?_
       try simp only [Act.put, zp]
       refine skipJ (i := 31) (L := #[zT,zT,zT,zT,zT,zT,zT,zT,zT,zT,zT,zT,zT,zT,zT,zT,zT,zT,zT,zT,zT,zT,zT,zT,zT,zT,zT,zT,zT,zT,zT,zT,zF,zF,zF,zF,zF,zF]) rfl (by rfl) (by kernel_rfl) (by kernel_rfl) (by kernel_rfl) (fun _ _ _ h => h) (by rfl) ?_
       try simp only [Act.put, zp]
       refine skipJ (i := 32) (L := #[zT,zT,zT,zT,zT,zT,zT,zT,zT,zT,zT,zT,zT,zT,zT,zT,zT,zT,zT,zT,zT,zT,zT,zT,zT,zT,zT,zT,zT,zT,zT,zT,zT,zF,zF,zF,zF,zF]) rfl (by rfl) (by kernel_rfl) (by kernel_rfl) (by kernel_rfl) (fun _ _ _ h => h) (by rfl) ?_
       try simp only [Act.put, zp]
       refine skipJ (i := 33) (L := #[zT,zT,zT,zT,zT,zT,zT,zT,zT,zT,zT,zT,zT,zT,zT,zT,zT,zT,zT,zT,zT,zT,zT,zT,zT,zT,zT,zT,zT,zT,zT,zT,zT,zT,zF,zF,zF,zF]) rfl (by rfl) (by kernel_rfl) (by kernel_rfl) (by kernel_rfl) (fun _ _ _ h => h) (by rfl) ?_
       try simp only [Act.put, zp]
       refine skipJ (i := 34) (L := #[zT,zT,zT,zT,zT,zT,zT,zT,zT,zT,zT,zT,zT,zT,zT,zT,zT,zT,zT,zT,zT,zT,zT,zT,zT,zT,zT,zT,zT,zT,zT,zT,zT,zT,zT,zF,zF,zF]) rfl (by rfl) (by kernel_rfl) (by kernel_rfl) (by kernel_rfl) (fun _ _ _ h => h) (by rfl) ?_
       try simp only [Act.put, zp]
       refine skipJ (i := 35) (L := #[zT,zT,zT,zT,zT,zT,zT,zT,zT,zT,zT,zT,zT,zT,zT,zT,zT,zT,zT,zT,zT,zT,zT,zT,zT,zT,zT,zT,zT,zT,zT,zT,zT,zT,zT,zT,zF,zF]) rfl (by rfl) (by kernel_rfl) (by kernel_rfl) (by kernel_rfl) (fun _ _ _ h => h) (by rfl) ?_
       try simp only [Act.put, zp]
       refine skipJ (i := 36) (L := #[zT,zT,zT,zT,zT,zT,zT,zT,zT,zT,zT,zT,zT,zT,zT,zT,zT,zT,zT,zT,zT,zT,zT,zT,zT,zT,zT,zT,zT,zT,zT,zT,zT,zT,zT,zT,zT,zF]) rfl (by rfl) (by kernel_rfl) (by kernel_rfl) (by kernel_rfl) (fun _ _ _ h => h) (by rfl) ?_
       try simp only [Act.put, zp]
       refine pureJ (i := 37) (L := #[zT,zT,zT,zT,zT,zT,zT,zT,zT,zT,zT,zT,zT,zT,zT,zT,zT,zT,zT,zT,zT,zT,zT,zT,zT,zT,zT,zT,zT,zT,zT,zT,zT,zT,zT,zT,zT,zT]) (v := ?_) rfl (by rfl) (by kernel_rfl) (by kernel_rfl) (by kernel_rfl) (fun _ _ _ h => h) (by rfl) ?hy50 ?rest50
       case hy50 => intro w; go_simp; (try with_reducible rfl)
       try simp only [Act.put, zp]
       refine doneJ (by kernel_rfl) ?_ _
       gi_wp2
       refine bodyPost_end (results_none rfl _ _ _) rfl ?_
       exact ⟨⟨_, rfl⟩, .inr ⟨_, O3, .inr (.inr (.inl rfl)), hx3⟩⟩
   · 
     go_simp
     refine hK _ _ ⟨fun _ _ => ⟨hG.same _ _ _ _ ha0 hs.1, hG.same _ _ _ _ hb0 hs.2⟩, ?_⟩
     clear hK K hs ha0 hb0 hj hG
     try simp only [Act.put, zp]
     refine pureJ (i := 17) (L := #[zT,zT,zT,zT,zT,zT,zT,zT,zT,zT,zT,zT,zT,zT,zT,zT,zT,zT,zF,zF,zF,zF,zF,zF,zF,zF,zF,zF,zF,zF,zF,zF,zF,zF,zF,zF,zF,zF]) (v := ?_) rfl (by rfl) (by kernel_rfl) (by kernel_rfl) (by kernel_rfl) (fun _ _ _ h => h) (by rfl) ?hy51 ?rest51
     case hy51 => intro w; go_simp; (try with_reducible rfl)
     try simp only [Act.put, zp]
     refine pureJ (i := 18) (L := #[zT,zT,zT,zT,zT,zT,zT,zT,zT,zT,zT,zT,zT,zT,zT,zT,zT,zT,zT,zF,zF,zF,zF,zF,zF,zF,zF,zF,zF,zF,zF,zF,zF,zF,zF,zF,zF,zF]) (v := ?_) rfl (by rfl) (by kernel_rfl) (by kernel_rfl) (by kernel_rfl) (fun _ _ _ h => h) (by rfl) ?hy52 ?rest52
     case hy52 => intro w; go_simp; (try with_reducible rfl)
     try simp only [Act.put, zp]
     refine skipJ (i := 19) (L := #[zT,zT,zT,zT,zT,zT,zT,zT,zT,zT,zT,zT,zT,zT,zT,zT,zT,zT,zT,zT,zF,zF,zF,zF,zF,zF,zF,zF,zF,zF,zF,zF,zF,zF,zF,zF,zF,zF]) rfl (by rfl) (by kernel_rfl) (by kernel_rfl) (by kernel_rfl) (fun _ _ _ h => h) (by rfl) ?_
     try simp only [Act.put, zp]
     refine skipJ (i := 20) (L := #[zT,zT,zT,zT,zT,zT,zT,zT,zT,zT,zT,zT,zT,zT,zT,zT,zT,zT,zT,zT,zT,zF,zF,zF,zF,zF,zF,zF,zF,zF,zF,zF,zF,zF,zF,zF,zF,zF]) rfl (by rfl) (by kernel_rfl) (by kernel_rfl) (by kernel_rfl) (fun _ _ _ h => h) (by rfl) ?_
     try simp only [Act.put, zp]
     refine skipJ (i := 21) (L := #[zT,zT,zT,zT,zT,zT,zT,zT,zT,zT,zT,zT,zT,zT,zT,zT,zT,zT,zT,zT,zT,zT,zF,zF,zF,zF,zF,zF,zF,zF,zF,zF,zF,zF,zF,zF,zF,zF]) rfl (by rfl) (by kernel_rfl) (by kernel_rfl) (by kernel_rfl) (fun _ _ _ h => h) (by rfl) ?_
     try simp only [Act.put, zp]
     refine skipJ (i := 22) (L := #[zT,zT,zT,zT,zT,zT,zT,zT,zT,zT,zT,zT,zT,zT,zT,zT,zT,zT,zT,zT,zT,zT,zT,zF,zF,zF,zF,zF,zF,zF,zF,zF,zF,zF,zF,zF,zF,zF]) rfl (by rfl) (by kernel_rfl) (by kernel_rfl) (by kernel_rfl) (fun _ _ _ h => h) (by rfl) ?_
     try simp only [Act.put, zp]
     refine skipJ (i := 23) (L := #[zT,zT,zT,zT,zT,zT,zT,zT,zT,zT,zT,zT,zT,zT,zT,zT,zT,zT,zT,zT,zT,zT,zT,zT,zF,zF,zF,zF,zF,zF,zF,zF,zF,zF,zF,zF,zF,zF]) rfl (by rfl) (by kernel_rfl) (by kernel_rfl) (by kernel_rfl) (fun _ _ _ h => h) (by rfl) ?_
     try simp only [Act.put, zp]
     refine skipJ (i := 24) (L := #[zT,zT,zT,zT,zT,zT,zT,zT,zT,zT,zT,zT,zT,zT,zT,zT,zT,zT,zT,zT,zT,zT,zT,zT,zT,zF,zF,zF,zF,zF,zF,zF,zF,zF,zF,zF,zF,zF]) rfl (by rfl) (by kernel_rfl) (by kernel_rfl) (by kernel_rfl) (fun _ _ _ h => h) (by rfl) ?_
     try simp only [Act.put, zp]
     refine skipJ (i := 25) (L := #[zT,zT,zT,zT,zT,zT,zT,zT,zT,zT,zT,zT,zT,zT,zT,zT,zT,zT,zT,zT,zT,zT,zT,zT,zT,zT,zF,zF,zF,zF,zF,zF,zF,zF,zF,zF,zF,zF]) rfl (by rfl) (by kernel_rfl) (by kernel_rfl) (by kernel_rfl) (fun _ _ _ h => h) (by rfl) ?_
     try simp only [Act.put, zp]
     refine skipJ (i := 26) (L := #[zT,zT,zT,zT,zT,zT,zT,zT,zT,zT,zT,zT,zT,zT,zT,zT,zT,zT,zT,zT,zT,zT,zT,zT,zT,zT,zT,zF,zF,zF,zF,zF,zF,zF,zF,zF,zF,zF]) rfl (by rfl) (by kernel_rfl) (by kernel_rfl) (by kernel_rfl) (fun _ _ _ h => h) (by rfl) ?_
     try simp only [Act.put, zp]
     refine pureJ (i := 27) (L := #[zT,zT,zT,zT,zT,zT,zT,zT,zT,zT,zT,zT,zT,zT,zT,zT,zT,zT,zT,zT,zT,zT,zT,zT,zT,zT,zT,zT,zF,zF,zF,zF,zF,zF,zF,zF,zF,zF]) (v := ?_) rfl (by rfl) (by kernel_rfl) (by kernel_rfl) (by kernel_rfl) (fun _ _ _ h => h) (by rfl) ?hy61 ?rest61
     case hy61 => intro w; go_simp; (try with_reducible rfl)
     try simp only [Act.put, zp]
     refine pureJ (i := 28) (L := #[zT,zT,zT,zT,zT,zT,zT,zT,zT,zT,zT,zT,zT,zT,zT,zT,zT,zT,zT,zT,zT,zT,zT,zT,zT,zT,zT,zT,zT,zF,zF,zF,zF,zF,zF,zF,zF,zF]) (v := ?_) rfl (by rfl) (by kernel_rfl) (by kernel_rfl) (by kernel_rfl) (fun _ _ _ h => h) (by rfl) ?hy62 ?rest62
     case hy62 => intro w; go_simp; (try with_reducible rfl)
     try simp only [Act.put, zp]
     refine skipJ (i := 29) (L := #[zT,zT,zT,zT,zT,zT,zT,zT,zT,zT,zT,zT,zT,zT,zT,zT,zT,zT,zT,zT,zT,zT,zT,zT,zT,zT,zT,zT,zT,zT,zF,zF,zF,zF,zF,zF,zF,zF]) rfl (by rfl) (by kernel_rfl) (by kernel_rfl) (by kernel_rfl) (fun _ _ _ h => h) (by rfl) ?_
     try simp only [Act.put, zp]
     refine skipJ (i := 30) (L := #[zT,zT,zT,zT,zT,zT,zT,zT,zT,zT,zT,zT,zT,zT,zT,zT,zT,zT,zT,zT,zT,zT,zT,zT,zT,zT,zT,zT,zT,zT,zT,zF,zF,zF,zF,zF,zF,zF]) rfl (by rfl) (by kernel_rfl) (by kernel_rfl) (by kernel_rfl) (fun _ _ _ h => h) (by rfl) ?_
     try simp only [Act.put, zp]
     refine skipJ (i := 31) (L := #[zT,zT,zT,zT,zT,zT,zT,zT,zT,zT,zT,zT,zT,zT,zT,zT,zT,zT,zT,zT,zT,zT,zT,zT,zT,zT,zT,zT,zT,zT,zT,zT,zF,zF,zF,zF,zF,zF]) rfl (by rfl) (by kernel_rfl) (by kernel_rfl) (by kernel_rfl) (fun _ _ _ h => h) (by rfl) ?_
     try simp only [Act.put, zp]
     refine skipJ (i := 32) (L := #[zT,zT,zT,zT,zT,zT,zT,zT,zT,zT,zT,zT,zT,zT,zT,zT,zT,zT,zT,zT,zT,zT,zT,zT,zT,zT,zT,zT,zT,zT,zT,zT,zT,zF,zF,zF,zF,zF]) rfl (by rfl) (by kernel_rfl) (by kernel_rfl) (by kernel_rfl) (fun _ _ _ h => h) (by rfl) ?_
     try simp only [Act.put, zp]
     refine skipJ (i := 33) (L := #[zT,zT,zT,zT,zT,zT,zT,zT,zT,zT,zT,zT,zT,zT,zT,zT,zT,zT,zT,zT,zT,zT,zT,zT,zT,zT,zT,zT,zT,zT,zT,zT,zT,zT,zF,zF,zF,zF]) rfl (by rfl) (by kernel_rfl) (by kernel_rfl) (by kernel_rfl) (fun _ _ _ h => h) (by rfl) ?_
     try simp only [Act.put, zp]
     refine skipJ (i := 34) (L := #[zT,zT,zT,zT,zT,zT,zT,zT,zT,zT,zT,zT,zT,zT,zT,zT,zT,zT,zT,zT,zT,zT,zT,zT,zT,zT,zT,zT,zT,zT,zT,zT,zT,zT,zT,zF,zF,zF]) rfl (by rfl) (by kernel_rfl) (by kernel_rfl) (by kernel_rfl) (fun _ _ _ h => h) (by rfl) ?_
     try simp only [Act.put, zp]
     refine skipJ (i := 35) (L := #[zT,zT,zT,zT,zT,zT,zT,zT,zT,zT,zT,zT,zT,zT,zT,zT,zT,zT,zT,zT,zT,zT,zT,zT,zT,zT,zT,zT,zT,zT,zT,zT,zT,zT,zT,zT,zF,zF]) rfl (by rfl) (by kernel_rfl) (by kernel_rfl) (by kernel_rfl) (fun _ _ _ h => h) (by rfl) ?_
     try simp only [Act.put, zp]
     refine skipJ (i := 36) (L := #[zT,zT,zT,zT,zT,zT,zT,zT,zT,zT,zT,zT,zT,zT,zT,zT,zT,zT,zT,zT,zT,zT,zT,zT,zT,zT,zT,zT,zT,zT,zT,zT,zT,zT,zT,zT,zT,zF]) rfl (by rfl) (by kernel_rfl) (by kernel_rfl) (by kernel_rfl) (fun _ _ _ h => h) (by rfl) ?_
     try simp only [Act.put, zp]
     refine pureJ (i := 37) (L := #[zT,zT,zT,zT,zT,zT,zT,zT,zT,zT,zT,zT,zT,zT,zT,zT,zT,zT,zT,zT,zT,zT,zT,zT,zT,zT,zT,zT,zT,zT,zT,zT,zT,zT,zT,zT,zT,zT]) (v := ?_) rfl (by rfl) (by kernel_rfl) (by kernel_rfl) (by kernel_rfl) (fun _ _ _ h => h) (by rfl) ?hy71 ?rest71
     case hy71 => intro w; go_simp; (try with_reducible rfl)
     try simp only [Act.put, zp]
     refine doneJ (by kernel_rfl) ?_ _
     gi_wp2
     refine bodyPost_end (results_none rfl _ _ _) rfl ?_
     exact ⟨⟨_, rfl⟩, .inr ⟨_, O2, .inr (.inl rfl), hx2⟩⟩
 · 
   go_simp
   refine hK _ _ ⟨fun _ _ => ⟨hG.same _ _ _ _ ha0 hs.1, hG.same _ _ _ _ hb0 hs.2⟩, ?_⟩
   clear hK K hs ha0 hb0 hj hG
   try simp only [Act.put, zp]
   refine pureJ (i := 8) (L := #[zT,zT,zT,zT,zT,zT,zT,zT,zT,zF,zF,zF,zF,zF,zF,zF,zF,zF,zF,zF,zF,zF,zF,zF,zF,zF,zF,zF,zF,zF,zF,zF,zF,zF,zF,zF,zF,zF]) (v := ?_) rfl (by rfl) (by kernel_rfl) (by kernel_rfl) (by kernel_rfl) (fun _ _ _ h => h) (by rfl) ?hy72 ?rest72
   case hy72 => intro w; go_simp; (try with_reducible rfl)
   try simp only [Act.put, zp]
   refine skipJ (i := 9) (L := #[zT,zT,zT,zT,zT,zT,zT,zT,zT,zT,zF,zF,zF,zF,zF,zF,zF,zF,zF,zF,zF,zF,zF,zF,zF,zF,zF,zF,zF,zF,zF,zF,zF,zF,zF,zF,zF,zF]) rfl (by rfl) (by kernel_rfl) (by kernel_rfl) (by kernel_rfl) (fun _ _ _ h => h) (by rfl) ?_
   try simp only [Act.put, zp]
   refine skipJ (i := 10) (L := #[zT,zT,zT,zT,zT,zT,zT,zT,zT,zT,zT,zF,zF,zF,zF,zF,zF,zF,zF,zF,zF,zF,zF,zF,zF,zF,zF,zF,zF,zF,zF,zF,zF,zF,zF,zF,zF,zF]) rfl (by rfl) (by kernel_rfl) (by kernel_rfl) (by kernel_rfl) (fun _ _ _ h => h) (by rfl) ?_
   try simp only [Act.put, zp]
   refine skipJ (i := 11) (L := #[zT,zT,zT,zT,zT,zT,zT,zT,zT,zT,zT,zT,zF,zF,zF,zF,zF,zF,zF,zF,zF,zF,zF,zF,zF,zF,zF,zF,zF,zF,zF,zF,zF,zF,zF,zF,zF,zF]) rfl (by rfl) (by kernel_rfl) (by kernel_rfl) (by kernel_rfl) (fun _ _ _ h => h) (by rfl) ?_
   try simp only [Act.put, zp]
   refine skipJ (i := 12) (L := #[zT,zT,zT,zT,zT,zT,zT,zT,zT,zT,zT,zT,zT,zF,zF,zF,zF,zF,zF,zF,zF,zF,zF,zF,zF,zF,zF,zF,zF,zF,zF,zF,zF,zF,zF,zF,zF,zF]) rfl (by rfl) (by kernel_rfl) (by kernel_rfl) (by kernel_rfl) (fun _ _ _ h => h) (by rfl) ?_
   try simp only [Act.put, zp]
   refine skipJ (i := 13) (L := #[zT,zT,zT,zT,zT,zT,zT,zT,zT,zT,zT,zT,zT,zT,zF,zF,zF,zF,zF,zF,zF,zF,zF,zF,zF,zF,zF,zF,zF,zF,zF,zF,zF,zF,zF,zF,zF,zF]) rfl (by rfl) (by kernel_rfl) (by kernel_rfl) (by kernel_rfl) (fun _ _ _ h => h) (by rfl) ?_
   try simp only [Act.put, zp]
   refine skipJ (i := 14) (L := #[zT,zT,zT,zT,zT,zT,zT,zT,zT,zT,zT,zT,zT,zT,zT,zF,zF,zF,zF,zF,zF,zF,zF,zF,zF,zF,zF,zF,zF,zF,zF,zF,zF,zF,zF,zF,zF,zF]) rfl (by rfl) (by kernel_rfl) (by kernel_rfl) (by kernel_rfl) (fun _ _ _ h => h) (by rfl) ?_
   try simp only [Act.put, zp]
   refine skipJ (i := 15) (L := #[zT,zT,zT,zT,zT,zT,zT,zT,zT,zT,zT,zT,zT,zT,zT,zT,zF,zF,zF,zF,zF,zF,zF,zF,zF,zF,zF,zF,zF,zF,zF,zF,zF,zF,zF,zF,zF,zF]) rfl (by rfl) (by kernel_rfl) (by kernel_rfl) (by kernel_rfl) (fun _ _ _ h => h) (by rfl) ?_
   try simp only [Act.put, zp]
   refine skipJ (i := 16) (L := #[zT,zT,zT,zT,zT,zT,zT,zT,zT,zT,zT,zT,zT,zT,zT,zT,zT,zF,zF,zF,zF,zF,zF,zF,zF,zF,zF,zF,zF,zF,zF,zF,zF,zF,zF,zF,zF,zF]) rfl (by rfl) (by kernel_rfl) (by kernel_rfl) (by kernel_rfl) (fun _ _ _ h => h) (by rfl) ?_
   try simp only [Act.put, zp]
   refine pureJ (i := 17) (L := #[zT,zT,zT,zT,zT,zT,zT,zT,zT,zT,zT,zT,zT,zT,zT,zT,zT,zT,zF,zF,zF,zF,zF,zF,zF,zF,zF,zF,zF,zF,zF,zF,zF,zF,zF,zF,zF,zF]) (v := ?_) rfl (by rfl) (by kernel_rfl) (by kernel_rfl) (by kernel_rfl) (fun _ _ _ h => h) (by rfl) ?hy81 ?rest81
   case hy81 => intro w; go_simp; (try with_reducible rfl)
   try simp only [Act.put, zp]
   refine pureJ (i := 18) (L := #[zT,zT,zT,zT,zT,zT,zT,zT,zT,zT,zT,zT,zT,zT,zT,zT,zT,zT,zT,zF,zF,zF,zF,zF,zF,zF,zF,zF,zF,zF,zF,zF,zF,zF,zF,zF,zF,zF]) (v := ?_) rfl (by rfl) (by kernel_rfl) (by kernel_rfl) (by kernel_rfl) (fun _ _ _ h => h) (by rfl) ?hy82 ?rest82
   case hy82 => intro w; go_simp; (try with_reducible rfl)
   try simp only [Act.put, zp]
   refine skipJ (i := 19) (L := #[zT,zT,zT,zT,zT,zT,zT,zT,zT,zT,zT,zT,zT,zT,zT,zT,zT,zT,zT,zT,zF,zF,zF,zF,zF,zF,zF,zF,zF,zF,zF,zF,zF,zF,zF,zF,zF,zF]) rfl (by rfl) (by kernel_rfl) (by kernel_rfl) (by kernel_rfl) (fun _ _ _ h => h) (by rfl) ?_
   try simp only [Act.put, zp]
   refine skipJ (i := 20) (L := #[zT,zT,zT,zT,zT,zT,zT,zT,zT,zT,zT,zT,zT,zT,zT,zT,zT,zT,zT,zT,zT,zF,zF,zF,zF,zF,zF,zF,zF,zF,zF,zF,zF,zF,zF,zF,zF,zF]) rfl (by rfl) (by kernel_rfl) (by kernel_rfl) (by kernel_rfl) (fun _ _ _ h => h) (by rfl) ?_
   try simp only [Act.put, zp]
   refine skipJ (i := 21) (L := #[zT,zT,zT,zT,zT,zT,zT,zT,zT,zT,zT,zT,zT,zT,zT,zT,zT,zT,zT,zT,zT,zT,zF,zF,zF,zF,zF,zF,zF,zF,zF,zF,zF,zF,zF,zF,zF,zF]) rfl (by rfl) (by kernel_rfl) (by kernel_rfl) (by kernel_rfl) (fun _ _ _ h => h) (by rfl) ?_
   try simp only [Act.put, zp]
   refine skipJ (i := 22) (L := #[zT,zT,zT,zT,zT,zT,zT,zT,zT,zT,zT,zT,zT,zT,zT,zT,zT,zT,zT,zT,zT,zT,zT,zF,zF,zF,zF,zF,zF,zF,zF,zF,zF,zF,zF,zF,zF,zF]) rfl (by rfl) (by kernel_rfl) (by kernel_rfl) (by kernel_rfl) (fun _ _ _ h => h) (by rfl) ?_
   try simp only [Act.put, zp]
   refine skipJ (i := 23) (L := #[zT,zT,zT,zT,zT,zT,zT,zT,zT,zT,zT,zT,zT,zT,zT,zT,zT,zT,zT,zT,zT,zT,zT,zT,zF,zF,zF,zF,zF,zF,zF,zF,zF,zF,zF,zF,zF,zF]) rfl (by rfl) (by kernel_rfl) (by kernel_rfl) (by kernel_rfl) (fun _ _ _ h => h) (by rfl) ?_
   try simp only [Act.put, zp]
   refine skipJ (i := 24) (L := #[zT,zT,zT,zT,zT,zT,zT,zT,zT,zT,zT,zT,zT,zT,zT,zT,zT,zT,zT,zT,zT,zT,zT,zT,zT,zF,zF,zF,zF,zF,zF,zF,zF,zF,zF,zF,zF,zF]) rfl (by rfl) (by kernel_rfl) (by kernel_rfl) (by kernel_rfl) (fun _ _ _ h => h) (by rfl) ?_
   try simp only [Act.put, zp]
   refine skipJ (i := 25) (L := #[zT,zT,zT,zT,zT,zT,zT,zT,zT,zT,zT,zT,zT,zT,zT,zT,zT,zT,zT,zT,zT,zT,zT,zT,zT,zT,zF,zF,zF,zF,zF,zF,zF,zF,zF,zF,zF,zF]) rfl (by rfl) (by kernel_rfl) (by kernel_rfl) (by kernel_rfl) (fun _ _ _ h => h) (by rfl) ?_
   try simp only [Act.put, zp]
   refine skipJ (i := 26) (L := #[zT,zT,zT,zT,zT,zT,zT,zT,zT,zT,zT,zT,zT,zT,zT,zT,zT,zT,zT,zT,zT,zT,zT,zT,zT,zT,zT,zF,zF,zF,zF,zF,zF,zF,zF,zF,zF,zF]) rfl (by rfl) (by kernel_rfl) (by kernel_rfl) (by kernel_rfl) (fun _ _ _ h => h) (by rfl) ?_
   try simp only [Act.put, zp]
   refine pureJ (i := 27) (L := #[zT,zT,zT,zT,zT,zT,zT,zT,zT,zT,zT,zT,zT,zT,zT,zT,zT,zT,zT,zT,zT,zT,zT,zT,zT,zT,zT,zT,zF,zF,zF,zF,zF,zF,zF,zF,zF,zF]) (v := ?_) rfl (by rfl) (by kernel_rfl) (by kernel_rfl) (by kernel_rfl) (fun _ _ _ h => h) (by rfl) ?hy91 ?rest91
   case hy91 => intro w; go_simp; (try with_reducible rfl)
   try simp only [Act.put, zp]
   refine pureJ (i := 28) (L := #[zT,zT,zT,zT,zT,zT,zT,zT,zT,zT,zT,zT,zT,zT,zT,zT,zT,zT,zT,zT,zT,zT,zT,zT,zT,zT,zT,zT,zT,zF,zF,zF,zF,zF,zF,zF,zF,zF]) (v := ?_) rfl (by rfl) (by kernel_rfl) (by kernel_rfl) (by kernel_rfl) (fun _ _ _ h => h) (by rfl) ?hy92 ?rest92
   case hy92 => intro w; go_simp; (try with_reducible rfl)
   try simp only [Act.put, zp]
   refine skipJ (i := 29) (L := #[zT,zT,zT,zT,zT,zT,zT,zT,zT,zT,zT,zT,zT,zT,zT,zT,zT,zT,zT,zT,zT,zT,zT,zT,zT,zT,zT,zT,zT,zT,zF,zF,zF,zF,zF,zF,zF,zF]) rfl (by rfl) (by kernel_rfl) (by kernel_rfl) (by kernel_rfl) (fun _ _ _ h => h) (by rfl) ?_
   try simp only [Act.put, zp]
   refine skipJ (i := 30) (L := #[zT,zT,zT,zT,zT,zT,zT,zT,zT,zT,zT,zT,zT,zT,zT,zT,zT,zT,zT,zT,zT,zT,zT,zT,zT,zT,zT,zT,zT,zT,zT,zF,zF,zF,zF,zF,zF,zF]) rfl (by rfl) (by kernel_rfl) (by kernel_rfl) (by kernel_rfl) (fun _ _ _ h => h) (by rfl) ?_
   try simp only [Act.put, zp]
   refine skipJ (i := 31) (L := #[zT,zT,zT,zT,zT,zT,zT,zT,zT,zT,zT,zT,zT,zT,zT,zT,zT,zT,zT,zT,zT,zT,zT,zT,zT,zT,zT,zT,zT,zT,zT,zT,zF,zF,zF,zF,zF,zF]) rfl (by rfl) (by kernel_rfl) (by kernel_rfl) (by kernel_rfl) (fun _ _ _ h => h) (by rfl) ?_
   try simp only [Act.put, zp]
   refine skipJ (i := 32) (L := #[zT,zT,zT,zT,zT,zT,zT,zT,zT,zT,zT,zT,zT,zT,zT,zT,zT,zT,zT,zT,zT,zT,zT,zT,zT,zT,zT,zT,zT,zT,zT,zT,zT,zF,zF,zF,zF,zF]) rfl (by rfl) (by kernel_rfl) (by kernel_rfl) (by kernel_rfl) (fun _ _ _ h => h) (by rfl) ?_
   try simp only [Act.put, zp]
   refine skipJ (i := 33) (L := #[zT,zT,zT,zT,zT,zT,zT,zT,zT,zT,zT,zT,zT,zT,zT,zT,zT,zT,zT,zT,zT,zT,zT,zT,zT,zT,zT,zT,zT,zT,zT,zT,zT,zT,zF,zF,zF,zF]) rfl (by rfl) (by kernel_rfl) (by kernel_rfl) (by kernel_rfl) (fun _ _ _ h => h) (by rfl) ?_
   try simp only [Act.put, zp]
   refine skipJ (i := 34) (L := #[zT,zT,zT,zT,zT,zT,zT,zT,zT,zT,zT,zT,zT,zT,zT,zT,zT,zT,zT,zT,zT,zT,zT,zT,zT,zT,zT,zT,zT,zT,zT,zT,zT,zT,zT,zF,zF,zF]) rfl (by rfl) (by kernel_rfl) (by kernel_rfl) (by kernel_rfl) (fun _ _ _ h => h) (by rfl) ?_
   try simp only [Act.put, zp]
   refine skipJ (i := 35) (L := #[zT,zT,zT,zT,zT,zT,zT,zT,zT,zT,zT,zT,zT,zT,zT,zT,zT,zT,zT,zT,zT,zT,zT,zT,zT,zT,zT,zT,zT,zT,zT,zT,zT,zT,zT,zT,zF,zF]) rfl (by rfl) (by kernel_rfl) (by kernel_rfl) (by kernel_rfl) (fun _ _ _ h => h) (by rfl) ?_
   try simp only [Act.put, zp]
   refine skipJ (i := 36) (L := #[zT,zT,zT,zT,zT,zT,zT,zT,zT,zT,zT,zT,zT,zT,zT,zT,zT,zT,zT,zT,zT,zT,zT,zT,zT,zT,zT,zT,zT,zT,zT,zT,zT,zT,zT,zT,zT,zF]) rfl (by rfl) (by kernel_rfl) (by kernel_rfl) (by kernel_rfl) (fun _ _ _ h => h) (by rfl) ?_
   try simp only [Act.put, zp]
   refine pureJ (i := 37) (L := #[zT,zT,zT,zT,zT,zT,zT,zT,zT,zT,zT,zT,zT,zT,zT,zT,zT,zT,zT,zT,zT,zT,zT,zT,zT,zT,zT,zT,zT,zT,zT,zT,zT,zT,zT,zT,zT,zT]) (v := ?_) rfl (by rfl) (by kernel_rfl) (by kernel_rfl) (by kernel_rfl) (fun _ _ _ h => h) (by rfl) ?hy101 ?rest101
   case hy101 => intro w; go_simp; (try with_reducible rfl)
   try simp only [Act.put, zp]
   refine doneJ (by kernel_rfl) ?_ _
   gi_wp2
   refine bodyPost_end (results_none rfl _ _ _) rfl ?_
   exact ⟨⟨_, rfl⟩, .inr ⟨_, O1, .inl rfl, hx1⟩⟩
theorem parts_seq (m ga gb ma mb : Nat) (w : World) (hS : Two ga gb ma mb w) :
  SeqSep2 Nxt Fence.wide m Tryd.prog 80 #[.pointer (some ⟨ga, 0, none⟩), .pointer (some ⟨gb, 0, none⟩)] (encM ma mb) (fun ys => ys = [0, 1, 2, 3]) Pre 4 (fun k => k = ga ∨ k = gb) ga w :=
 fun l J Jx O0 W hW hJ _ hP _ hY h0 => parts1_in m l ga gb ma mb J Jx ga hJ hY O0 W ⟨(hW.block ga (lt_of_heap hS.1)).trans hS.1, (hW.block gb (lt_of_heap hS.2)).trans hS.2⟩ (hP _ (.inl rfl)) (hP _ (.inr rfl)) h0
/-- mass.parts. -/
theorem parts_any (w : World) (ma mb : Nat) : Calls Tryd.prog 59 #[.pointer (some ⟨ma, 0, none⟩), .pointer (some ⟨mb, 0, none⟩)] w fun e w' =>
  e = .returned (.func (.func 80) #[] #[.pointer (some ⟨w.heap.size, 0, none⟩), .pointer (some ⟨w.heap.size + 1, 0, none⟩)]) ∧ w' = (w.alloc (.cells #[.pointer (some ⟨ma, 0, none⟩)] 86)).alloc (.cells #[.pointer (some ⟨mb, 0, none⟩)] 86) := by
 go_enter Tryd.func59, Tryd.ntmps59
 go_wp2
 go_ret
 exact ⟨rfl, rfl⟩
end Ma
end Go.Proofs.YtbbnbgllgomolaaDoor