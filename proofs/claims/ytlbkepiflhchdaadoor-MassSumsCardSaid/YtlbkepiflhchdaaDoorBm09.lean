/- Sums, differences, halves and comparisons of dyads as they lie in memory. -/
/- The examples of the chapter: a walk. -/
/- The examples of the chapter: a walk (printed by a program of mine). -/
/- The law DyadHalves: a walk. -/
import Derived.Test.YtlbkepiflhchdaaDoorBm08
namespace Go.Proofs.YtlbkepiflhchdaaDoor
open Go.RowKit
namespace Dy
open Dp
theorem dig_ints {w : World} {lo hi : Nat} {A : Option Addr} {n : Nat} {xs : List Int} (h : Ints w lo hi .u32 A n xs) : Dig 4294967296 xs := fun x hx => by
  have h1 := h.wf x hx
  have h2 : 0 ≤ x ∧ x ≤ 4294967295 := by simpa [IntKind.min, IntKind.max, IntKind.signed, IntKind.bits] using h1
  omega
/-- A dyad's numbers. -/
def dn (s : Bool) (xs : List Int) (e : Int) : Dn := ⟨s, num 4294967296 xs, e.toNat⟩
theorem dn_ok {s : Bool} {xs : List Int} {e : Int} (hd : Dig 4294967296 xs) (h : MayD s xs e) : (dn s xs e).May ∧ canon 4294967296 (dn s xs e).m = xs ∧ ((dn s xs e).e : Int) = e :=
  ⟨(may_dn hd h).1, (may_dn hd h).2, by have := h.2.1; show ((e.toNat : Nat) : Int) = e; omega⟩
theorem dn_of {r : Dn} : dn r.neg (canon 4294967296 r.m) r.e = r := by
  unfold dn
  rw [(canon_spec 4294967296 r.m (by decide)).2.2]
  rfl
theorem Add_raw (w : World) (s1 s2 : Bool) (A1 A2 : Option Addr) (n1 c1 n2 c2 : Nat) (xs1 xs2 : List Int) (e1 e2 : Int) (h1 : Ints w 0 w.heap.size .u32 A1 n1 xs1) (h2 : Ints w 0 w.heap.size .u32 A2 n2 xs2) (m1 : MayD s1 xs1 e1) (m2 : MayD s2 xs2 e2) (hT : Tab w) (r : Dn) (code : Int) (h : addD (dn s1 xs1 e1) (dn s2 xs2 e2) = (r, code)) :
    Calls Tryd.prog 20 #[.agg #[.bool s1, .slice A1 n1 c1, .int .i64 e1], .agg #[.bool s2, .slice A2 n2 c2, .int .i64 e2]] w (Formed w r code) := by
  obtain ⟨y1, c1', k1⟩ := dn_ok (dig_ints h1) m1
  obtain ⟨y2, c2', k2⟩ := dn_ok (dig_ints h2) m2
  have := Add_ok w (dn s1 xs1 e1) (dn s2 xs2 e2) y1 y2 A1 n1 c1 (by rw [c1']; exact h1) A2 n2 c2 (by rw [c2']; exact h2) hT r code h
  rw [k1, k2] at this
  exact this
theorem Sub_raw (w : World) (s1 s2 : Bool) (A1 A2 : Option Addr) (n1 c1 n2 c2 : Nat) (xs1 xs2 : List Int) (e1 e2 : Int) (h1 : Ints w 0 w.heap.size .u32 A1 n1 xs1) (h2 : Ints w 0 w.heap.size .u32 A2 n2 xs2) (m1 : MayD s1 xs1 e1) (m2 : MayD s2 xs2 e2) (hT : Tab w) (r : Dn) (code : Int) (h : subD (dn s1 xs1 e1) (dn s2 xs2 e2) = (r, code)) :
    Calls Tryd.prog 22 #[.agg #[.bool s1, .slice A1 n1 c1, .int .i64 e1], .agg #[.bool s2, .slice A2 n2 c2, .int .i64 e2]] w (Formed w r code) := by
  obtain ⟨y1, c1', k1⟩ := dn_ok (dig_ints h1) m1
  obtain ⟨y2, c2', k2⟩ := dn_ok (dig_ints h2) m2
  have := Sub_ok w (dn s1 xs1 e1) (dn s2 xs2 e2) y1 y2 A1 n1 c1 (by rw [c1']; exact h1) A2 n2 c2 (by rw [c2']; exact h2) hT r code h
  rw [k1, k2] at this
  exact this
theorem Half_raw (w : World) (s1 : Bool) (A1 : Option Addr) (n1 c1 : Nat) (xs1 : List Int) (e1 : Int) (h1 : Ints w 0 w.heap.size .u32 A1 n1 xs1) (m1 : MayD s1 xs1 e1) (hT : Tab w) (r : Dn) (code : Int) (h : halfD (dn s1 xs1 e1) = (r, code)) :
    Calls Tryd.prog 24 #[.agg #[.bool s1, .slice A1 n1 c1, .int .i64 e1]] w (Formed w r code) := by
  obtain ⟨y1, c1', k1⟩ := dn_ok (dig_ints h1) m1
  have := Half_ok w (dn s1 xs1 e1) y1 A1 n1 c1 (by rw [c1']; exact h1) hT r code h
  rw [k1] at this
  exact this
theorem canon_inj {m k : Nat} (h : canon 4294967296 m = canon 4294967296 k) : m = k := by
  have h1 := (canon_spec 4294967296 m (by decide)).2.2
  have h2 := (canon_spec 4294967296 k (by decide)).2.2
  rw [← h1, ← h2, h]
/-- Whether two are the same. -/
theorem same_dn (a b : Dn) : Pa.Dy.same ⟨a.neg, canon 4294967296 a.m, a.e⟩ ⟨b.neg, canon 4294967296 b.m, b.e⟩ = decide (a = b) := by
  by_cases h : a = b
  · subst h
    simp [Pa.Dy.same_refl]
  · simp only [h, decide_false]
    unfold Pa.Dy.same Pa.Sm
    rw [Bool.eq_false_iff]
    intro hc
    simp only [Bool.and_eq_true, beq_iff_eq] at hc
    obtain ⟨h1, h2, h3⟩ := hc
    apply h
    cases a
    cases b
    simp only at h1 h2 h3
    have h4 := canon_inj h3
    subst h1 h4
    congr 1
    omega
theorem ints_one (w : World) (g : Nat) (t : TypeId) (x : Int) (hx : 0 ≤ x ∧ x ≤ 4294967295) (hg : g = w.heap.size) : Ints (w.alloc (.cells #[.int .u32 x] t)) g (g + 1) .u32 (some ⟨g, 0, none⟩) 1 [x] := by
  subst hg
  refine ⟨rfl, fun z hz => ?_, by omega, fun _ => ⟨w.heap.size, 0, rfl, Nat.le_refl _, by omega, fun j hj => ?_⟩⟩
  · rw [List.mem_singleton.1 hz]
    simpa [IntKind.min, IntKind.max, IntKind.signed, IntKind.bits] using hx
  · obtain rfl : j = 0 := by omega
    simp [go_sem]
/-- headcountlaw02.part. -/
theorem part_any (w : World) (s : Bool) (x : Int) (hx : 0 ≤ x ∧ x ≤ 4294967295) (e : Int) :
    Calls Tryd.prog 37 #[.bool s, .int .u32 x, .int .i64 e] w fun q w' => ∃ A, q = .returned (.agg #[.bool s, .slice A 1 1, .int .i64 e]) ∧ Below w.heap.size w w' ∧ Ints w' w.heap.size w'.heap.size .u32 A 1 [x] := by
  go_enter Tryd.func37, Tryd.ntmps37
  go_wp2
  refine bodyPost_ret (v := .agg #[.bool s, .slice (some ⟨w.heap.size + 1, 0, none⟩) 1 1, .int .i64 e]) (by simp [results, Tryd.results37, go_sem]) rfl ⟨some ⟨w.heap.size + 1, 0, none⟩, rfl, ?_, ?_⟩
  · exact ((Below.refl _ w).alloc (Nat.le_refl _) _).alloc (by simp) _
  · exact (ints_one _ (w.heap.size + 1) 52 x hx (by simp)).more (Nat.le_succ _) (by simp)
end Dy
end Go.Proofs.YtlbkepiflhchdaaDoor

namespace Go.Proofs.YtlbkepiflhchdaaDoor
open Go.RowKit
namespace Dy
open Dp
theorem may_small (s : Bool) (m e : Nat) (h0 : m ≠ 0) (h1 : m < 16) (h2 : e ≤ 1024) (h3 : 0 < e → m % 2 = 1) : Dn.May ⟨s, m, e⟩ :=
  ⟨capD_gt (k := 4) h1 (by decide), h2, fun h => absurd h h0, h3⟩
theorem al1 : halfD ⟨false, 3, 0⟩ = (⟨false, 3, 1⟩, 0) := formed_of (K := 1) (may_small _ _ _ (by decide) (by decide) (by decide) (by decide)) (by decide) (by decide) (by decide)
theorem al2 : halfD ⟨false, 2, 0⟩ = (⟨false, 1, 0⟩, 0) := formed_of (K := 1) (may_small _ _ _ (by decide) (by decide) (by decide) (by decide)) (by decide) (by decide) (by decide)
theorem al3 : addD ⟨false, 1, 1⟩ ⟨false, 1, 1⟩ = (⟨false, 1, 0⟩, 0) := add_of (K := 1) (may_small _ _ _ (by decide) (by decide) (by decide) (by decide)) (by decide) (by decide) (by decide) (by decide)
theorem al4 : subD ⟨false, 1, 1⟩ ⟨false, 3, 2⟩ = (⟨true, 1, 2⟩, 0) := sub_of (K := 2) (may_small _ _ _ (by decide) (by decide) (by decide) (by decide)) (by decide) (by decide) (by decide) (by decide)
theorem canon_one (m : Nat) (h0 : m ≠ 0) (h1 : m < 4294967296) : canon 4294967296 m = [(m : Int)] := by
  refine (canon_of (by decide) (fun x hx => ?_) (fun _ => ?_) ?_).symm
  · rw [List.mem_singleton.1 hx]
    omega
  · simp
    exact h0
  · simp [num]
/-- A dyad in a box. -/
structure Box (w : World) (g : Nat) (d : Dn) : Prop where
  some_ : ∃ A n c, w.heap[g]? = some (.cells #[.bool d.neg, .slice A n c, .int .i64 d.e] 24 (0, 0)) ∧ Ints w 0 w.heap.size .u32 A n (canon 4294967296 d.m)
theorem Box.below {w w' : World} {g : Nat} {d : Dn} (h : Box w g d) (hb : Below w.heap.size w w') : Box w' g d := by
  obtain ⟨A, n, c, h1, h2⟩ := h.some_
  exact ⟨A, n, c, (hb.block g (Array.getElem?_eq_some_iff.1 h1).1).trans h1, (h2.below hb (Nat.le_refl _)).more (Nat.le_refl _) hb.size⟩
theorem Box.new {w : World} (d : Dn) (A : Option Addr) (n c : Nat) (h : Ints w 0 w.heap.size .u32 A n (canon 4294967296 d.m)) (s : Bool) (e : Int) (hs : s = d.neg) (he : e = d.e) : Box (w.alloc (.cells #[.bool s, .slice A n c, .int .i64 e] 24)) w.heap.size d := by
  subst hs he
  exact ⟨A, n, c, heap_alloc_last _ _, (h.alloc (Nat.le_refl _) _).more (Nat.le_refl _) (by simp)⟩
theorem ints_all {w : World} {lo : Nat} {A : Option Addr} {n : Nat} {xs : List Int} (h : Ints w lo w.heap.size .u32 A n xs) : Ints w 0 w.heap.size .u32 A n xs := h.more (Nat.zero_le _) (Nat.le_refl _)
theorem ints_on {w w' : World} {A : Option Addr} {n : Nat} {xs : List Int} (h : Ints w 0 w.heap.size .u32 A n xs) (hb : Below w.heap.size w w') : Ints w' 0 w'.heap.size .u32 A n xs := (h.below hb (Nat.le_refl _)).more (Nat.le_refl _) hb.size
/-- Amid a walk: nothing of what was has changed, the table is there. -/
structure Amid (w0 w : World) : Prop where
  below : Below w0.heap.size w0 w
  tab : Tab w
theorem Amid.on {w0 w w' : World} (h : Amid w0 w) (hb : Below w.heap.size w w') : Amid w0 w' := ⟨h.below.trans (hb.mono h.below.size), h.tab.below hb h.tab.lt⟩
theorem Amid.alloc {w0 w : World} (h : Amid w0 w) (o : Obj) : Amid w0 (w.alloc o) := h.on ((Below.refl _ w).alloc (Nat.le_refl _) o)
end Dy
end Go.Proofs.YtlbkepiflhchdaaDoor

namespace Go.Proofs.YtlbkepiflhchdaaDoor
open Go.RowKit
namespace Dy
open Dp
/-- Blocks that were there are as they were. -/
def Keeps (W w : World) : Prop := ∀ p, p < W.heap.size → w.heap[p]? = W.heap[p]?
theorem Keeps.refl (W : World) : Keeps W W := fun _ _ => rfl
theorem Keeps.on {W w w' : World} (h : Keeps W w) (hs : W.heap.size ≤ w.heap.size) (hb : Below w.heap.size w w') : Keeps W w' := fun p hp => (hb.block p (Nat.lt_of_lt_of_le hp hs)).trans (h p hp)
theorem Amid.drew {w0 w : World} (h : Amid w0 w) : Amid w0 w.drew := ⟨h.below.drew, h.tab.keep rfl⟩
theorem same_true {s s' : Bool} {xs ys : List Int} {e e' : Int} (h1 : s = s') (h2 : xs = ys) (h3 : e = e') : Pa.Dy.same ⟨s, xs, e⟩ ⟨s', ys, e'⟩ = true := by
  subst h1 h2 h3
  exact Pa.Dy.same_refl _
end Dy
end Go.Proofs.YtlbkepiflhchdaaDoor

namespace Go.Proofs.YtlbkepiflhchdaaDoor
open Go.RowKit
namespace Dy
open Dp
/-- What a law answers. -/
def Yes (w : World) (e : Ending) (w' : World) : Prop := e = .returned (.bool true) ∧ Below w.heap.size w w'
theorem boxOn {w w' : World} {g B : Nat} {x y z : Value} {t : TypeId} (h : w.heap[g]? = some (.cells #[x, y, z] t (0, 0))) (hb : Below B w w') (hB : g < B) : w'.heap[g]? = some (.cells #[x, y, z] t (0, 0)) := (hb.block g hB).trans h
theorem not_great {s : Bool} {xs : List Int} {e : Int} (h : Pa.Dy.great ⟨s, xs, e⟩ = false) : xs.length ≤ 42 ∧ e ≤ 1100 := by
  simp [Pa.Dy.great] at h
  omega
theorem same_res {a b : Dn} {xs ys : List Int} {e f : Int} {s t : Bool} (h : a = b) (h1 : s = a.neg) (h2 : xs = canon 4294967296 a.m) (h3 : e = a.e) (h4 : t = b.neg) (h5 : ys = canon 4294967296 b.m) (h6 : f = b.e) : Pa.Dy.same ⟨s, xs, e⟩ ⟨t, ys, f⟩ = true := by
  subst h h1 h2 h3 h4 h5 h6
  exact Pa.Dy.same_refl _
end Dy
end Go.Proofs.YtlbkepiflhchdaaDoor
