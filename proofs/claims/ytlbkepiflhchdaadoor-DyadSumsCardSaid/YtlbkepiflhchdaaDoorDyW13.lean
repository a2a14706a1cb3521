/- Sums, differences, halves and comparisons of dyads as they lie in memory. -/
import Derived.Test.YtlbkepiflhchdaaDoorDyW12
import Derived.Test.YtlbkepiflhchdaaDoorPaWalks2
namespace Go.Proofs.YtlbkepiflhchdaaDoor
open Go.RowKit
namespace Dy
open Dp
theorem dig_ints {w : World} {lo hi : Nat} {A : Option Addr} {n : Nat} {xs : List Int} (h : Ints w lo hi .u32 A n xs) : Dig 4294967296 xs := fun x hx => by
  have h1 := h.wf x hx
  have h2 : 0 ≤ x ∧ x ≤ 4294967295 := by simpa [IntKind.min, IntKind.max, IntKind.signed, IntKind.bits] using h1
  omega
/-- A dyad's numbers. -/
def dn (s : Bool) (xs : List Int) (e : Int) : Dn := ⟨s, num 4294967296 xs, e.toNat⟩
theorem dn_ok {s : Bool} {xs : List Int} {e : Int} (hd : Dig 4294967296 xs) (h : MayD s xs e) : (dn s xs e).May ∧ canon 4294967296 (dn s xs e).m = xs ∧ ((dn s xs e).e : Int) = e :=
  ⟨(may_dn hd h).1, (may_dn hd h).2, by have := h.2.1; show ((e.toNat : Nat) : Int) = e; omega⟩
theorem dn_of {r : Dn} : dn r.neg (canon 4294967296 r.m) r.e = r := by
  unfold dn
  rw [(canon_spec 4294967296 r.m (by decide)).2.2]
  rfl
theorem Add_raw (w : World) (s1 s2 : Bool) (A1 A2 : Option Addr) (n1 c1 n2 c2 : Nat) (xs1 xs2 : List Int) (e1 e2 : Int) (h1 : Ints w 0 w.heap.size .u32 A1 n1 xs1) (h2 : Ints w 0 w.heap.size .u32 A2 n2 xs2) (m1 : MayD s1 xs1 e1) (m2 : MayD s2 xs2 e2) (hT : Tab w) (r : Dn) (code : Int) (h : addD (dn s1 xs1 e1) (dn s2 xs2 e2) = (r, code)) :
    Calls Tryd.prog 20 #[.agg #[.bool s1, .slice A1 n1 c1, .int .i64 e1], .agg #[.bool s2, .slice A2 n2 c2, .int .i64 e2]] w (Formed w r code) := by
  obtain ⟨y1, c1', k1⟩ := dn_ok (dig_ints h1) m1
  obtain ⟨y2, c2', k2⟩ := dn_ok (dig_ints h2) m2
  have := Add_ok w (dn s1 xs1 e1) (dn s2 xs2 e2) y1 y2 A1 n1 c1 (by rw [c1']; exact h1) A2 n2 c2 (by rw [c2']; exact h2) hT r code h
  rw [k1, k2] at this
  exact this
theorem Sub_raw (w : World) (s1 s2 : Bool) (A1 A2 : Option Addr) (n1 c1 n2 c2 : Nat) (xs1 xs2 : List Int) (e1 e2 : Int) (h1 : Ints w 0 w.heap.size .u32 A1 n1 xs1) (h2 : Ints w 0 w.heap.size .u32 A2 n2 xs2) (m1 : MayD s1 xs1 e1) (m2 : MayD s2 xs2 e2) (hT : Tab w) (r : Dn) (code : Int) (h : subD (dn s1 xs1 e1) (dn s2 xs2 e2) = (r, code)) :
    Calls Tryd.prog 22 #[.agg #[.bool s1, .slice A1 n1 c1, .int .i64 e1], .agg #[.bool s2, .slice A2 n2 c2, .int .i64 e2]] w (Formed w r code) := by
  obtain ⟨y1, c1', k1⟩ := dn_ok (dig_ints h1) m1
  obtain ⟨y2, c2', k2⟩ := dn_ok (dig_ints h2) m2
  have := Sub_ok w (dn s1 xs1 e1) (dn s2 xs2 e2) y1 y2 A1 n1 c1 (by rw [c1']; exact h1) A2 n2 c2 (by rw [c2']; exact h2) hT r code h
  rw [k1, k2] at this
  exact this
theorem Half_raw (w : World) (s1 : Bool) (A1 : Option Addr) (n1 c1 : Nat) (xs1 : List Int) (e1 : Int) (h1 : Ints w 0 w.heap.size .u32 A1 n1 xs1) (m1 : MayD s1 xs1 e1) (hT : Tab w) (r : Dn) (code : Int) (h : halfD (dn s1 xs1 e1) = (r, code)) :
    Calls Tryd.prog 24 #[.agg #[.bool s1, .slice A1 n1 c1, .int .i64 e1]] w (Formed w r code) := by
  obtain ⟨y1, c1', k1⟩ := dn_ok (dig_ints h1) m1
  have := Half_ok w (dn s1 xs1 e1) y1 A1 n1 c1 (by rw [c1']; exact h1) hT r code h
  rw [k1] at this
  exact this
theorem canon_inj {m k : Nat} (h : canon 4294967296 m = canon 4294967296 k) : m = k := by
  have h1 := (canon_spec 4294967296 m (by decide)).2.2
  have h2 := (canon_spec 4294967296 k (by decide)).2.2
  rw [← h1, ← h2, h]
/-- Whether two are the same. -/
theorem same_dn (a b : Dn) : Pa.Dy.same ⟨a.neg, canon 4294967296 a.m, a.e⟩ ⟨b.neg, canon 4294967296 b.m, b.e⟩ = decide (a = b) := by
  by_cases h : a = b
  · subst h
    simp [Pa.Dy.same_refl]
  · simp only [h, decide_false]
    unfold Pa.Dy.same Pa.Sm
    rw [Bool.eq_false_iff]
    intro hc
    simp only [Bool.and_eq_true, beq_iff_eq] at hc
    obtain ⟨h1, h2, h3⟩ := hc
    apply h
    cases a
    cases b
    simp only at h1 h2 h3
    have h4 := canon_inj h3
    subst h1 h4
    congr 1
    omega
theorem ints_one (w : World) (g : Nat) (t : TypeId) (x : Int) (hx : 0 ≤ x ∧ x ≤ 4294967295) (hg : g = w.heap.size) : Ints (w.alloc (.cells #[.int .u32 x] t)) g (g + 1) .u32 (some ⟨g, 0, none⟩) 1 [x] := by
  subst hg
  refine ⟨rfl, fun z hz => ?_, by omega, fun _ => ⟨w.heap.size, 0, rfl, Nat.le_refl _, by omega, fun j hj => ?_⟩⟩
  · rw [List.mem_singleton.1 hz]
    simpa [IntKind.min, IntKind.max, IntKind.signed, IntKind.bits] using hx
  · obtain rfl : j = 0 := by omega
    simp [go_sem]
/-- headcountlaw02.part. -/
theorem part_any (w : World) (s : Bool) (x : Int) (hx : 0 ≤ x ∧ x ≤ 4294967295) (e : Int) :
    Calls Tryd.prog 37 #[.bool s, .int .u32 x, .int .i64 e] w fun q w' => ∃ A, q = .returned (.agg #[.bool s, .slice A 1 1, .int .i64 e]) ∧ Below w.heap.size w w' ∧ Ints w' w.heap.size w'.heap.size .u32 A 1 [x] := by
  go_enter Tryd.func37, Tryd.ntmps37
  go_wp2
  refine bodyPost_ret (v := .agg #[.bool s, .slice (some ⟨w.heap.size + 1, 0, none⟩) 1 1, .int .i64 e]) (by simp [results, Tryd.results37, go_sem]) rfl ⟨some ⟨w.heap.size + 1, 0, none⟩, rfl, ?_, ?_⟩
  · exact ((Below.refl _ w).alloc (Nat.le_refl _) _).alloc (by simp) _
  · exact (ints_one _ (w.heap.size + 1) 52 x hx (by simp)).more (Nat.le_succ _) (by simp)
end Dy
end Go.Proofs.YtlbkepiflhchdaaDoor
