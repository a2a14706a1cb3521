/- Sums, differences, halves and comparisons of dyads as they lie in memory. -/
/- The examples of the chapter: a walk. -/
/- The examples of the chapter: a walk (printed by a program of mine). -/
/- The law DyadHalves: a walk. -/
import Derived.Test.YtlbkepiflhchdaaDoorBn08
namespace Go.Proofs.YtlbkepiflhchdaaDoor
open Go.RowKit
namespace Dy
open Dp
theorem dig_ints {w : World} {lo hi : Nat} {A : Option Addr} {n : Nat} {xs : List Int} (h : Ints w lo hi .u32 A n xs) : Dig 4294967296 xs := fun x hx => by
  have h1 := h.wf x hx
  have h2 : 0 ≤ x ∧ x ≤ 4294967295 := by simpa [IntKind.min, IntKind.max, IntKind.signed, IntKind.bits] using h1
  omega
/-- A dyad's numbers. -/
def dn (s : Bool) (xs : List Int) (e : Int) : Dn := ⟨s, num 4294967296 xs, e.toNat⟩
theorem dn_ok {s : Bool} {xs : List Int} {e : Int} (hd : Dig 4294967296 xs) (h : MayD s xs e) : (dn s xs e).May ∧ canon 4294967296 (dn s xs e).m = xs ∧ ((dn s xs e).e : Int) = e :=
  ⟨(may_dn hd h).1, (may_dn hd h).2, by have := h.2.1; show ((e.toNat : Nat) : Int) = e; omega⟩
theorem dn_of {r : Dn} : dn r.neg (canon 4294967296 r.m) r.e = r := by
  unfold dn
  rw [(canon_spec 4294967296 r.m (by decide)).2.2]
  rfl
theorem Add_raw (w : World) (s1 s2 : Bool) (A1 A2 : Option Addr) (n1 c1 n2 c2 : Nat) (xs1 xs2 : List Int) (e1 e2 : Int) (h1 : Ints w 0 w.heap.size .u32 A1 n1 xs1) (h2 : Ints w 0 w.heap.size .u32 A2 n2 xs2) (m1 : MayD s1 xs1 e1) (m2 : MayD s2 xs2 e2) (hT : Tab w) (r : Dn) (code : Int) (h : addD (dn s1 xs1 e1) (dn s2 xs2 e2) = (r, code)) :
    Calls Tryd.prog 20 #[.agg #[.bool s1, .slice A1 n1 c1, .int .i64 e1], .agg #[.bool s2, .slice A2 n2 c2, .int .i64 e2]] w (Formed w r code) := by
  obtain ⟨y1, c1', k1⟩ := dn_ok (dig_ints h1) m1
  obtain ⟨y2, c2', k2⟩ := dn_ok (dig_ints h2) m2
  have := Add_ok w (dn s1 xs1 e1) (dn s2 xs2 e2) y1 y2 A1 n1 c1 (by rw [c1']; exact h1) A2 n2 c2 (by rw [c2']; exact h2) hT r code h
  rw [k1, k2] at this
  exact this
theorem Sub_raw (w : World) (s1 s2 : Bool) (A1 A2 : Option Addr) (n1 c1 n2 c2 : Nat) (xs1 xs2 : List Int) (e1 e2 : Int) (h1 : Ints w 0 w.heap.size .u32 A1 n1 xs1) (h2 : Ints w 0 w.heap.size .u32 A2 n2 xs2) (m1 : MayD s1 xs1 e1) (m2 : MayD s2 xs2 e2) (hT : Tab w) (r : Dn) (code : Int) (h : subD (dn s1 xs1 e1) (dn s2 xs2 e2) = (r, code)) :
    Calls Tryd.prog 22 #[.agg #[.bool s1, .slice A1 n1 c1, .int .i64 e1], .agg #[.bool s2, .slice A2 n2 c2, .int .i64 e2]] w (Formed w r code) := by
  obtain ⟨y1, c1', k1⟩ := dn_ok (dig_ints h1) m1
  obtain ⟨y2, c2', k2⟩ := dn_ok (dig_ints h2) m2
  have := Sub_ok w (dn s1 xs1 e1) (dn s2 xs2 e2) y1 y2 A1 n1 c1 (by rw [c1']; exact h1) A2 n2 c2 (by rw [c2']; exact h2) hT r code h
  rw [k1, k2] at this
  exact this
theorem Half_raw (w : World) (s1 : Bool) (A1 : Option Addr) (n1 c1 : Nat) (xs1 : List Int) (e1 : Int) (h1 : Ints w 0 w.heap.size .u32 A1 n1 xs1) (m1 : MayD s1 xs1 e1) (hT : Tab w) (r : Dn) (code : Int) (h : halfD (dn s1 xs1 e1) = (r, code)) :
    Calls Tryd.prog 24 #[.agg #[.bool s1, .slice A1 n1 c1, .int .i64 e1]] w (Formed w r code) := by
  obtain ⟨y1, c1', k1⟩ := dn_ok (dig_ints h1) m1
  have := Half_ok w (dn s1 xs1 e1) y1 A1 n1 c1 (by rw [c1']; exact h1) hT r code h
  rw [k1] at this
  exact this
theorem canon_inj {m k : Nat} (h : canon 4294967296 m = canon 4294967296 k) : m = k := by
  have h1 := (canon_spec 4294967296 m (by decide)).2.2
  have h2 := (canon_spec 4294967296 k (by decide)).2.2
  rw [← h1, ← h2, h]
/-- Whether two are the same. -/
theorem same_dn (a b : Dn) : Pa.Dy.same ⟨a.neg, canon 4294967296 a.m, a.e⟩ ⟨b.neg, canon 4294967296 b.m, b.e⟩ = decide (a = b) := by
  by_cases h : a = b
  · subst h
    simp [Pa.Dy.same_refl]
  · simp only [h, decide_false]
    unfold Pa.Dy.same Pa.Sm
    rw [Bool.eq_false_iff]
    intro hc
    simp only [Bool.and_eq_true, beq_iff_eq] at hc
    obtain ⟨h1, h2, h3⟩ := hc
    apply h
    cases a
    cases b
    simp only at h1 h2 h3
    have h4 := canon_inj h3
    subst h1 h4
    congr 1
    omega
theorem ints_one (w : World) (g : Nat) (t : TypeId) (x : Int) (hx : 0 ≤ x ∧ x ≤ 4294967295) (hg : g = w.heap.size) : Ints (w.alloc (.cells #[.int .u32 x] t)) g (g + 1) .u32 (some ⟨g, 0, none⟩) 1 [x] := by
  subst hg
  refine ⟨rfl, fun z hz => ?_, by omega, fun _ => ⟨w.heap.size, 0, rfl, Nat.le_refl _, by omega, fun j hj => ?_⟩⟩
  · rw [List.mem_singleton.1 hz]
    simpa [IntKind.min, IntKind.max, IntKind.signed, IntKind.bits] using hx
  · obtain rfl : j = 0 := by omega
    simp [go_sem]
/-- headcountlaw02.part. -/
theorem part_any (w : World) (s : Bool) (x : Int) (hx : 0 ≤ x ∧ x ≤ 4294967295) (e : Int) :
    Calls Tryd.prog 37 #[.bool s, .int .u32 x, .int .i64 e] w fun q w' => ∃ A, q = .returned (.agg #[.bool s, .slice A 1 1, .int .i64 e]) ∧ Below w.heap.size w w' ∧ Ints w' w.heap.size w'.heap.size .u32 A 1 [x] := by
  go_enter Tryd.func37, Tryd.ntmps37
  go_wp2
  refine bodyPost_ret (v := .agg #[.bool s, .slice (some ⟨w.heap.size + 1, 0, none⟩) 1 1, .int .i64 e]) (by simp [results, Tryd.results37, go_sem]) rfl ⟨some ⟨w.heap.size + 1, 0, none⟩, rfl, ?_, ?_⟩
  · exact ((Below.refl _ w).alloc (Nat.le_refl _) _).alloc (by simp) _
  · exact (ints_one _ (w.heap.size + 1) 52 x hx (by simp)).more (Nat.le_succ _) (by simp)
end Dy
end Go.Proofs.YtlbkepiflhchdaaDoor

namespace Go.Proofs.YtlbkepiflhchdaaDoor
open Go.RowKit
namespace Dy
open Dp
theorem may_small (s : Bool) (m e : Nat) (h0 : m ≠ 0) (h1 : m < 16) (h2 : e ≤ 1024) (h3 : 0 < e → m % 2 = 1) : Dn.May ⟨s, m, e⟩ :=
  ⟨capD_gt (k := 4) h1 (by decide), h2, fun h => absurd h h0, h3⟩
theorem al1 : halfD ⟨false, 3, 0⟩ = (⟨false, 3, 1⟩, 0) := formed_of (K := 1) (may_small _ _ _ (by decide) (by decide) (by decide) (by decide)) (by decide) (by decide) (by decide)
theorem al2 : halfD ⟨false, 2, 0⟩ = (⟨false, 1, 0⟩, 0) := formed_of (K := 1) (may_small _ _ _ (by decide) (by decide) (by decide) (by decide)) (by decide) (by decide) (by decide)
theorem al3 : addD ⟨false, 1, 1⟩ ⟨false, 1, 1⟩ = (⟨false, 1, 0⟩, 0) := add_of (K := 1) (may_small _ _ _ (by decide) (by decide) (by decide) (by decide)) (by decide) (by decide) (by decide) (by decide)
theorem al4 : subD ⟨false, 1, 1⟩ ⟨false, 3, 2⟩ = (⟨true, 1, 2⟩, 0) := sub_of (K := 2) (may_small _ _ _ (by decide) (by decide) (by decide) (by decide)) (by decide) (by decide) (by decide) (by decide)
theorem canon_one (m : Nat) (h0 : m ≠ 0) (h1 : m < 4294967296) : canon 4294967296 m = [(m : Int)] := by
  refine (canon_of (by decide) (fun x hx => ?_) (fun _ => ?_) ?_).symm
  · rw [List.mem_singleton.1 hx]
    omega
  · simp
    exact h0
  · simp [num]
/-- A dyad in a box. -/
structure Box (w : World) (g : Nat) (d : Dn) : Prop where
  some_ : ∃ A n c, w.heap[g]? = some (.cells #[.bool d.neg, .slice A n c, .int .i64 d.e] 24 (0, 0)) ∧ Ints w 0 w.heap.size .u32 A n (canon 4294967296 d.m)
theorem Box.below {w w' : World} {g : Nat} {d : Dn} (h : Box w g d) (hb : Below w.heap.size w w') : Box w' g d := by
  obtain ⟨A, n, c, h1, h2⟩ := h.some_
  exact ⟨A, n, c, (hb.block g (Array.getElem?_eq_some_iff.1 h1).1).trans h1, (h2.below hb (Nat.le_refl _)).more (Nat.le_refl _) hb.size⟩
theorem Box.new {w : World} (d : Dn) (A : Option Addr) (n c : Nat) (h : Ints w 0 w.heap.size .u32 A n (canon 4294967296 d.m)) (s : Bool) (e : Int) (hs : s = d.neg) (he : e = d.e) : Box (w.alloc (.cells #[.bool s, .slice A n c, .int .i64 e] 24)) w.heap.size d := by
  subst hs he
  exact ⟨A, n, c, heap_alloc_last _ _, (h.alloc (Nat.le_refl _) _).more (Nat.le_refl _) (by simp)⟩
theorem ints_all {w : World} {lo : Nat} {A : Option Addr} {n : Nat} {xs : List Int} (h : Ints w lo w.heap.size .u32 A n xs) : Ints w 0 w.heap.size .u32 A n xs := h.more (Nat.zero_le _) (Nat.le_refl _)
theorem ints_on {w w' : World} {A : Option Addr} {n : Nat} {xs : List Int} (h : Ints w 0 w.heap.size .u32 A n xs) (hb : Below w.heap.size w w') : Ints w' 0 w'.heap.size .u32 A n xs := (h.below hb (Nat.le_refl _)).more (Nat.le_refl _) hb.size
/-- Amid a walk: nothing of what was has changed, the table is there. -/
structure Amid (w0 w : World) : Prop where
  below : Below w0.heap.size w0 w
  tab : Tab w
theorem Amid.on {w0 w w' : World} (h : Amid w0 w) (hb : Below w.heap.size w w') : Amid w0 w' := ⟨h.below.trans (hb.mono h.below.size), h.tab.below hb h.tab.lt⟩
theorem Amid.alloc {w0 w : World} (h : Amid w0 w) (o : Obj) : Amid w0 (w.alloc o) := h.on ((Below.refl _ w).alloc (Nat.le_refl _) o)
end Dy
end Go.Proofs.YtlbkepiflhchdaaDoor

namespace Go.Proofs.YtlbkepiflhchdaaDoor
open Go.RowKit
namespace Dy
open Dp
/-- Blocks that were there are as they were. -/
def Keeps (W w : World) : Prop := ∀ p, p < W.heap.size → w.heap[p]? = W.heap[p]?
theorem Keeps.refl (W : World) : Keeps W W := fun _ _ => rfl
theorem Keeps.on {W w w' : World} (h : Keeps W w) (hs : W.heap.size ≤ w.heap.size) (hb : Below w.heap.size w w') : Keeps W w' := fun p hp => (hb.block p (Nat.lt_of_lt_of_le hp hs)).trans (h p hp)
theorem Amid.drew {w0 w : World} (h : Amid w0 w) : Amid w0 w.drew := ⟨h.below.drew, h.tab.keep rfl⟩
theorem same_true {s s' : Bool} {xs ys : List Int} {e e' : Int} (h1 : s = s') (h2 : xs = ys) (h3 : e = e') : Pa.Dy.same ⟨s, xs, e⟩ ⟨s', ys, e'⟩ = true := by
  subst h1 h2 h3
  exact Pa.Dy.same_refl _
set_option maxHeartbeats 6400000 in
set_option maxRecDepth 100000 in
/-- headcountlaw02.alive: the chapter's examples hold. -/
theorem alive_any (w : World) (hT : Tab w) : Calls Tryd.prog 34 #[] w fun e w' => e = .returned (.bool true) ∧ Below w.heap.size w w' := by
  have a0 : Amid w w := ⟨Below.refl _ _, hT⟩
  have AL1 := Lib.hid al1
  have AL2 := Lib.hid al2
  have AL3 := Lib.hid al3
  have AL4 := Lib.hid al4
  go_enter Tryd.func34, Tryd.ntmps34
  go_wp2_with fail
  refine (Of_any w 3 (by decide) (by decide) false 3 rfl rfl).mono ?_
  rintro e w1 ⟨A1, n1, rfl, hB1, hI1⟩
  have a1 := a0.on hB1
  have i1 := ints_all hI1
  clear hB1 hI1
  go_wp2_with fail
  refine (Half_ok w1 ⟨false, 3, 0⟩ (may_small _ _ _ (by decide) (by decide) (by decide) (by decide)) A1 n1 n1 i1 a1.tab ⟨false, 3, 1⟩ 0 AL1.out).mono ?_
  rintro e w2 ⟨A2, n2, c2, rfl, hc2, hB2, hI2⟩
  have a2 := a1.on hB2
  have i2 := ints_all hI2
  clear hB2 hI2
  go_wp2_with fail
  have b3 : Box (w2.alloc (.cells #[.bool false, .slice A2 n2 c2, .int .i64 1] 24)) w2.heap.size ⟨false, 3, 1⟩ := Box.new ⟨false, 3, 1⟩ _ _ _ i2 _ _ rfl rfl
  have a3 := a2.alloc (.cells #[.bool false, .slice A2 n2 c2, .int .i64 1] 24)
  generalize hw3 : (w2.alloc (.cells #[.bool false, .slice A2 n2 c2, .int .i64 1] 24)) = w3 at *
  clear hw3
  refine (Of_any w3 2 (by decide) (by decide) false 2 rfl rfl).mono ?_
  rintro e w4 ⟨A4, n4, rfl, hB4, hI4⟩
  have a4 := a3.on hB4
  have i4 := ints_all hI4
  replace b3 := b3.below hB4
  clear hB4 hI4
  go_wp2_with fail
  refine (Half_ok w4 ⟨false, 2, 0⟩ (may_small _ _ _ (by decide) (by decide) (by decide) (by decide)) A4 n4 n4 i4 a4.tab ⟨false, 1, 0⟩ 0 AL2.out).mono ?_
  rintro e w5 ⟨A5, n5, c5, rfl, hc5, hB5, hI5⟩
  have a5 := a4.on hB5
  have i5 := ints_all hI5
  replace b3 := b3.below hB5
  clear hB5 hI5
  go_wp2_with fail
  have b6 : Box (w5.alloc (.cells #[.bool false, .slice A5 n5 c5, .int .i64 0] 24)) w5.heap.size ⟨false, 1, 0⟩ := Box.new ⟨false, 1, 0⟩ _ _ _ i5 _ _ rfl rfl
  replace b3 := b3.below ((Below.refl _ _).alloc (Nat.le_refl _) (.cells #[.bool false, .slice A5 n5 c5, .int .i64 0] 24))
  have a6 := a5.alloc (.cells #[.bool false, .slice A5 n5 c5, .int .i64 0] 24)
  generalize hw6 : (w5.alloc (.cells #[.bool false, .slice A5 n5 c5, .int .i64 0] 24)) = w6 at *
  clear hw6
  refine (part_any w6 false 1 (by decide) 1).mono ?_
  rintro e w7 ⟨A7, rfl, hB7, hI7⟩
  have a7 := a6.on hB7
  have i7 := ints_all hI7
  have i7 : Ints w7 0 w7.heap.size .u32 A7 1 (canon 4294967296 1) := by rw [canon_one 1 (by decide) (by decide)]; exact ints_all hI7
  replace b3 := b3.below hB7
  replace b6 := b6.below hB7
  clear hB7 hI7
  go_wp2_with fail
  refine (part_any w7 false 1 (by decide) 1).mono ?_
  rintro e w8 ⟨A8, rfl, hB8, hI8⟩
  have a8 := a7.on hB8
  have i8 := ints_all hI8
  have i8 : Ints w8 0 w8.heap.size .u32 A8 1 (canon 4294967296 1) := by rw [canon_one 1 (by decide) (by decide)]; exact ints_all hI8
  replace b3 := b3.below hB8
  replace b6 := b6.below hB8
  replace i7 := ints_on i7 hB8
  clear hB8 hI8
  go_wp2_with fail
  refine (Add_ok w8 ⟨false, 1, 1⟩ ⟨false, 1, 1⟩ (may_small _ _ _ (by decide) (by decide) (by decide) (by decide)) (may_small _ _ _ (by decide) (by decide) (by decide) (by decide)) A7 1 1 i7 A8 1 1 i8 a8.tab ⟨false, 1, 0⟩ 0 AL3.out).mono ?_
  rintro e w9 ⟨A9, n9, c9, rfl, hc9, hB9, hI9⟩
  have a9 := a8.on hB9
  have i9 := ints_all hI9
  replace b3 := b3.below hB9
  replace b6 := b6.below hB9
  clear hB9 hI9
  go_wp2_with fail
  have b10 : Box (w9.alloc (.cells #[.bool false, .slice A9 n9 c9, .int .i64 0] 24)) w9.heap.size ⟨false, 1, 0⟩ := Box.new ⟨false, 1, 0⟩ _ _ _ i9 _ _ rfl rfl
  replace b3 := b3.below ((Below.refl _ _).alloc (Nat.le_refl _) (.cells #[.bool false, .slice A9 n9 c9, .int .i64 0] 24))
  replace b6 := b6.below ((Below.refl _ _).alloc (Nat.le_refl _) (.cells #[.bool false, .slice A9 n9 c9, .int .i64 0] 24))
  have a10 := a9.alloc (.cells #[.bool false, .slice A9 n9 c9, .int .i64 0] 24)
  generalize hw10 : (w9.alloc (.cells #[.bool false, .slice A9 n9 c9, .int .i64 0] 24)) = w10 at *
  clear hw10
  refine (part_any w10 false 1 (by decide) 1).mono ?_
  rintro e w11 ⟨A11, rfl, hB11, hI11⟩
  have a11 := a10.on hB11
  have i11 := ints_all hI11
  have i11 : Ints w11 0 w11.heap.size .u32 A11 1 (canon 4294967296 1) := by rw [canon_one 1 (by decide) (by decide)]; exact ints_all hI11
  replace b3 := b3.below hB11
  replace b6 := b6.below hB11
  replace b10 := b10.below hB11
  clear hB11 hI11
  go_wp2_with fail
  refine (part_any w11 false 3 (by decide) 2).mono ?_
  rintro e w12 ⟨A12, rfl, hB12, hI12⟩
  have a12 := a11.on hB12
  have i12 := ints_all hI12
  have i12 : Ints w12 0 w12.heap.size .u32 A12 1 (canon 4294967296 3) := by rw [canon_one 3 (by decide) (by decide)]; exact ints_all hI12
  replace b3 := b3.below hB12
  replace b6 := b6.below hB12
  replace b10 := b10.below hB12
  replace i11 := ints_on i11 hB12
  clear hB12 hI12
  go_wp2_with fail
  refine (Sub_ok w12 ⟨false, 1, 1⟩ ⟨false, 3, 2⟩ (may_small _ _ _ (by decide) (by decide) (by decide) (by decide)) (may_small _ _ _ (by decide) (by decide) (by decide) (by decide)) A11 1 1 i11 A12 1 1 i12 a12.tab ⟨true, 1, 2⟩ 0 AL4.out).mono ?_
  rintro e w13 ⟨A13, n13, c13, rfl, hc13, hB13, hI13⟩
  have a13 := a12.on hB13
  have i13 := ints_all hI13
  replace b3 := b3.below hB13
  replace b6 := b6.below hB13
  replace b10 := b10.below hB13
  clear hB13 hI13
  go_wp2_with fail
  have b14 : Box (w13.alloc (.cells #[.bool true, .slice A13 n13 c13, .int .i64 2] 24)) w13.heap.size ⟨true, 1, 2⟩ := Box.new ⟨true, 1, 2⟩ _ _ _ i13 _ _ rfl rfl
  replace b3 := b3.below ((Below.refl _ _).alloc (Nat.le_refl _) (.cells #[.bool true, .slice A13 n13 c13, .int .i64 2] 24))
  replace b6 := b6.below ((Below.refl _ _).alloc (Nat.le_refl _) (.cells #[.bool true, .slice A13 n13 c13, .int .i64 2] 24))
  replace b10 := b10.below ((Below.refl _ _).alloc (Nat.le_refl _) (.cells #[.bool true, .slice A13 n13 c13, .int .i64 2] 24))
  have a14 := a13.alloc (.cells #[.bool true, .slice A13 n13 c13, .int .i64 2] 24)
  generalize hw14 : (w13.alloc (.cells #[.bool true, .slice A13 n13 c13, .int .i64 2] 24)) = w14 at *
  clear hw14
  obtain ⟨X0, x0, y0, hb0', hi0⟩ := b3.some_
  have hb0 : w14.heap[w2.heap.size]? = some (.cells #[.bool false, .slice X0 x0 y0, .int .i64 1] 24 (0, 0)) := hb0'
  have hp0 : w2.heap.size < w14.heap.size := (Array.getElem?_eq_some_iff.1 hb0).1
  clear hb0'
  obtain ⟨X1, x1, y1, hb1', hi1⟩ := b6.some_
  have hb1 : w14.heap[w5.heap.size]? = some (.cells #[.bool false, .slice X1 x1 y1, .int .i64 0] 24 (0, 0)) := hb1'
  have hp1 : w5.heap.size < w14.heap.size := (Array.getElem?_eq_some_iff.1 hb1).1
  clear hb1'
  obtain ⟨X2, x2, y2, hb2', hi2⟩ := b10.some_
  have hb2 : w14.heap[w9.heap.size]? = some (.cells #[.bool false, .slice X2 x2 y2, .int .i64 0] 24 (0, 0)) := hb2'
  have hp2 : w9.heap.size < w14.heap.size := (Array.getElem?_eq_some_iff.1 hb2).1
  clear hb2'
  obtain ⟨X3, x3, y3, hb3', hi3⟩ := b14.some_
  have hb3 : w14.heap[w13.heap.size]? = some (.cells #[.bool true, .slice X3 x3 y3, .int .i64 2] 24 (0, 0)) := hb3'
  have hp3 : w13.heap.size < w14.heap.size := (Array.getElem?_eq_some_iff.1 hb3).1
  clear hb3'
  have hi0 : Ints w14 0 w14.heap.size .u32 X0 x0 (canon 4294967296 3) := hi0
  have hi1 : Ints w14 0 w14.heap.size .u32 X1 x1 (canon 4294967296 1) := hi1
  have hi2 : Ints w14 0 w14.heap.size .u32 X2 x2 (canon 4294967296 1) := hi2
  have hi3 : Ints w14 0 w14.heap.size .u32 X3 x3 (canon 4294967296 1) := hi3
  have k14 : Keeps w14 w14.drew := fun _ _ => rfl
  have s14 : w14.heap.size ≤ w14.drew.heap.size := Nat.le_refl _
  have a15 := a14.drew
  clear b3 b6 b10 b14 a14
  have j0 : Ints w14.drew 0 w14.drew.heap.size .u32 X0 x0 (canon 4294967296 3) := hi0.drewN 1
  clear hi0
  have j1 : Ints w14.drew 0 w14.drew.heap.size .u32 X1 x1 (canon 4294967296 1) := hi1.drewN 1
  clear hi1
  have j2 : Ints w14.drew 0 w14.drew.heap.size .u32 X2 x2 (canon 4294967296 1) := hi2.drewN 1
  clear hi2
  have j3 : Ints w14.drew 0 w14.drew.heap.size .u32 X3 x3 (canon 4294967296 1) := hi3.drewN 1
  clear hi3
  refine region_E (Keeps w14) [] (m := 40) (L := #[false, false, false, false, false, false, false, false, false, false, false, false, false, false, false, false, false, false, false, false, false, false, false, false, false, false, false, false, false, false, false, false, false, false, false, false, false, false, false, false]) (by kernel_rfl) (by rfl) (by rfl) ?_
  refine stepK (i := 0) (L := #[true, false, false, false, false, false, false, false, false, false, false, false, false, false, false, false, false, false, false, false, false, false, false, false, false, false, false, false, false, false, false, false, false, false, false, false, false, false, false, false]) rfl (by rfl) (by kernel_rfl) (by rfl) (fun K hK => ?_)
  go_simp
  go_at_call 38
  refine (Of_any w14.drew 12 (by decide) (by decide) false 12 rfl rfl).mono ?_
  rintro e v15 ⟨Ao, no_, rfl, hB, hI⟩
  have a15' := a15.on hB
  have k15' := k14.on s14 hB
  have s15' := Nat.le_trans s14 hB.size
  replace j0 := ints_on j0 hB
  replace j1 := ints_on j1 hB
  replace j2 := ints_on j2 hB
  replace j3 := ints_on j3 hB
  have jo := ints_all hI
  clear hB hI
  refine hK _ _ ⟨fun _ _ => k15', ?_⟩
  clear hK K
  try simp only [Act.put, List.setIfInBounds_toArray, List.set_cons_zero, List.set_cons_succ]
  refine stepK (i := 1) (L := #[true, true, false, false, false, false, false, false, false, false, false, false, false, false, false, false, false, false, false, false, false, false, false, false, false, false, false, false, false, false, false, false, false, false, false, false, false, false, false, false]) rfl (by rfl) (by kernel_rfl) (by rfl) (fun K hK => ?_)
  go_simp
  go_at_call 37
  refine (part_any v15 false 12 (by decide) 0).mono ?_
  rintro e v16 ⟨Aq, rfl, hB, hI⟩
  have a16' := a15'.on hB
  have k16' := k15'.on s15' hB
  have s16' := Nat.le_trans s15' hB.size
  replace j0 := ints_on j0 hB
  replace j1 := ints_on j1 hB
  replace j2 := ints_on j2 hB
  replace j3 := ints_on j3 hB
  replace jo := ints_on jo hB
  have jq : Ints v16 0 v16.heap.size .u32 Aq 1 (canon 4294967296 12) := by rw [canon_one 12 (by decide) (by decide)]; exact ints_all hI
  clear hB hI
  refine hK _ _ ⟨fun _ _ => k16', ?_⟩
  clear hK K
  try simp only [Act.put, List.setIfInBounds_toArray, List.set_cons_zero, List.set_cons_succ]
  refine stepK (i := 2) (L := #[true, true, true, false, false, false, false, false, false, false, false, false, false, false, false, false, false, false, false, false, false, false, false, false, false, false, false, false, false, false, false, false, false, false, false, false, false, false, false, false]) rfl (by rfl) (by kernel_rfl) (by rfl) (fun K hK => ?_)
  go_simp
  go_at_call 36
  refine (Pa.dyadSame_any v16 false false _ _ _ _ _ _ _ _ 0 0 jo jq true (same_true rfl rfl rfl)).mono ?_
  rintro e v17 ⟨rfl, hB⟩
  have a17' := a16'.on hB
  have k17' := k16'.on s16' hB
  have s17' := Nat.le_trans s16' hB.size
  replace j0 := ints_on j0 hB
  replace j1 := ints_on j1 hB
  replace j2 := ints_on j2 hB
  replace j3 := ints_on j3 hB
  replace jo := ints_on jo hB
  replace jq := ints_on jq hB
  clear hB
  refine hK _ _ ⟨fun _ _ => k17', ?_⟩
  clear hK K
  try simp only [Act.put, List.setIfInBounds_toArray, List.set_cons_zero, List.set_cons_succ]
  refine pureE (i := 3) (L := #[true, true, true, true, false, false, false, false, false, false, false, false, false, false, false, false, false, false, false, false, false, false, false, false, false, false, false, false, false, false, false, false, false, false, false, false, false, false, false, false]) (v := ?_) rfl (by rfl) (by kernel_rfl) (by kernel_rfl) (by kernel_rfl) (fun _ _ _ h => h) (by rfl) ?hy4 ?rest4
  case hy4 => intro w; go_simp; (try with_reducible rfl)
  try simp only [Act.put, List.setIfInBounds_toArray, List.set_cons_zero, List.set_cons_succ]
  refine pureE (i := 4) (L := #[true, true, true, true, true, false, false, false, false, false, false, false, false, false, false, false, false, false, false, false, false, false, false, false, false, false, false, false, false, false, false, false, false, false, false, false, false, false, false, false]) (v := ?_) rfl (by rfl) (by kernel_rfl) (by kernel_rfl) (by kernel_rfl) (fun _ _ _ h => h) (by rfl) ?hy5 ?rest5
  case hy5 => intro w; go_simp; (try with_reducible rfl)
  try simp only [Act.put, List.setIfInBounds_toArray, List.set_cons_zero, List.set_cons_succ]
  refine pureE (i := 5) (L := #[true, true, true, true, true, true, false, false, false, false, false, false, false, false, false, false, false, false, false, false, false, false, false, false, false, false, false, false, false, false, false, false, false, false, false, false, false, false, false, false]) (v := ?_) rfl (by rfl) (by kernel_rfl) (by kernel_rfl) (by kernel_rfl) (fun _ _ _ h => h) (by rfl) ?hy6 ?rest6
  case hy6 => intro w; go_simp; (try with_reducible rfl)
  try simp only [Act.put, List.setIfInBounds_toArray, List.set_cons_zero, List.set_cons_succ]
  refine pureE (i := 6) (L := #[true, true, true, true, true, true, true, false, false, false, false, false, false, false, false, false, false, false, false, false, false, false, false, false, false, false, false, false, false, false, false, false, false, false, false, false, false, false, false, false]) (v := ?_) rfl (by rfl) (by kernel_rfl) (by kernel_rfl) (by kernel_rfl) (fun _ _ _ h => h) (by rfl) ?hy7 ?rest7
  case hy7 => intro w; go_simp; (try with_reducible rfl)
  try simp only [Act.put, List.setIfInBounds_toArray, List.set_cons_zero, List.set_cons_succ]
  refine pureE (i := 7) (L := #[true, true, true, true, true, true, true, true, false, false, false, false, false, false, false, false, false, false, false, false, false, false, false, false, false, false, false, false, false, false, false, false, false, false, false, false, false, false, false, false]) (v := ?_) rfl (by rfl) (by kernel_rfl) (by kernel_rfl) (by kernel_rfl) (fun _ _ _ h => h) (by rfl) ?hy8 ?rest8
  case hy8 => intro w; go_simp; (try with_reducible rfl)
  try simp only [Act.put, List.setIfInBounds_toArray, List.set_cons_zero, List.set_cons_succ]
  refine readE (i := 8) (L := #[true, true, true, true, true, true, true, true, true, false, false, false, false, false, false, false, false, false, false, false, false, false, false, false, false, false, false, false, false, false, false, false, false, false, false, false, false, false, false, false]) (v := .agg #[.bool false, .slice X0 x0 y0, .int .i64 1]) rfl (by rfl) (by kernel_rfl) (by kernel_rfl) (by kernel_rfl) (fun _ _ _ h => h) (by assumption) (by rfl) ?hyR1 ?restR1
  case hyR1 =>
    intro w' h1
    obtain ⟨⟨k1, k2, k3⟩, _⟩ := boxD ((h1 _ hp0).trans hb0)
    go_simp
  try simp only [Act.put, List.setIfInBounds_toArray, List.set_cons_zero, List.set_cons_succ]
  refine stepK (i := 9) (L := #[true, true, true, true, true, true, true, true, true, true, false, false, false, false, false, false, false, false, false, false, false, false, false, false, false, false, false, false, false, false, false, false, false, false, false, false, false, false, false, false]) rfl (by rfl) (by kernel_rfl) (by rfl) (fun K hK => ?_)
  go_simp
  go_at_call 37
  refine (part_any v17 false 3 (by decide) 1).mono ?_
  rintro e v18 ⟨Ar, rfl, hB, hI⟩
  have a18' := a17'.on hB
  have k18' := k17'.on s17' hB
  have s18' := Nat.le_trans s17' hB.size
  replace j0 := ints_on j0 hB
  replace j1 := ints_on j1 hB
  replace j2 := ints_on j2 hB
  replace j3 := ints_on j3 hB
  have jr : Ints v18 0 v18.heap.size .u32 Ar 1 (canon 4294967296 3) := by rw [canon_one 3 (by decide) (by decide)]; exact ints_all hI
  clear hB hI
  refine hK _ _ ⟨fun _ _ => k18', ?_⟩
  clear hK K
  try simp only [Act.put, List.setIfInBounds_toArray, List.set_cons_zero, List.set_cons_succ]
  refine stepK (i := 10) (L := #[true, true, true, true, true, true, true, true, true, true, true, false, false, false, false, false, false, false, false, false, false, false, false, false, false, false, false, false, false, false, false, false, false, false, false, false, false, false, false, false]) rfl (by rfl) (by kernel_rfl) (by rfl) (fun K hK => ?_)
  go_simp
  go_at_call 36
  refine (Pa.dyadSame_any v18 false false _ _ _ _ _ _ _ _ 1 1 j0 jr true (same_true rfl rfl rfl)).mono ?_
  rintro e v19 ⟨rfl, hB⟩
  have a19' := a18'.on hB
  have k19' := k18'.on s18' hB
  have s19' := Nat.le_trans s18' hB.size
  replace j0 := ints_on j0 hB
  replace j1 := ints_on j1 hB
  replace j2 := ints_on j2 hB
  replace j3 := ints_on j3 hB
  replace jr := ints_on jr hB
  clear hB
  refine hK _ _ ⟨fun _ _ => k19', ?_⟩
  clear hK K
  try simp only [Act.put, List.setIfInBounds_toArray, List.set_cons_zero, List.set_cons_succ]
  refine pureE (i := 11) (L := #[true, true, true, true, true, true, true, true, true, true, true, true, false, false, false, false, false, false, false, false, false, false, false, false, false, false, false, false, false, false, false, false, false, false, false, false, false, false, false, false]) (v := ?_) rfl (by rfl) (by kernel_rfl) (by kernel_rfl) (by kernel_rfl) (fun _ _ _ h => h) (by rfl) ?hy12 ?rest12
  case hy12 => intro w; go_simp; (try with_reducible rfl)
  try simp only [Act.put, List.setIfInBounds_toArray, List.set_cons_zero, List.set_cons_succ]
  refine pureE (i := 12) (L := #[true, true, true, true, true, true, true, true, true, true, true, true, true, false, false, false, false, false, false, false, false, false, false, false, false, false, false, false, false, false, false, false, false, false, false, false, false, false, false, false]) (v := ?_) rfl (by rfl) (by kernel_rfl) (by kernel_rfl) (by kernel_rfl) (fun _ _ _ h => h) (by rfl) ?hy13 ?rest13
  case hy13 => intro w; go_simp; (try with_reducible rfl)
  try simp only [Act.put, List.setIfInBounds_toArray, List.set_cons_zero, List.set_cons_succ]
  refine pureE (i := 13) (L := #[true, true, true, true, true, true, true, true, true, true, true, true, true, true, false, false, false, false, false, false, false, false, false, false, false, false, false, false, false, false, false, false, false, false, false, false, false, false, false, false]) (v := ?_) rfl (by rfl) (by kernel_rfl) (by kernel_rfl) (by kernel_rfl) (fun _ _ _ h => h) (by rfl) ?hy14 ?rest14
  case hy14 => intro w; go_simp; (try with_reducible rfl)
  try simp only [Act.put, List.setIfInBounds_toArray, List.set_cons_zero, List.set_cons_succ]
  refine pureE (i := 14) (L := #[true, true, true, true, true, true, true, true, true, true, true, true, true, true, true, false, false, false, false, false, false, false, false, false, false, false, false, false, false, false, false, false, false, false, false, false, false, false, false, false]) (v := ?_) rfl (by rfl) (by kernel_rfl) (by kernel_rfl) (by kernel_rfl) (fun _ _ _ h => h) (by rfl) ?hy15 ?rest15
  case hy15 => intro w; go_simp; (try with_reducible rfl)
  try simp only [Act.put, List.setIfInBounds_toArray, List.set_cons_zero, List.set_cons_succ]
  refine pureE (i := 15) (L := #[true, true, true, true, true, true, true, true, true, true, true, true, true, true, true, true, false, false, false, false, false, false, false, false, false, false, false, false, false, false, false, false, false, false, false, false, false, false, false, false]) (v := ?_) rfl (by rfl) (by kernel_rfl) (by kernel_rfl) (by kernel_rfl) (fun _ _ _ h => h) (by rfl) ?hy16 ?rest16
  case hy16 => intro w; go_simp; (try with_reducible rfl)
  try simp only [Act.put, List.setIfInBounds_toArray, List.set_cons_zero, List.set_cons_succ]
  refine pureE (i := 16) (L := #[true, true, true, true, true, true, true, true, true, true, true, true, true, true, true, true, true, false, false, false, false, false, false, false, false, false, false, false, false, false, false, false, false, false, false, false, false, false, false, false]) (v := ?_) rfl (by rfl) (by kernel_rfl) (by kernel_rfl) (by kernel_rfl) (fun _ _ _ h => h) (by rfl) ?hy17 ?rest17
  case hy17 => intro w; go_simp; (try with_reducible rfl)
  try simp only [Act.put, List.setIfInBounds_toArray, List.set_cons_zero, List.set_cons_succ]
  refine readE (i := 17) (L := #[true, true, true, true, true, true, true, true, true, true, true, true, true, true, true, true, true, true, false, false, false, false, false, false, false, false, false, false, false, false, false, false, false, false, false, false, false, false, false, false]) (v := .agg #[.bool false, .slice X1 x1 y1, .int .i64 0]) rfl (by rfl) (by kernel_rfl) (by kernel_rfl) (by kernel_rfl) (fun _ _ _ h => h) (by assumption) (by rfl) ?hyR2 ?restR2
  case hyR2 =>
    intro w' h1
    obtain ⟨⟨k1, k2, k3⟩, _⟩ := boxD ((h1 _ hp1).trans hb1)
    go_simp
  try simp only [Act.put, List.setIfInBounds_toArray, List.set_cons_zero, List.set_cons_succ]
  refine stepK (i := 18) (L := #[true, true, true, true, true, true, true, true, true, true, true, true, true, true, true, true, true, true, true, false, false, false, false, false, false, false, false, false, false, false, false, false, false, false, false, false, false, false, false, false]) rfl (by rfl) (by kernel_rfl) (by rfl) (fun K hK => ?_)
  go_simp
  go_at_call 37
  refine (part_any v19 false 1 (by decide) 0).mono ?_
  rintro e v20 ⟨At, rfl, hB, hI⟩
  have a20' := a19'.on hB
  have k20' := k19'.on s19' hB
  have s20' := Nat.le_trans s19' hB.size
  replace j1 := ints_on j1 hB
  replace j2 := ints_on j2 hB
  replace j3 := ints_on j3 hB
  have jt : Ints v20 0 v20.heap.size .u32 At 1 (canon 4294967296 1) := by rw [canon_one 1 (by decide) (by decide)]; exact ints_all hI
  clear hB hI
  refine hK _ _ ⟨fun _ _ => k20', ?_⟩
  clear hK K
  try simp only [Act.put, List.setIfInBounds_toArray, List.set_cons_zero, List.set_cons_succ]
  refine stepK (i := 19) (L := #[true, true, true, true, true, true, true, true, true, true, true, true, true, true, true, true, true, true, true, true, false, false, false, false, false, false, false, false, false, false, false, false, false, false, false, false, false, false, false, false]) rfl (by rfl) (by kernel_rfl) (by rfl) (fun K hK => ?_)
  go_simp
  go_at_call 36
  refine (Pa.dyadSame_any v20 false false _ _ _ _ _ _ _ _ 0 0 j1 jt true (same_true rfl rfl rfl)).mono ?_
  rintro e v21 ⟨rfl, hB⟩
  have a21' := a20'.on hB
  have k21' := k20'.on s20' hB
  have s21' := Nat.le_trans s20' hB.size
  replace j1 := ints_on j1 hB
  replace j2 := ints_on j2 hB
  replace j3 := ints_on j3 hB
  replace jt := ints_on jt hB
  clear hB
  refine hK _ _ ⟨fun _ _ => k21', ?_⟩
  clear hK K
  try simp only [Act.put, List.setIfInBounds_toArray, List.set_cons_zero, List.set_cons_succ]
  refine pureE (i := 20) (L := #[true, true, true, true, true, true, true, true, true, true, true, true, true, true, true, true, true, true, true, true, true, false, false, false, false, false, false, false, false, false, false, false, false, false, false, false, false, false, false, false]) (v := ?_) rfl (by rfl) (by kernel_rfl) (by kernel_rfl) (by kernel_rfl) (fun _ _ _ h => h) (by rfl) ?hy21 ?rest21
  case hy21 => intro w; go_simp; (try with_reducible rfl)
  try simp only [Act.put, List.setIfInBounds_toArray, List.set_cons_zero, List.set_cons_succ]
  refine pureE (i := 21) (L := #[true, true, true, true, true, true, true, true, true, true, true, true, true, true, true, true, true, true, true, true, true, true, false, false, false, false, false, false, false, false, false, false, false, false, false, false, false, false, false, false]) (v := ?_) rfl (by rfl) (by kernel_rfl) (by kernel_rfl) (by kernel_rfl) (fun _ _ _ h => h) (by rfl) ?hy22 ?rest22
  case hy22 => intro w; go_simp; (try with_reducible rfl)
  try simp only [Act.put, List.setIfInBounds_toArray, List.set_cons_zero, List.set_cons_succ]
  refine pureE (i := 22) (L := #[true, true, true, true, true, true, true, true, true, true, true, true, true, true, true, true, true, true, true, true, true, true, true, false, false, false, false, false, false, false, false, false, false, false, false, false, false, false, false, false]) (v := ?_) rfl (by rfl) (by kernel_rfl) (by kernel_rfl) (by kernel_rfl) (fun _ _ _ h => h) (by rfl) ?hy23 ?rest23
  case hy23 => intro w; go_simp; (try with_reducible rfl)
  try simp only [Act.put, List.setIfInBounds_toArray, List.set_cons_zero, List.set_cons_succ]
  refine pureE (i := 23) (L := #[true, true, true, true, true, true, true, true, true, true, true, true, true, true, true, true, true, true, true, true, true, true, true, true, false, false, false, false, false, false, false, false, false, false, false, false, false, false, false, false]) (v := ?_) rfl (by rfl) (by kernel_rfl) (by kernel_rfl) (by kernel_rfl) (fun _ _ _ h => h) (by rfl) ?hy24 ?rest24
  case hy24 => intro w; go_simp; (try with_reducible rfl)
  try simp only [Act.put, List.setIfInBounds_toArray, List.set_cons_zero, List.set_cons_succ]
  refine pureE (i := 24) (L := #[true, true, true, true, true, true, true, true, true, true, true, true, true, true, true, true, true, true, true, true, true, true, true, true, true, false, false, false, false, false, false, false, false, false, false, false, false, false, false, false]) (v := ?_) rfl (by rfl) (by kernel_rfl) (by kernel_rfl) (by kernel_rfl) (fun _ _ _ h => h) (by rfl) ?hy25 ?rest25
  case hy25 => intro w; go_simp; (try with_reducible rfl)
  try simp only [Act.put, List.setIfInBounds_toArray, List.set_cons_zero, List.set_cons_succ]
  refine pureE (i := 25) (L := #[true, true, true, true, true, true, true, true, true, true, true, true, true, true, true, true, true, true, true, true, true, true, true, true, true, true, false, false, false, false, false, false, false, false, false, false, false, false, false, false]) (v := ?_) rfl (by rfl) (by kernel_rfl) (by kernel_rfl) (by kernel_rfl) (fun _ _ _ h => h) (by rfl) ?hy26 ?rest26
  case hy26 => intro w; go_simp; (try with_reducible rfl)
  try simp only [Act.put, List.setIfInBounds_toArray, List.set_cons_zero, List.set_cons_succ]
  refine readE (i := 26) (L := #[true, true, true, true, true, true, true, true, true, true, true, true, true, true, true, true, true, true, true, true, true, true, true, true, true, true, true, false, false, false, false, false, false, false, false, false, false, false, false, false]) (v := .agg #[.bool false, .slice X2 x2 y2, .int .i64 0]) rfl (by rfl) (by kernel_rfl) (by kernel_rfl) (by kernel_rfl) (fun _ _ _ h => h) (by assumption) (by rfl) ?hyR3 ?restR3
  case hyR3 =>
    intro w' h1
    obtain ⟨⟨k1, k2, k3⟩, _⟩ := boxD ((h1 _ hp2).trans hb2)
    go_simp
  try simp only [Act.put, List.setIfInBounds_toArray, List.set_cons_zero, List.set_cons_succ]
  refine stepK (i := 27) (L := #[true, true, true, true, true, true, true, true, true, true, true, true, true, true, true, true, true, true, true, true, true, true, true, true, true, true, true, true, false, false, false, false, false, false, false, false, false, false, false, false]) rfl (by rfl) (by kernel_rfl) (by rfl) (fun K hK => ?_)
  go_simp
  go_at_call 37
  refine (part_any v21 false 1 (by decide) 0).mono ?_
  rintro e v22 ⟨Au, rfl, hB, hI⟩
  have a22' := a21'.on hB
  have k22' := k21'.on s21' hB
  have s22' := Nat.le_trans s21' hB.size
  replace j2 := ints_on j2 hB
  replace j3 := ints_on j3 hB
  have ju : Ints v22 0 v22.heap.size .u32 Au 1 (canon 4294967296 1) := by rw [canon_one 1 (by decide) (by decide)]; exact ints_all hI
  clear hB hI
  refine hK _ _ ⟨fun _ _ => k22', ?_⟩
  clear hK K
  try simp only [Act.put, List.setIfInBounds_toArray, List.set_cons_zero, List.set_cons_succ]
  refine stepK (i := 28) (L := #[true, true, true, true, true, true, true, true, true, true, true, true, true, true, true, true, true, true, true, true, true, true, true, true, true, true, true, true, true, false, false, false, false, false, false, false, false, false, false, false]) rfl (by rfl) (by kernel_rfl) (by rfl) (fun K hK => ?_)
  go_simp
  go_at_call 36
  refine (Pa.dyadSame_any v22 false false _ _ _ _ _ _ _ _ 0 0 j2 ju true (same_true rfl rfl rfl)).mono ?_
  rintro e v23 ⟨rfl, hB⟩
  have a23' := a22'.on hB
  have k23' := k22'.on s22' hB
  have s23' := Nat.le_trans s22' hB.size
  replace j2 := ints_on j2 hB
  replace j3 := ints_on j3 hB
  replace ju := ints_on ju hB
  clear hB
  refine hK _ _ ⟨fun _ _ => k23', ?_⟩
  clear hK K
  try simp only [Act.put, List.setIfInBounds_toArray, List.set_cons_zero, List.set_cons_succ]
  refine pureE (i := 29) (L := #[true, true, true, true, true, true, true, true, true, true, true, true, true, true, true, true, true, true, true, true, true, true, true, true, true, true, true, true, true, true, false, false, false, false, false, false, false, false, false, false]) (v := ?_) rfl (by rfl) (by kernel_rfl) (by kernel_rfl) (by kernel_rfl) (fun _ _ _ h => h) (by rfl) ?hy30 ?rest30
  case hy30 => intro w; go_simp; (try with_reducible rfl)
  try simp only [Act.put, List.setIfInBounds_toArray, List.set_cons_zero, List.set_cons_succ]
  refine pureE (i := 30) (L := #[true, true, true, true, true, true, true, true, true, true, true, true, true, true, true, true, true, true, true, true, true, true, true, true, true, true, true, true, true, true, true, false, false, false, false, false, false, false, false, false]) (v := ?_) rfl (by rfl) (by kernel_rfl) (by kernel_rfl) (by kernel_rfl) (fun _ _ _ h => h) (by rfl) ?hy31 ?rest31
  case hy31 => intro w; go_simp; (try with_reducible rfl)
  try simp only [Act.put, List.setIfInBounds_toArray, List.set_cons_zero, List.set_cons_succ]
  refine pureE (i := 31) (L := #[true, true, true, true, true, true, true, true, true, true, true, true, true, true, true, true, true, true, true, true, true, true, true, true, true, true, true, true, true, true, true, true, false, false, false, false, false, false, false, false]) (v := ?_) rfl (by rfl) (by kernel_rfl) (by kernel_rfl) (by kernel_rfl) (fun _ _ _ h => h) (by rfl) ?hy32 ?rest32
  case hy32 => intro w; go_simp; (try with_reducible rfl)
  try simp only [Act.put, List.setIfInBounds_toArray, List.set_cons_zero, List.set_cons_succ]
  refine pureE (i := 32) (L := #[true, true, true, true, true, true, true, true, true, true, true, true, true, true, true, true, true, true, true, true, true, true, true, true, true, true, true, true, true, true, true, true, true, false, false, false, false, false, false, false]) (v := ?_) rfl (by rfl) (by kernel_rfl) (by kernel_rfl) (by kernel_rfl) (fun _ _ _ h => h) (by rfl) ?hy33 ?rest33
  case hy33 => intro w; go_simp; (try with_reducible rfl)
  try simp only [Act.put, List.setIfInBounds_toArray, List.set_cons_zero, List.set_cons_succ]
  refine pureE (i := 33) (L := #[true, true, true, true, true, true, true, true, true, true, true, true, true, true, true, true, true, true, true, true, true, true, true, true, true, true, true, true, true, true, true, true, true, true, false, false, false, false, false, false]) (v := ?_) rfl (by rfl) (by kernel_rfl) (by kernel_rfl) (by kernel_rfl) (fun _ _ _ h => h) (by rfl) ?hy34 ?rest34
  case hy34 => intro w; go_simp; (try with_reducible rfl)
  try simp only [Act.put, List.setIfInBounds_toArray, List.set_cons_zero, List.set_cons_succ]
  refine pureE (i := 34) (L := #[true, true, true, true, true, true, true, true, true, true, true, true, true, true, true, true, true, true, true, true, true, true, true, true, true, true, true, true, true, true, true, true, true, true, true, false, false, false, false, false]) (v := ?_) rfl (by rfl) (by kernel_rfl) (by kernel_rfl) (by kernel_rfl) (fun _ _ _ h => h) (by rfl) ?hy35 ?rest35
  case hy35 => intro w; go_simp; (try with_reducible rfl)
  try simp only [Act.put, List.setIfInBounds_toArray, List.set_cons_zero, List.set_cons_succ]
  refine readE (i := 35) (L := #[true, true, true, true, true, true, true, true, true, true, true, true, true, true, true, true, true, true, true, true, true, true, true, true, true, true, true, true, true, true, true, true, true, true, true, true, false, false, false, false]) (v := .agg #[.bool true, .slice X3 x3 y3, .int .i64 2]) rfl (by rfl) (by kernel_rfl) (by kernel_rfl) (by kernel_rfl) (fun _ _ _ h => h) (by assumption) (by rfl) ?hyR4 ?restR4
  case hyR4 =>
    intro w' h1
    obtain ⟨⟨k1, k2, k3⟩, _⟩ := boxD ((h1 _ hp3).trans hb3)
    go_simp
  try simp only [Act.put, List.setIfInBounds_toArray, List.set_cons_zero, List.set_cons_succ]
  refine stepK (i := 36) (L := #[true, true, true, true, true, true, true, true, true, true, true, true, true, true, true, true, true, true, true, true, true, true, true, true, true, true, true, true, true, true, true, true, true, true, true, true, true, false, false, false]) rfl (by rfl) (by kernel_rfl) (by rfl) (fun K hK => ?_)
  go_simp
  go_at_call 37
  refine (part_any v23 true 1 (by decide) 2).mono ?_
  rintro e v24 ⟨Az, rfl, hB, hI⟩
  have a24' := a23'.on hB
  have k24' := k23'.on s23' hB
  have s24' := Nat.le_trans s23' hB.size
  replace j3 := ints_on j3 hB
  have jz : Ints v24 0 v24.heap.size .u32 Az 1 (canon 4294967296 1) := by rw [canon_one 1 (by decide) (by decide)]; exact ints_all hI
  clear hB hI
  refine hK _ _ ⟨fun _ _ => k24', ?_⟩
  clear hK K
  try simp only [Act.put, List.setIfInBounds_toArray, List.set_cons_zero, List.set_cons_succ]
  refine stepK (i := 37) (L := #[true, true, true, true, true, true, true, true, true, true, true, true, true, true, true, true, true, true, true, true, true, true, true, true, true, true, true, true, true, true, true, true, true, true, true, true, true, true, false, false]) rfl (by rfl) (by kernel_rfl) (by rfl) (fun K hK => ?_)
  go_simp
  go_at_call 36
  refine (Pa.dyadSame_any v24 true true _ _ _ _ _ _ _ _ 2 2 j3 jz true (same_true rfl rfl rfl)).mono ?_
  rintro e v25 ⟨rfl, hB⟩
  have a25' := a24'.on hB
  have k25' := k24'.on s24' hB
  have s25' := Nat.le_trans s24' hB.size
  replace j3 := ints_on j3 hB
  replace jz := ints_on jz hB
  clear hB
  refine hK _ _ ⟨fun _ _ => k25', ?_⟩
  clear hK K
  try simp only [Act.put, List.setIfInBounds_toArray, List.set_cons_zero, List.set_cons_succ]
  refine pureE (i := 38) (L := #[true, true, true, true, true, true, true, true, true, true, true, true, true, true, true, true, true, true, true, true, true, true, true, true, true, true, true, true, true, true, true, true, true, true, true, true, true, true, true, false]) (v := ?_) rfl (by rfl) (by kernel_rfl) (by kernel_rfl) (by kernel_rfl) (fun _ _ _ h => h) (by rfl) ?hy39 ?rest39
  case hy39 => intro w; go_simp; (try with_reducible rfl)
  try simp only [Act.put, List.setIfInBounds_toArray, List.set_cons_zero, List.set_cons_succ]
  refine pureE (i := 39) (L := #[true, true, true, true, true, true, true, true, true, true, true, true, true, true, true, true, true, true, true, true, true, true, true, true, true, true, true, true, true, true, true, true, true, true, true, true, true, true, true, true]) (v := ?_) rfl (by rfl) (by kernel_rfl) (by kernel_rfl) (by kernel_rfl) (fun _ _ _ h => h) (by rfl) ?hy40 ?rest40
  case hy40 => intro w; go_simp; (try with_reducible rfl)
  try simp only [Act.put, List.setIfInBounds_toArray, List.set_cons_zero, List.set_cons_succ]
  refine doneE (by kernel_rfl) ?_ _
  go_wp2
  go_ret
  exact ⟨rfl, a25'.below⟩
end Dy
end Go.Proofs.YtlbkepiflhchdaaDoor

namespace Go.Proofs.YtlbkepiflhchdaaDoor
open Go.RowKit
namespace Dy
open Dp
/-- What a law answers. -/
def Yes (w : World) (e : Ending) (w' : World) : Prop := e = .returned (.bool true) ∧ Below w.heap.size w w'
theorem boxOn {w w' : World} {g B : Nat} {x y z : Value} {t : TypeId} (h : w.heap[g]? = some (.cells #[x, y, z] t (0, 0))) (hb : Below B w w') (hB : g < B) : w'.heap[g]? = some (.cells #[x, y, z] t (0, 0)) := (hb.block g hB).trans h
theorem not_great {s : Bool} {xs : List Int} {e : Int} (h : Pa.Dy.great ⟨s, xs, e⟩ = false) : xs.length ≤ 42 ∧ e ≤ 1100 := by
  simp [Pa.Dy.great] at h
  omega
theorem same_res {a b : Dn} {xs ys : List Int} {e f : Int} {s t : Bool} (h : a = b) (h1 : s = a.neg) (h2 : xs = canon 4294967296 a.m) (h3 : e = a.e) (h4 : t = b.neg) (h5 : ys = canon 4294967296 b.m) (h6 : f = b.e) : Pa.Dy.same ⟨s, xs, e⟩ ⟨t, ys, f⟩ = true := by
  subst h h1 h2 h3 h4 h5 h6
  exact Pa.Dy.same_refl _
set_option maxHeartbeats 6400000 in
set_option maxRecDepth 100000 in
theorem halves_walk (w : World) (s : Bool) (A : Option Addr) (n c : Nat) (xs : List Int) (e : Int) (hX : Ints w 0 w.heap.size .u32 A n xs) (hT : Tab w) :
    Calls Tryd.prog 5 #[.agg #[.bool s, .slice A n c, .int .i64 e]] w (Yes w) := by
  have hl := Lib.hid hX.len
  generalize hw1 : w.alloc (.cells #[.bool s, .slice A n c, .int .i64 e] 24) = w1
  have a1 : Amid w w1 := by rw [← hw1]; exact Amid.alloc ⟨Below.refl _ _, hT⟩ _
  have b1 : w1.heap[w.heap.size]? = some (.cells #[.bool s, .slice A n c, .int .i64 e] 24 (0, 0)) := by rw [← hw1]; exact heap_alloc_last _ _
  have s1 : w.heap.size < w1.heap.size := by rw [← hw1]; simp
  have i1 : Ints w1 0 w1.heap.size .u32 A n xs := by rw [← hw1]; exact (hX.alloc (Nat.le_refl _) _).more (Nat.le_refl _) (by simp)
  have hg := hT.lt
  go_enter Tryd.func5, Tryd.ntmps5
  go_wp2_with fail
  refine (alive_any w1 a1.tab).mono ?_
  rintro e' w2 ⟨rfl, hB2⟩
  have a2 := a1.on hB2
  have b2 := boxOn b1 hB2 s1
  have s2 := Nat.lt_of_lt_of_le s1 hB2.size
  have i2 := ints_on i1 hB2
  clear hB2 a1 b1 s1 i1 hw1
  obtain ⟨⟨p0, p1, p2⟩, p3, p4, p5⟩ := boxD b2
  go_wp2_with fail
  obtain ⟨gr, hgr⟩ : ∃ gr, Pa.Dy.great ⟨s, xs, e⟩ = gr := ⟨_, rfl⟩
  refine (Pa.rGreat_any w2 s A n c xs e hl.out gr hgr).mono ?_
  rintro e' w3 ⟨rfl, hB3⟩
  have a3 := a2.on hB3
  have b3 := boxOn b2 hB3 s2
  have s3 := Nat.lt_of_lt_of_le s2 hB3.size
  have i3 := ints_on i2 hB3
  clear hB3 a2 b2 s2 i2 p0 p1 p2 p3 p4 p5
  obtain ⟨⟨p0, p1, p2⟩, p3, p4, p5⟩ := boxD b3
  cases gr
  · obtain ⟨hn, he⟩ := not_great hgr
    clear hgr
    rw [hl.out] at hn
    by_cases hm : MayD s xs e
    · obtain ⟨y1, y2, y3⟩ := dn_ok (dig_ints i3) hm
      obtain ⟨r, code, hr⟩ : ∃ r code, halfD (dn s xs e) = (r, code) := ⟨_, _, rfl⟩
      have HR := Lib.hid hr
      have HM := Lib.hid hm
      have HY := Lib.hid y1
      have HY2 := Lib.hid y2
      have HY3 := Lib.hid y3
      clear hr hm y1 y2 y3
      go_wp2_with fail
      refine (Half_raw w3 s A n c xs e i3 HM.out a3.tab r code HR.out).mono ?_
      rintro e' w4 ⟨A4, n4, c4, rfl, hc4, hB4, hI4⟩
      have a4 := a3.on hB4
      have b4 := boxOn b3 hB4 s3
      have s4 := Nat.lt_of_lt_of_le s3 hB4.size
      have i4 := ints_on i3 hB4
      have j4 := ints_all hI4
      clear hB4 hI4 a3 b3 s3 i3 p0 p1 p2 p3 p4 p5
      have hW := heap_alloc_last w4 (.cells #[.bool r.neg, .slice A4 n4 c4, .int .i64 r.e] 24)
      have b5 := boxOn b4 ((Below.refl _ w4).alloc (Nat.le_refl _) (.cells #[.bool r.neg, .slice A4 n4 c4, .int .i64 r.e] 24)) s4
      have a5 := a4.alloc (.cells #[.bool r.neg, .slice A4 n4 c4, .int .i64 r.e] 24)
      have i5 := ints_on i4 ((Below.refl _ w4).alloc (Nat.le_refl _) (.cells #[.bool r.neg, .slice A4 n4 c4, .int .i64 r.e] 24))
      have j5 := ints_on j4 ((Below.refl _ w4).alloc (Nat.le_refl _) (.cells #[.bool r.neg, .slice A4 n4 c4, .int .i64 r.e] 24))
      have s5 : w4.heap.size < (w4.alloc (.cells #[.bool r.neg, .slice A4 n4 c4, .int .i64 r.e] 24)).heap.size := by simp
      have s5' : w.heap.size < (w4.alloc (.cells #[.bool r.neg, .slice A4 n4 c4, .int .i64 r.e] 24)).heap.size := by simp; omega
      generalize hw5 : w4.alloc (.cells #[.bool r.neg, .slice A4 n4 c4, .int .i64 r.e] 24) = w5 at *
      clear a4 b4 i4 j4
      obtain ⟨⟨p0, p1, p2⟩, p3, p4, p5⟩ := boxD b5
      obtain ⟨⟨q0, q1, q2⟩, q3, q4, q5⟩ := boxD hW
      by_cases h0 : code = 0
      · subst h0
        have hmr : r.May := by have := half_may (dn s xs e); rw [HR.out] at this; exact this
        have hmd := dn_may hmr
        obtain ⟨t1, t2⟩ := half_twice HY.out (by rw [HR.out])
        rw [HR.out] at t1 t2
        have T1 := Lib.hid t1
        have T2 := Lib.hid t2
        have HMR := Lib.hid hmr
        have HMD := Lib.hid hmd
        clear t1 t2 hmr hmd
        go_wp2_with fail
        refine (Add_ok w5 r r HMR.out HMR.out A4 n4 c4 j5 A4 n4 c4 j5 a5.tab (dn s xs e) 0 T1.out).mono ?_
        rintro e' w6 ⟨A6, n6, c6, rfl, hc6, hB6, hI6⟩
        have a6 := a5.on hB6
        have b6 := boxOn b5 hB6 s5'
        have h6 := boxOn hW hB6 s5
        have s6' := Nat.lt_of_lt_of_le s5' hB6.size
        have s6 := Nat.lt_of_lt_of_le s5 hB6.size
        have i6 := ints_on i5 hB6
        have j6 := ints_on j5 hB6
        have k6 := ints_all hI6
        clear hB6 hI6 a5 b5 hW s5 s5' i5 j5 hw5 p0 p1 p2 p3 p4 p5 q0 q1 q2 q3 q4 q5
        have hBL := (Below.refl w6.heap.size w6).alloc (Nat.le_refl _) (.cells #[.bool (dn s xs e).neg, .slice A6 n6 c6, .int .i64 (dn s xs e).e] 24)
        have hV := heap_alloc_last w6 (.cells #[.bool (dn s xs e).neg, .slice A6 n6 c6, .int .i64 (dn s xs e).e] 24)
        have a7 := a6.on hBL
        have b7 := boxOn b6 hBL s6'
        have h7 := boxOn h6 hBL s6
        have s7' := Nat.lt_of_lt_of_le s6' hBL.size
        have s7 := Nat.lt_of_lt_of_le s6 hBL.size
        have s7v : w6.heap.size < (w6.alloc (.cells #[.bool (dn s xs e).neg, .slice A6 n6 c6, .int .i64 (dn s xs e).e] 24)).heap.size := by simp
        have i7 := ints_on i6 hBL
        have j7 := ints_on j6 hBL
        have k7 := ints_on k6 hBL
        generalize hw7 : w6.alloc (.cells #[.bool (dn s xs e).neg, .slice A6 n6 c6, .int .i64 (dn s xs e).e] 24) = w7 at *
        clear hBL a6 b6 h6 s6 s6' i6 j6 k6
        obtain ⟨⟨p0, p1, p2⟩, p3, p4, p5⟩ := boxD b7
        obtain ⟨⟨q0, q1, q2⟩, q3, q4, q5⟩ := boxD h7
        go_wp2_with fail
        refine (Sub_raw w7 s r.neg A A4 n c n4 c4 xs (canon 4294967296 r.m) e r.e i7 j7 HM.out HMD.out a7.tab r 0 (by rw [dn_of]; exact T2.out)).mono ?_
        rintro e' w8 ⟨A8, n8, c8, rfl, hc8, hB8, hI8⟩
        have a8 := a7.on hB8
        have b8 := boxOn b7 hB8 s7'
        have h8 := boxOn h7 hB8 s7
        have v8 := boxOn hV hB8 s7v
        have s8' := Nat.lt_of_lt_of_le s7' hB8.size
        have s8 := Nat.lt_of_lt_of_le s7 hB8.size
        have s8v := Nat.lt_of_lt_of_le s7v hB8.size
        have i8 := ints_on i7 hB8
        have j8 := ints_on j7 hB8
        have k8 := ints_on k7 hB8
        have l8 := ints_all hI8
        clear hB8 hI8 a7 b7 h7 hV s7 s7' s7v i7 j7 k7 hw7 p0 p1 p2 p3 p4 p5 q0 q1 q2 q3 q4 q5
        have hBL := (Below.refl w8.heap.size w8).alloc (Nat.le_refl _) (.cells #[.bool r.neg, .slice A8 n8 c8, .int .i64 r.e] 24)
        have hU := heap_alloc_last w8 (.cells #[.bool r.neg, .slice A8 n8 c8, .int .i64 r.e] 24)
        have a9 := a8.on hBL
        have b9 := boxOn b8 hBL s8'
        have h9 := boxOn h8 hBL s8
        have v9 := boxOn v8 hBL s8v
        have s9' := Nat.lt_of_lt_of_le s8' hBL.size
        have s9 := Nat.lt_of_lt_of_le s8 hBL.size
        have s9v := Nat.lt_of_lt_of_le s8v hBL.size
        have s9u : w8.heap.size < (w8.alloc (.cells #[.bool r.neg, .slice A8 n8 c8, .int .i64 r.e] 24)).heap.size := by simp
        have i9 := ints_on i8 hBL
        have j9 := ints_on j8 hBL
        have k9 := ints_on k8 hBL
        have l9 := ints_on l8 hBL
        generalize hw9 : w8.alloc (.cells #[.bool r.neg, .slice A8 n8 c8, .int .i64 r.e] 24) = w9 at *
        clear hBL a8 b8 h8 v8 s8 s8' s8v i8 j8 k8 l8
        obtain ⟨⟨p0, p1, p2⟩, p3, p4, p5⟩ := boxD b9
        obtain ⟨⟨q0, q1, q2⟩, q3, q4, q5⟩ := boxD v9
        go_wp2_with fail
        refine (Pa.dyadSame_any w9 _ _ _ _ _ _ _ _ _ _ _ _ k9 i9 true (same_res (a := dn s xs e) (b := dn s xs e) rfl rfl rfl rfl rfl HY2.out.symm HY3.out.symm)).mono ?_
        rintro e' w10 ⟨rfl, hB10⟩
        have a10 := a9.on hB10
        have h10 := boxOn h9 hB10 s9
        have u10 := boxOn hU hB10 s9u
        have s10 := Nat.lt_of_lt_of_le s9 hB10.size
        have j10 := ints_on j9 hB10
        have l10 := ints_on l9 hB10
        clear hB10 a9 b9 h9 v9 hU s9 s9' s9v s9u i9 j9 k9 l9 hw9 p0 p1 p2 p3 p4 p5 q0 q1 q2 q3 q4 q5
        obtain ⟨⟨p0, p1, p2⟩, p3, p4, p5⟩ := boxD u10
        obtain ⟨⟨q0, q1, q2⟩, q3, q4, q5⟩ := boxD h10
        go_wp2_with fail
        refine (Pa.dyadSame_any w10 _ _ _ _ _ _ _ _ _ _ _ _ l10 j10 true (same_res (a := r) (b := r) rfl rfl rfl rfl rfl rfl rfl)).mono ?_
        rintro e' w11 ⟨rfl, hB11⟩
        have a11 := a10.on hB11
        have h11 := boxOn h10 hB11 s10
        have j11 := ints_on j10 hB11
        clear hB11 a10 h10 u10 s10 j10 l10 p0 p1 p2 p3 p4 p5 q0 q1 q2 q3 q4 q5
        obtain ⟨⟨q0, q1, q2⟩, q3, q4, q5⟩ := boxD h11
        go_wp2_with fail
        refine (Check_ok w11 0 w11.heap.size r.neg A4 n4 c4 (canon 4294967296 r.m) r.e j11 (Nat.le_refl _) HMD.out).mono ?_
        rintro e' w12 ⟨rfl, hB12⟩
        have a12 := a11.on hB12
        go_wp2
        go_ret
        exact ⟨rfl, a12.below⟩
      · have hov := half_over HY.out (by rw [HR.out]; exact h0)
        have hc : code = 10 := by have h1 := hov.1; rw [HR.out] at h1; exact congrArg Prod.snd h1
        have he' : e = 1024 := by have h1 := HY3.out; rw [hov.2] at h1; exact h1.symm
        subst hc he'
        have HOV := Lib.hid hov
        clear hov
        go_wp2_with fail
        refine (Check_ok w5 0 w5.heap.size s A n c xs 1024 i5 (Nat.le_refl _) HM.out).mono ?_
        rintro e' w6 ⟨rfl, hB6⟩
        have a6 := a5.on hB6
        have b6 := boxOn b5 hB6 s5'
        clear hB6 p0 p1 p2 p3 p4 p5 q0 q1 q2 q3 q4 q5
        obtain ⟨⟨p0, p1, p2⟩, p3, p4, p5⟩ := boxD b6
        go_wp2
        go_ret
        exact ⟨rfl, a6.below⟩
    · go_wp2_with fail
      refine (Half_bad w3 s A n c xs e i3 hm).mono ?_
      rintro e' w4 ⟨rfl, hB4⟩
      have a4 := a3.on hB4
      have b4 := boxOn b3 hB4 s3
      have s4 := Nat.lt_of_lt_of_le s3 hB4.size
      have i4 := ints_on i3 hB4
      have HM := Lib.hid hm
      clear hB4 a3 b3 s3 i3 p0 p1 p2 p3 p4 p5 hm
      have hBL := (Below.refl w4.heap.size w4).alloc (Nat.le_refl _) (.cells #[.bool false, .slice none 0 0, .int .i64 0] 24)
      have b5 := boxOn b4 hBL s4
      have a5 := a4.on hBL
      have i5 := ints_on i4 hBL
      clear hBL a4 b4 i4
      obtain ⟨⟨p0, p1, p2⟩, p3, p4, p5⟩ := boxD b5
      go_wp2_with fail
      refine (Check_bad _ 0 _ s A n c xs e i5 (Nat.le_refl _) HM.out).mono ?_
      rintro e' w6 ⟨rfl, hB6⟩
      have a6 := a5.on hB6
      go_wp2
      go_ret
      exact ⟨rfl, a6.below⟩
  · clear hgr
    go_wp2
    go_ret
    exact ⟨rfl, a3.below⟩
end Dy
end Go.Proofs.YtlbkepiflhchdaaDoor
