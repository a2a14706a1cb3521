/- Sums, differences, halves and comparisons of dyads that may not be; halves: walks. -/
import Derived.Test.YtlbkepiflhchdaaDoorDyW9
namespace Go.Proofs.YtlbkepiflhchdaaDoor
open Go.RowKit
namespace Dy
open Dp
/-- What is answered of dyads that may not be. -/
def Bad (w : World) (e : Ending) (w' : World) : Prop := e = .returned (.tuple #[.agg #[.bool false, .slice none 0 0, .int .i64 0], .int .i64 8]) ∧ Below w.heap.size w w'

set_option maxHeartbeats 1600000 in
set_option maxRecDepth 100000 in
/-- dyad.Add: dyads that may not be. -/
theorem Add_bad (w : World) (s1 s2 : Bool) (A1 A2 : Option Addr) (n1 c1 n2 c2 : Nat) (xs1 xs2 : List Int) (e1 e2 : Int) (h1 : Ints w 0 w.heap.size .u32 A1 n1 xs1) (h2 : Ints w 0 w.heap.size .u32 A2 n2 xs2) (h : ¬ MayD s1 xs1 e1 ∨ ¬ MayD s2 xs2 e2) :
    Calls Tryd.prog 20 #[.agg #[.bool s1, .slice A1 n1 c1, .int .i64 e1], .agg #[.bool s2, .slice A2 n2 c2, .int .i64 e2]] w (Bad w) := by
  generalize hw1 : ((w.alloc (.cells #[.bool s1, .slice A1 n1 c1, .int .i64 e1] 24)).alloc (.cells #[.bool s2, .slice A2 n2 c2, .int .i64 e2] 24)).alloc (.cells #[.bool false, .slice none 0 0, .int .i64 0] 24) = w1
  have hs1 : w1.heap.size = w.heap.size + 3 := by rw [← hw1]; simp
  have HS1 := Lib.hid hs1
  have hB1 : Below w.heap.size w w1 := by rw [← hw1]; exact (((Below.refl _ w).alloc (Nat.le_refl _) _).alloc (by simp) _).alloc (by simp; omega) _
  have hb1 : w1.heap[w.heap.size]? = some (.cells #[.bool s1, .slice A1 n1 c1, .int .i64 e1] 24 (0, 0)) := by
    rw [← hw1, Below.heap_alloc _ _ _ (by simp; omega), Below.heap_alloc _ _ _ (by simp)]
    exact heap_alloc_last _ _
  have hb2 : w1.heap[w.heap.size + 1]? = some (.cells #[.bool s2, .slice A2 n2 c2, .int .i64 e2] 24 (0, 0)) := by
    rw [← hw1, Below.heap_alloc _ _ _ (by simp)]
    exact heap_alloc2_new _ _ _
  have hb3 : w1.heap[w.heap.size + 1 + 1]? = some (.cells #[.bool false, .slice none 0 0, .int .i64 0] 24 (0, 0)) := by
    rw [← hw1]
    have := heap_alloc_last ((w.alloc (.cells #[.bool s1, .slice A1 n1 c1, .int .i64 e1] 24)).alloc (.cells #[.bool s2, .slice A2 n2 c2, .int .i64 e2] 24)) (.cells #[.bool false, .slice none 0 0, .int .i64 0] 24)
    simpa using this
  have g1 := h1.below hB1 (Nat.le_refl _)
  have g2 := h2.below hB1 (Nat.le_refl _)
  clear hs1
  obtain ⟨⟨p0, p1, p2⟩, p3, p4, p5⟩ := boxD hb1
  obtain ⟨⟨q0, q1, q2⟩, q3, q4, q5⟩ := boxD hb2
  by_cases hm : MayD s1 xs1 e1
  · have hm2 := h.resolve_left (fun k => k hm)
    clear h
    go_enter Tryd.func20, Tryd.ntmps20
    go_wp2_with fail
    refine (Check_ok w1 0 w.heap.size s1 A1 n1 c1 xs1 e1 g1 (by have := HS1.out; omega) hm).mono ?_
    rintro e w2 ⟨rfl, hB2⟩
    have hs2 := hB2.size
    replace g2 := g2.below hB2 (by have := HS1.out; omega)
    replace hb2 := (hB2.block _ (by have := HS1.out; omega)).trans hb2
    replace hb3 := (hB2.block _ (by have := HS1.out; omega)).trans hb3
    replace hB1 := hB1.trans (hB2.mono (by have := HS1.out; omega))
    clear hB2 p0 p1 p2 p3 p4 p5 q0 q1 q2 q3 q4 q5 hw1 hm
    obtain ⟨⟨q0, q1, q2⟩, q3, q4, q5⟩ := boxD hb2
    go_wp2_with fail
    refine (Check_bad w2 0 w.heap.size s2 A2 n2 c2 xs2 e2 g2 (by have := HS1.out; omega) hm2).mono ?_
    rintro e w3 ⟨rfl, hB2⟩
    replace hb3 := (hB2.block _ (by have := HS1.out; omega)).trans hb3
    replace hB1 := hB1.trans (hB2.mono (by have := HS1.out; omega))
    clear hB2 q0 q1 q2 q3 q4 q5 hm2
    obtain ⟨⟨x0, x1, x2⟩, x3, x4, x5⟩ := boxD hb3
    go_wp2
    refine bodyPost_ret (v := .tuple #[.agg #[.bool false, .slice none 0 0, .int .i64 0], .int .i64 8]) (by simp [results, Tryd.results20, go_sem, x0, x1, x2]) rfl ⟨rfl, ?_⟩
    exact ((hB1.setCell (by simp; omega) _).setCell (by simp; omega) _).setCell (by simp; omega) _
  · clear h
    go_enter Tryd.func20, Tryd.ntmps20
    go_wp2_with fail
    refine (Check_bad w1 0 w.heap.size s1 A1 n1 c1 xs1 e1 g1 (by have := HS1.out; omega) hm).mono ?_
    rintro e w2 ⟨rfl, hB2⟩
    replace hb3 := (hB2.block _ (by have := HS1.out; omega)).trans hb3
    replace hB1 := hB1.trans (hB2.mono (by have := HS1.out; omega))
    clear hB2 p0 p1 p2 p3 p4 p5 q0 q1 q2 q3 q4 q5 hw1 hm
    obtain ⟨⟨x0, x1, x2⟩, x3, x4, x5⟩ := boxD hb3
    go_wp2
    refine bodyPost_ret (v := .tuple #[.agg #[.bool false, .slice none 0 0, .int .i64 0], .int .i64 8]) (by simp [results, Tryd.results20, go_sem, x0, x1, x2]) rfl ⟨rfl, ?_⟩
    exact ((hB1.setCell (by simp; omega) _).setCell (by simp; omega) _).setCell (by simp; omega) _

set_option maxHeartbeats 1600000 in
set_option maxRecDepth 100000 in
/-- dyad.Sub: dyads that may not be. -/
theorem Sub_bad (w : World) (s1 s2 : Bool) (A1 A2 : Option Addr) (n1 c1 n2 c2 : Nat) (xs1 xs2 : List Int) (e1 e2 : Int) (h1 : Ints w 0 w.heap.size .u32 A1 n1 xs1) (h2 : Ints w 0 w.heap.size .u32 A2 n2 xs2) (h : ¬ MayD s1 xs1 e1 ∨ ¬ MayD s2 xs2 e2) :
    Calls Tryd.prog 22 #[.agg #[.bool s1, .slice A1 n1 c1, .int .i64 e1], .agg #[.bool s2, .slice A2 n2 c2, .int .i64 e2]] w (Bad w) := by
  generalize hw1 : ((w.alloc (.cells #[.bool s1, .slice A1 n1 c1, .int .i64 e1] 24)).alloc (.cells #[.bool s2, .slice A2 n2 c2, .int .i64 e2] 24)).alloc (.cells #[.bool false, .slice none 0 0, .int .i64 0] 24) = w1
  have hs1 : w1.heap.size = w.heap.size + 3 := by rw [← hw1]; simp
  have HS1 := Lib.hid hs1
  have hB1 : Below w.heap.size w w1 := by rw [← hw1]; exact (((Below.refl _ w).alloc (Nat.le_refl _) _).alloc (by simp) _).alloc (by simp; omega) _
  have hb1 : w1.heap[w.heap.size]? = some (.cells #[.bool s1, .slice A1 n1 c1, .int .i64 e1] 24 (0, 0)) := by
    rw [← hw1, Below.heap_alloc _ _ _ (by simp; omega), Below.heap_alloc _ _ _ (by simp)]
    exact heap_alloc_last _ _
  have hb2 : w1.heap[w.heap.size + 1]? = some (.cells #[.bool s2, .slice A2 n2 c2, .int .i64 e2] 24 (0, 0)) := by
    rw [← hw1, Below.heap_alloc _ _ _ (by simp)]
    exact heap_alloc2_new _ _ _
  have hb3 : w1.heap[w.heap.size + 1 + 1]? = some (.cells #[.bool false, .slice none 0 0, .int .i64 0] 24 (0, 0)) := by
    rw [← hw1]
    have := heap_alloc_last ((w.alloc (.cells #[.bool s1, .slice A1 n1 c1, .int .i64 e1] 24)).alloc (.cells #[.bool s2, .slice A2 n2 c2, .int .i64 e2] 24)) (.cells #[.bool false, .slice none 0 0, .int .i64 0] 24)
    simpa using this
  have g1 := h1.below hB1 (Nat.le_refl _)
  have g2 := h2.below hB1 (Nat.le_refl _)
  clear hs1
  obtain ⟨⟨p0, p1, p2⟩, p3, p4, p5⟩ := boxD hb1
  obtain ⟨⟨q0, q1, q2⟩, q3, q4, q5⟩ := boxD hb2
  by_cases hm : MayD s1 xs1 e1
  · have hm2 := h.resolve_left (fun k => k hm)
    clear h
    go_enter Tryd.func22, Tryd.ntmps22
    go_wp2_with fail
    refine (Check_ok w1 0 w.heap.size s1 A1 n1 c1 xs1 e1 g1 (by have := HS1.out; omega) hm).mono ?_
    rintro e w2 ⟨rfl, hB2⟩
    have hs2 := hB2.size
    replace g2 := g2.below hB2 (by have := HS1.out; omega)
    replace hb2 := (hB2.block _ (by have := HS1.out; omega)).trans hb2
    replace hb3 := (hB2.block _ (by have := HS1.out; omega)).trans hb3
    replace hB1 := hB1.trans (hB2.mono (by have := HS1.out; omega))
    clear hB2 p0 p1 p2 p3 p4 p5 q0 q1 q2 q3 q4 q5 hw1 hm
    obtain ⟨⟨q0, q1, q2⟩, q3, q4, q5⟩ := boxD hb2
    go_wp2_with fail
    refine (Check_bad w2 0 w.heap.size s2 A2 n2 c2 xs2 e2 g2 (by have := HS1.out; omega) hm2).mono ?_
    rintro e w3 ⟨rfl, hB2⟩
    replace hb3 := (hB2.block _ (by have := HS1.out; omega)).trans hb3
    replace hB1 := hB1.trans (hB2.mono (by have := HS1.out; omega))
    clear hB2 q0 q1 q2 q3 q4 q5 hm2
    obtain ⟨⟨x0, x1, x2⟩, x3, x4, x5⟩ := boxD hb3
    go_wp2
    refine bodyPost_ret (v := .tuple #[.agg #[.bool false, .slice none 0 0, .int .i64 0], .int .i64 8]) (by simp [results, Tryd.results22, go_sem, x0, x1, x2]) rfl ⟨rfl, ?_⟩
    exact ((hB1.setCell (by simp; omega) _).setCell (by simp; omega) _).setCell (by simp; omega) _
  · clear h
    go_enter Tryd.func22, Tryd.ntmps22
    go_wp2_with fail
    refine (Check_bad w1 0 w.heap.size s1 A1 n1 c1 xs1 e1 g1 (by have := HS1.out; omega) hm).mono ?_
    rintro e w2 ⟨rfl, hB2⟩
    replace hb3 := (hB2.block _ (by have := HS1.out; omega)).trans hb3
    replace hB1 := hB1.trans (hB2.mono (by have := HS1.out; omega))
    clear hB2 p0 p1 p2 p3 p4 p5 q0 q1 q2 q3 q4 q5 hw1 hm
    obtain ⟨⟨x0, x1, x2⟩, x3, x4, x5⟩ := boxD hb3
    go_wp2
    refine bodyPost_ret (v := .tuple #[.agg #[.bool false, .slice none 0 0, .int .i64 0], .int .i64 8]) (by simp [results, Tryd.results22, go_sem, x0, x1, x2]) rfl ⟨rfl, ?_⟩
    exact ((hB1.setCell (by simp; omega) _).setCell (by simp; omega) _).setCell (by simp; omega) _

set_option maxHeartbeats 1600000 in
set_option maxRecDepth 100000 in
/-- dyad.Half: dyads that may not be. -/
theorem Half_bad (w : World) (s1 : Bool) (A1 : Option Addr) (n1 c1 : Nat) (xs1 : List Int) (e1 : Int) (h1 : Ints w 0 w.heap.size .u32 A1 n1 xs1) (hm : ¬ MayD s1 xs1 e1) :
    Calls Tryd.prog 24 #[.agg #[.bool s1, .slice A1 n1 c1, .int .i64 e1]] w (Bad w) := by
  generalize hw1 : (w.alloc (.cells #[.bool s1, .slice A1 n1 c1, .int .i64 e1] 24)).alloc (.cells #[.bool false, .slice none 0 0, .int .i64 0] 24) = w1
  have hs1 : w1.heap.size = w.heap.size + 2 := by rw [← hw1]; simp
  have HS1 := Lib.hid hs1
  have hB1 : Below w.heap.size w w1 := by rw [← hw1]; exact ((Below.refl _ w).alloc (Nat.le_refl _) _).alloc (by simp) _
  have hb1 : w1.heap[w.heap.size]? = some (.cells #[.bool s1, .slice A1 n1 c1, .int .i64 e1] 24 (0, 0)) := by
    rw [← hw1, Below.heap_alloc _ _ _ (by simp)]
    exact heap_alloc_last _ _
  have hb3 : w1.heap[w.heap.size + 1]? = some (.cells #[.bool false, .slice none 0 0, .int .i64 0] 24 (0, 0)) := by
    rw [← hw1]
    exact heap_alloc2_new _ _ _
  have g1 := h1.below hB1 (Nat.le_refl _)
  clear hs1
  obtain ⟨⟨p0, p1, p2⟩, p3, p4, p5⟩ := boxD hb1
  go_enter Tryd.func24, Tryd.ntmps24
  go_wp2_with fail
  refine (Check_bad w1 0 w.heap.size s1 A1 n1 c1 xs1 e1 g1 (by have := HS1.out; omega) hm).mono ?_
  rintro e w2 ⟨rfl, hB2⟩
  replace hb3 := (hB2.block _ (by have := HS1.out; omega)).trans hb3
  replace hB1 := hB1.trans (hB2.mono (by have := HS1.out; omega))
  clear hB2 p0 p1 p2 p3 p4 p5 hw1 hm
  obtain ⟨⟨x0, x1, x2⟩, x3, x4, x5⟩ := boxD hb3
  go_wp2
  refine bodyPost_ret (v := .tuple #[.agg #[.bool false, .slice none 0 0, .int .i64 0], .int .i64 8]) (by simp [results, Tryd.results24, go_sem, x0, x1, x2]) rfl ⟨rfl, ?_⟩
  exact ((hB1.setCell (by simp) _).setCell (by simp) _).setCell (by simp) _

theorem Sum.expo {w : World} {g : Nat} {s : Bool} {L : Value} {ex : Int} {ws : List Int} (h : Sum w g s L ex ws) (t : Int) : Sum (w.setCell ⟨g, 2, none⟩ (.int .i64 t)) g s L t ws :=
  ⟨by rw [heap_setCell_same w g _ _ _ _ h.blk]; congr 2; apply Array.ext'; simp, h.len, h.dig⟩
set_option maxHeartbeats 1600000 in
set_option maxRecDepth 100000 in
/-- dyad.Half: dyads that may be. -/
theorem Half_ok (w : World) (a : Dn) (ha : a.May) (A1 : Option Addr) (n1 c1 : Nat) (h1 : Ints w 0 w.heap.size .u32 A1 n1 (canon 4294967296 a.m)) (hT : Tab w) (r : Dn) (code : Int) (h : halfD a = (r, code)) :
    Calls Tryd.prog 24 #[.agg #[.bool a.neg, .slice A1 n1 c1, .int .i64 a.e]] w (Formed w r code) := by
  have hn1 := ints_may h1 ha
  have HM1 := Lib.hid (dn_may ha)
  have hae := ha.2.1
  obtain ⟨sd1, _, sn1⟩ := canon_spec 4294967296 a.m (by decide)
  have SN1 := Lib.hid sn1
  have H := Lib.hid h
  generalize hm1 : canon 4294967296 a.m = xs1 at *
  clear h sn1 hm1
  have h0 := hT.lt
  generalize hw1 : (w.alloc (.cells #[.bool a.neg, .slice A1 n1 c1, .int .i64 a.e] 24)).alloc (.cells #[.bool false, .slice none 0 0, .int .i64 0] 24) = w1
  have hs1 : w1.heap.size = w.heap.size + 2 := by rw [← hw1]; simp
  have HS1 := Lib.hid hs1
  have hB1 : Below w.heap.size w w1 := by rw [← hw1]; exact ((Below.refl _ w).alloc (Nat.le_refl _) _).alloc (by simp) _
  have hb1 : w1.heap[w.heap.size]? = some (.cells #[.bool a.neg, .slice A1 n1 c1, .int .i64 a.e] 24 (0, 0)) := by
    rw [← hw1, Below.heap_alloc _ _ _ (by simp)]
    exact heap_alloc_last _ _
  have hb3 : w1.heap[w.heap.size + 1]? = some (.cells #[.bool false, .slice none 0 0, .int .i64 0] 24 (0, 0)) := by
    rw [← hw1]
    exact heap_alloc2_new _ _ _
  have g1 := h1.below hB1 (Nat.le_refl _)
  clear hs1
  obtain ⟨⟨p0, p1, p2⟩, p3, p4, p5⟩ := boxD hb1
  have hT1 := hT.below hB1 hT.lt
  go_enter Tryd.func24, Tryd.ntmps24
  go_wp2_with fail
  refine (Check_ok w1 0 w.heap.size a.neg A1 n1 c1 xs1 a.e g1 (by have := HS1.out; omega) HM1.out).mono ?_
  rintro e w2 ⟨rfl, hB2⟩
  have hs2 := hB2.size
  replace g1 := g1.below hB2 (by have := HS1.out; omega)
  replace hT1 := hT1.below hB2 (by have := HS1.out; omega)
  replace hb1 := (hB2.block _ (by have := HS1.out; omega)).trans hb1
  replace hb3 := (hB2.block _ (by have := HS1.out; omega)).trans hb3
  replace hB1 := hB1.trans (hB2.mono (by have := HS1.out; omega))
  clear hB2 p0 p1 p2 p3 p4 p5 hw1
  obtain ⟨⟨p0, p1, p2⟩, p3, p4, p5⟩ := boxD hb1
  go_wp2_with fail
  refine (of_any w2 0 w.heap.size a.neg A1 n1 c1 xs1 a.e 0 g1 (by have := HS1.out; omega) sd1 hn1 (by omega) (by omega) _ (by simp)).mono ?_
  rintro e w4 ⟨g, ws, rfl, hB4, hg1, hg2, hS4, hnw⟩
  have hs4 := hB4.size
  replace hT1 := hT1.below hB4 (by have := HS1.out; omega)
  replace hb3 := (hB4.block _ (by have := HS1.out; omega)).trans hb3
  replace hB1 := hB1.trans (hB4.mono (by have := HS1.out; omega))
  have HNW := Lib.hid hnw
  clear hB4 p0 p1 p2 p3 p4 p5 hnw g1 hb1
  obtain ⟨z0, z1, z2⟩ := hS4.head
  have z3 := hS4.free 2
  go_wp2_with fail
  have hS5 := hS4.expo ((a.e : Int) + 1)
  have hT5 := hT1.keep (heap_setCell_other w4 ⟨g, 2, none⟩ 0 (.int .i64 ((a.e : Int) + 1)) (by have := HS1.out; simp; omega))
  have hb5 := (heap_setCell_other w4 ⟨g, 2, none⟩ (w.heap.size + 1) (.int .i64 ((a.e : Int) + 1)) (by simp; have := HS1.out; omega)).trans hb3
  have hB5 := hB1.setCell (p := ⟨g, 2, none⟩) (by simp; have := HS1.out; omega) (.int .i64 ((a.e : Int) + 1))
  have hs5 : (w4.setCell ⟨g, 2, none⟩ (.int .i64 ((a.e : Int) + 1))).heap.size = w4.heap.size := by simp [World.setCell]
  have HS5 := Lib.hid hs5
  generalize w4.setCell ⟨g, 2, none⟩ (.int .i64 ((a.e : Int) + 1)) = w5 at *
  clear hs5 hT1 hb3 hB1 hS4 z0 z1 z2 z3
  have hf : formed a.neg (num 4294967296 ws) (a.e + 1) = (r, code) := by rw [HNW.out, SN1.out, Nat.pow_zero, Nat.mul_one]; exact H.out
  have hS6 : Sum w5 g a.neg (.slice none 0 0) ((a.e + 1 : Nat) : Int) ws := hS5
  refine (form_any w5 g (by have := HS5.out; omega) a.neg _ (a.e + 1) (by omega) ws hS6 hT5 r code hf).mono ?_
  rintro e w7 ⟨A', n', c', rfl, hc', hB7, hI7⟩
  have hs7 := hB7.size
  have hb7 := (hB7.block _ (by have := HS1.out; have := HS5.out; omega)).trans hb5
  have hBB := hB5.trans (hB7.mono (by have := HS1.out; have := HS5.out; omega))
  have HI := Lib.hid hI7
  obtain ⟨⟨x0, x1, x2⟩, x3, x4, x5⟩ := boxD hb7
  clear hf hS5 hS6 hT5 hB5 hb5 hB7 hI7
  go_wp2
  refine bodyPost_ret (v := .tuple #[.agg #[.bool r.neg, .slice A' n' c', .int .i64 r.e], .int .i64 code]) (by simp [results, Tryd.results24, go_sem, x0, x1, x2]) rfl ⟨A', n', c', rfl, hc', ?_, ?_⟩
  · exact ((hBB.setCell (by simp) _).setCell (by simp) _).setCell (by simp) _
  · refine Ints.more (lo := w5.heap.size) (hi := w7.heap.size) ?_ (by have := HS1.out; have := HS5.out; omega) (by simp [World.setCell])
    exact ints_far (ints_far (ints_far HI.out (.inl (by have := HS1.out; have := HS5.out; simp; omega)) _) (.inl (by have := HS1.out; have := HS5.out; simp; omega)) _) (.inl (by have := HS1.out; have := HS5.out; simp; omega)) _
end Dy
end Go.Proofs.YtlbkepiflhchdaaDoor
