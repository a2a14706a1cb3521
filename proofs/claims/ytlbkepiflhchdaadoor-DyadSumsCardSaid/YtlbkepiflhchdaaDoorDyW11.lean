/- The exact difference: walks. -/
import Derived.Test.YtlbkepiflhchdaaDoorDyW10
namespace Go.Proofs.YtlbkepiflhchdaaDoor
open Go.RowKit
namespace Dy
open Dp
set_option maxHeartbeats 800000 in
set_option maxRecDepth 100000 in
/-- dyad.Sub$1. -/
theorem Sub1_any (w : World) (b : Nat) (s : Bool) (A : Option Addr) (n c : Nat) (ex : Int) (hb : w.heap[b]? = some (.cells #[.bool s, .slice A n c, .int .i64 ex] 24 (0, 0))) (hn : n ≤ 1000000) (s' : Bool) (hs : (!s && decide (n ≠ 0)) = s') :
    Calls Tryd.prog 70 #[.pointer (some ⟨b, 0, none⟩)] w fun e w' => e = .returned (.agg #[.bool s', .slice A n c, .int .i64 ex]) ∧ OnlyAt b w w' := by
  have hlt : b < w.heap.size := (Array.getElem?_eq_some_iff.1 hb).1
  generalize hw1 : w.alloc (.cells #[.bool false, .slice none 0 0, .int .i64 0] 24) = w1
  have hO1 : OnlyAt b w w1 := by rw [← hw1]; exact (OnlyAt.refl b w).alloc _
  have hb1 : w1.heap[b]? = some (.cells #[.bool s, .slice A n c, .int .i64 ex] 24 (0, 0)) := by rw [← hw1]; exact (Below.heap_alloc _ _ _ hlt).trans hb
  have hr1 : w1.heap[w.heap.size]? = some (.cells #[.bool false, .slice none 0 0, .int .i64 0] 24 (0, 0)) := by rw [← hw1]; exact heap_alloc_last _ _
  obtain ⟨⟨p0, p1, p2⟩, p3, p4, p5⟩ := boxD hb1
  obtain ⟨⟨q0, q1, q2⟩, q3, q4, q5⟩ := boxD hr1
  have hne : b ≠ w.heap.size := Nat.ne_of_lt hlt
  have hne2 : w.heap.size ≠ b := fun e => hne e.symm
  cases s
  · by_cases h0 : n = 0
    · subst h0
      have : s' = false := by rw [← hs]; rfl
      subst this
      clear hs
      go_enter Tryd.func70, Tryd.ntmps70
      go_wp2
      refine bodyPost_ret (v := .agg #[.bool false, .slice A 0 c, .int .i64 ex]) (by simp [results, Tryd.results70, go_sem, q0, q1, q2]) rfl ⟨rfl, ?_⟩
      exact (((hO1.setCell _).setFar (Nat.le_refl _) 0 _).setFar (Nat.le_refl _) 1 _).setFar (Nat.le_refl _) 2 _
    · have : s' = true := by rw [← hs]; simp [h0]
      subst this
      have h1 : (0 : Int) < n := by omega
      have h2 : 0 < n := by omega
      clear hs
      go_enter Tryd.func70, Tryd.ntmps70
      go_wp2
      refine bodyPost_ret (v := .agg #[.bool true, .slice A n c, .int .i64 ex]) (by simp [results, Tryd.results70, go_sem, q0, q1, q2]) rfl ⟨rfl, ?_⟩
      exact (((hO1.setCell _).setFar (Nat.le_refl _) 0 _).setFar (Nat.le_refl _) 1 _).setFar (Nat.le_refl _) 2 _
  · have : s' = false := by rw [← hs]; rfl
    subst this
    clear hs
    go_enter Tryd.func70, Tryd.ntmps70
    go_wp2
    refine bodyPost_ret (v := .agg #[.bool false, .slice A n c, .int .i64 ex]) (by simp [results, Tryd.results70, go_sem, q0, q1, q2]) rfl ⟨rfl, ?_⟩
    exact (((hO1.setCell _).setFar (Nat.le_refl _) 0 _).setFar (Nat.le_refl _) 1 _).setFar (Nat.le_refl _) 2 _

theorem canon_len0 {w : World} {lo hi : Nat} {A : Option Addr} {n : Nat} {m : Nat} (h : Ints w lo hi .u32 A n (canon 4294967296 m)) : decide (n ≠ 0) = decide (m ≠ 0) := by
  have hl := h.len
  by_cases h0 : m = 0
  · subst h0
    rw [canon_zero] at hl
    simp at hl
    simp [← hl]
  · have hn : n ≠ 0 := fun e => by
      rw [e] at hl
      exact h0 (canon_nil (B := 4294967296) (by decide) (List.eq_nil_of_length_eq_zero hl))
    simp [h0, hn]
set_option maxHeartbeats 6400000 in
set_option maxRecDepth 100000 in
/-- dyad.Sub: dyads that may be. -/
theorem Sub_ok (w : World) (a b : Dn) (ha : a.May) (hb : b.May) (A1 : Option Addr) (n1 c1 : Nat) (h1 : Ints w 0 w.heap.size .u32 A1 n1 (canon 4294967296 a.m)) (A2 : Option Addr) (n2 c2 : Nat) (h2 : Ints w 0 w.heap.size .u32 A2 n2 (canon 4294967296 b.m)) (hT : Tab w) (r : Dn) (code : Int) (h : subD a b = (r, code)) :
    Calls Tryd.prog 22 #[.agg #[.bool a.neg, .slice A1 n1 c1, .int .i64 a.e], .agg #[.bool b.neg, .slice A2 n2 c2, .int .i64 b.e]] w (Formed w r code) := by
  have hmf : ∀ (fn : Fn) (first cap : Array Value) (w : World), (Instr.makeFunc fn first cap).run Tryd.prog w = .ok (.func fn first cap) w := fun _ _ _ _ => rfl
  have hn1 := ints_may h1 ha
  have hn2 := ints_may h2 hb
  have HM1 := Lib.hid (dn_may ha)
  have HM2 := Lib.hid (dn_may hb)
  have H := Lib.hid h
  have h0 := hT.lt
  have HN := Lib.hid (show (!b.neg && decide (n2 ≠ 0)) = (negD b).neg by rw [canon_len0 h2]; rfl)
  clear h
  generalize hw1 : ((w.alloc (.cells #[.bool a.neg, .slice A1 n1 c1, .int .i64 a.e] 24)).alloc (.cells #[.bool b.neg, .slice A2 n2 c2, .int .i64 b.e] 24)).alloc (.cells #[.bool false, .slice none 0 0, .int .i64 0] 24) = w1
  have hs1 : w1.heap.size = w.heap.size + 3 := by rw [← hw1]; simp
  have HS1 := Lib.hid hs1
  have hB1 : Below w.heap.size w w1 := by rw [← hw1]; exact (((Below.refl _ w).alloc (Nat.le_refl _) _).alloc (by simp) _).alloc (by simp; omega) _
  have hb1 : w1.heap[w.heap.size]? = some (.cells #[.bool a.neg, .slice A1 n1 c1, .int .i64 a.e] 24 (0, 0)) := by
    rw [← hw1, Below.heap_alloc _ _ _ (by simp; omega), Below.heap_alloc _ _ _ (by simp)]
    exact heap_alloc_last _ _
  have hb2 : w1.heap[w.heap.size + 1]? = some (.cells #[.bool b.neg, .slice A2 n2 c2, .int .i64 b.e] 24 (0, 0)) := by
    rw [← hw1, Below.heap_alloc _ _ _ (by simp)]
    exact heap_alloc2_new _ _ _
  have hb3 : w1.heap[w.heap.size + 1 + 1]? = some (.cells #[.bool false, .slice none 0 0, .int .i64 0] 24 (0, 0)) := by
    rw [← hw1]
    have := heap_alloc_last ((w.alloc (.cells #[.bool a.neg, .slice A1 n1 c1, .int .i64 a.e] 24)).alloc (.cells #[.bool b.neg, .slice A2 n2 c2, .int .i64 b.e] 24)) (.cells #[.bool false, .slice none 0 0, .int .i64 0] 24)
    simpa using this
  have g1 := h1.below hB1 (Nat.le_refl _)
  have g2 := h2.below hB1 (Nat.le_refl _)
  have hT1 := hT.below hB1 hT.lt
  clear hs1
  obtain ⟨⟨p0, p1, p2⟩, p3, p4, p5⟩ := boxD hb1
  obtain ⟨⟨q0, q1, q2⟩, q3, q4, q5⟩ := boxD hb2
  go_enter Tryd.func22, Tryd.ntmps22
  go_wp2_with fail
  refine (Check_ok w1 0 w.heap.size a.neg A1 n1 c1 _ a.e g1 (by have := HS1.out; omega) HM1.out).mono ?_
  rintro e w2 ⟨rfl, hB2⟩
  have hs2 := hB2.size
  replace g1 := g1.below hB2 (by have := HS1.out; omega)
  replace g2 := g2.below hB2 (by have := HS1.out; omega)
  replace hT1 := hT1.below hB2 (by have := HS1.out; omega)
  replace hb1 := (hB2.block _ (by have := HS1.out; omega)).trans hb1
  replace hb2 := (hB2.block _ (by have := HS1.out; omega)).trans hb2
  replace hb3 := (hB2.block _ (by have := HS1.out; omega)).trans hb3
  replace hB1 := hB1.trans (hB2.mono (by have := HS1.out; omega))
  clear hB2 p0 p1 p2 p3 p4 p5 q0 q1 q2 q3 q4 q5 hw1
  obtain ⟨⟨p0, p1, p2⟩, p3, p4, p5⟩ := boxD hb1
  obtain ⟨⟨q0, q1, q2⟩, q3, q4, q5⟩ := boxD hb2
  go_wp2_with fail
  refine (Check_ok w2 0 w.heap.size b.neg A2 n2 c2 _ b.e g2 (by have := HS1.out; omega) HM2.out).mono ?_
  rintro e w3 ⟨rfl, hB2⟩
  have hs3 := hB2.size
  replace g1 := g1.below hB2 (by have := HS1.out; omega)
  replace g2 := g2.below hB2 (by have := HS1.out; omega)
  replace hT1 := hT1.below hB2 (by have := HS1.out; omega)
  replace hb1 := (hB2.block _ (by have := HS1.out; omega)).trans hb1
  replace hb2 := (hB2.block _ (by have := HS1.out; omega)).trans hb2
  replace hb3 := (hB2.block _ (by have := HS1.out; omega)).trans hb3
  replace hB1 := hB1.trans (hB2.mono (by have := HS1.out; omega))
  clear hB2 p0 p1 p2 p3 p4 p5 q0 q1 q2 q3 q4 q5
  obtain ⟨⟨p0, p1, p2⟩, p3, p4, p5⟩ := boxD hb1
  obtain ⟨⟨q0, q1, q2⟩, q3, q4, q5⟩ := boxD hb2
  go_wp2_with fail
  have hSS : w3.drew.heap[w.heap.size]? = w3.heap[w.heap.size]? := rfl
  refine region_E (fun w' => w'.heap[w.heap.size]? = w3.heap[w.heap.size]?) [] (m := 8) (L := #[false, false, false, false, false, false, false, false]) (by kernel_rfl) (by rfl) (by rfl) ?_
  refine readE (i := 0) (L := #[true, false, false, false, false, false, false, false]) (v := .agg #[.bool a.neg, .slice A1 n1 c1, .int .i64 a.e]) rfl (by rfl) (by kernel_rfl) (by kernel_rfl) (by kernel_rfl) (fun _ _ _ h => h) (by assumption) (by rfl) ?hyA ?restA
  case hyA =>
    intro w' h1
    obtain ⟨⟨k1, k2, k3⟩, _⟩ := boxD (h1.trans hb1)
    go_simp
  try simp only [Act.put, List.setIfInBounds_toArray, List.set_cons_zero, List.set_cons_succ]
  refine pureE (i := 1) (L := #[true, true, false, false, false, false, false, false]) (v := ?_) rfl (by rfl) (by kernel_rfl) (by kernel_rfl) (by kernel_rfl) (fun _ _ _ h => h) (by rfl) ?hy2 ?rest2
  case hy2 => intro w; go_simp; (try with_reducible rfl)
  try simp only [Act.put, List.setIfInBounds_toArray, List.set_cons_zero, List.set_cons_succ]
  refine stepK (i := 2) (L := #[true, true, true, false, false, false, false, false]) rfl (by rfl) (by kernel_rfl) (by rfl) (fun K hK => ?_)
  go_simp
  go_at_call 70
  refine (Sub1_any w3.drew (w.heap.size + 1) b.neg A2 n2 c2 b.e hb2 (by omega) (negD b).neg HN.out).mono ?_
  rintro e w4 ⟨rfl, hO4⟩
  have hs4 : w3.heap.size ≤ w4.heap.size := hO4.size
  have hT4 := hT1.keep (hO4.block 0 (by show 0 < w3.heap.size; have := HS1.out; omega) (by omega))
  have hb14 := hO4.block w.heap.size (by show w.heap.size < w3.heap.size; have := HS1.out; omega) (by omega)
  have hb4 := (hO4.block (w.heap.size + 1 + 1) (by show w.heap.size + 1 + 1 < w3.heap.size; have := HS1.out; omega) (by omega)).trans hb3
  have hB4 := hO4.below hB1.drew (by omega) (by show w.heap.size ≤ w3.heap.size; have := HS1.out; omega)
  have g14 := (h1.below hB4 (Nat.le_refl _)).more (lo' := 0) (hi' := w4.heap.size) (Nat.le_refl _) (by have := HS1.out; omega)
  have g24 := (h2.below hB4 (Nat.le_refl _)).more (lo' := 0) (hi' := w4.heap.size) (Nat.le_refl _) (by have := HS1.out; omega)
  refine hK _ _ ⟨fun _ _ => hb14, ?_⟩
  clear hK K hO4 g1 g2 hT1 hB1 hb1 hb2 hb3 p0 p1 p2 p3 p4 p5 q0 q1 q2 q3 q4 q5 hSS
  try simp only [Act.put, List.setIfInBounds_toArray, List.set_cons_zero, List.set_cons_succ]
  refine stepK (i := 3) (L := #[true, true, true, true, false, false, false, false]) rfl (by rfl) (by kernel_rfl) (by rfl) (fun K hK => ?_)
  go_simp
  go_at_call 20
  refine (Add_ok w4 a (negD b) ha (neg_may hb) A1 n1 c1 g14 A2 n2 c2 g24 hT4 r code H.out).mono ?_
  rintro e w5 ⟨A', n', c', rfl, hc', hB5, hI5⟩
  have hs5 := hB5.size
  have hb5 := (hB5.block _ (by have := HS1.out; omega)).trans hb4
  have hBB := hB4.trans (hB5.mono (by have := HS1.out; omega))
  have hb15 := hB5.block w.heap.size (by have := HS1.out; omega)
  have HI := Lib.hid hI5
  obtain ⟨⟨x0, x1, x2⟩, x3, x4, x5⟩ := boxD hb5
  refine hK _ _ ⟨fun _ h => hb15.trans h, ?_⟩
  clear hK K hb4 hB4 hB5 hI5 g14 g24 hT4
  try simp only [Act.put, List.setIfInBounds_toArray, List.set_cons_zero, List.set_cons_succ]
  refine pureE (i := 4) (L := #[true, true, true, true, true, false, false, false]) (v := ?_) rfl (by rfl) (by kernel_rfl) (by kernel_rfl) (by kernel_rfl) (fun _ _ _ h => h) (by rfl) ?hy5 ?rest5
  case hy5 => intro w; go_simp; (try with_reducible rfl)
  try simp only [Act.put, List.setIfInBounds_toArray, List.set_cons_zero, List.set_cons_succ]
  refine pureE (i := 5) (L := #[true, true, true, true, true, true, false, false]) (v := ?_) rfl (by rfl) (by kernel_rfl) (by kernel_rfl) (by kernel_rfl) (fun _ _ _ h => h) (by rfl) ?hy6 ?rest6
  case hy6 => intro w; go_simp; (try with_reducible rfl)
  try simp only [Act.put, List.setIfInBounds_toArray, List.set_cons_zero, List.set_cons_succ]
  refine stepK (i := 6) (L := #[true, true, true, true, true, true, true, false]) rfl (by rfl) (by kernel_rfl) (by rfl) (fun K hK => ?_)
  go_simp
  have hbx := setCell3_other w5 (g := w.heap.size + 1 + 1) (k := w.heap.size) (by omega) (.bool r.neg) (.slice A' n' c') (.int .i64 r.e)
  refine hK _ _ ⟨fun _ h => hbx.trans h, ?_⟩
  clear hK K
  try simp only [Act.put, List.setIfInBounds_toArray, List.set_cons_zero, List.set_cons_succ]
  refine pureE (i := 7) (L := #[true, true, true, true, true, true, true, true]) (v := ?_) rfl (by rfl) (by kernel_rfl) (by kernel_rfl) (by kernel_rfl) (fun _ _ _ h => h) (by rfl) ?hy8 ?rest8
  case hy8 => intro w; go_simp; (try with_reducible rfl)
  try simp only [Act.put, List.setIfInBounds_toArray, List.set_cons_zero, List.set_cons_succ]
  refine doneE (by kernel_rfl) ?_ _
  go_wp2
  refine bodyPost_ret (v := .tuple #[.agg #[.bool r.neg, .slice A' n' c', .int .i64 r.e], .int .i64 code]) (by simp [results, Tryd.results22, go_sem, x0, x1, x2]) rfl ⟨A', n', c', rfl, hc', ?_, ?_⟩
  · exact ((hBB.setCell (by simp; omega) _).setCell (by simp; omega) _).setCell (by simp; omega) _
  · refine Ints.more (lo := w4.heap.size) (hi := w5.heap.size) ?_ (by have := HS1.out; omega) (by simp [World.setCell])
    exact ints_far (ints_far (ints_far HI.out (.inl (by have := HS1.out; simp; omega)) _) (.inl (by have := HS1.out; simp; omega)) _) (.inl (by have := HS1.out; simp; omega)) _
end Dy
end Go.Proofs.YtlbkepiflhchdaaDoor
