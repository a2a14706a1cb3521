/- The exact sum: a walk. -/
/- Sums, differences, halves and comparisons of dyads that may not be; halves: walks. -/
/- The exact difference: walks. -/
/- A number's dyad: walks. -/
/- Slices of limbs: whether two are the same, copies: walks. -/
/- Dyads: whether two are the same, copies: walks. -/
/- Dyads: copies; the reference's: whether they are great, the same, copies: walks. -/
/- Sums, differences, halves and comparisons of dyads as they lie in memory. -/
import Derived.Test.YtlbkepiflhchdaaDoorBa04
import Derived.Test.YtlbkepiflhchdaaDoorProg
import Derived.Lib.SmallJoins
import Derived.RangeFuncNested
import Derived.Test.YtlbkepiflhchdaaDoorBa01
namespace Go.Proofs.YtlbkepiflhchdaaDoor
open Go.RowKit
namespace Dy
open Dp
theorem ints_may {w : World} {lo hi : Nat} {A : Option Addr} {n : Nat} {a : Dn} (h : Ints w lo hi .u32 A n (canon 4294967296 a.m)) (ha : a.May) : n ≤ 40 := by
  have h1 := (dn_may ha).1.1
  have h2 := h.len
  omega
def roomE : Nat := 2304
theorem shift_lt {m k : Nat} (h : m < capD) (hk : k ≤ 1024) : m * 2 ^ k < 2 ^ roomE := by
  have h1 : m * 2 ^ k < capD * 2 ^ k := Nat.mul_lt_mul_of_pos_right h (Nat.pow_pos (by decide))
  have h2 : capD * 2 ^ k ≤ 2 ^ roomE := by
    rw [capD_eq, ← Nat.pow_add]
    exact Nat.pow_le_pow_right (by decide) (by rw [capE_eq]; show 1280 + k ≤ 2304; omega)
  exact Nat.lt_of_lt_of_le h1 h2
theorem sum_room {x y : Nat} (hx : x < 2 ^ roomE) (hy : y < 2 ^ roomE) : x + y < 4294967296 ^ 74 := by
  rw [pow32]
  obtain ⟨e, he⟩ : ∃ e, e = 32 * 74 := ⟨_, rfl⟩
  rw [← he]
  have he2 : roomE + 1 ≤ e := by rw [he]; show 2304 + 1 ≤ 32 * 74; decide
  have h : 2 ^ roomE + 2 ^ roomE ≤ 2 ^ e := by
    rw [← Nat.two_mul, ← Nat.pow_succ']
    exact Nat.pow_le_pow_right (by decide) he2
  exact Nat.lt_of_lt_of_le (Nat.add_lt_add hx hy) h
set_option maxHeartbeats 6400000 in
set_option maxRecDepth 100000 in
/-- dyad.Add: dyads that may be. -/
theorem Add_ok (w : World) (a b : Dn) (ha : a.May) (hb : b.May) (A1 : Option Addr) (n1 c1 : Nat) (h1 : Ints w 0 w.heap.size .u32 A1 n1 (canon 4294967296 a.m)) (A2 : Option Addr) (n2 c2 : Nat) (h2 : Ints w 0 w.heap.size .u32 A2 n2 (canon 4294967296 b.m)) (hT : Tab w) (r : Dn) (code : Int) (h : addD a b = (r, code)) :
    Calls Tryd.prog 20 #[.agg #[.bool a.neg, .slice A1 n1 c1, .int .i64 a.e], .agg #[.bool b.neg, .slice A2 n2 c2, .int .i64 b.e]] w (Formed w r code) := by
  have hn1 := ints_may h1 ha
  have hn2 := ints_may h2 hb
  have HM1 := Lib.hid (dn_may ha)
  have HM2 := Lib.hid (dn_may hb)
  have hae := ha.2.1
  have hbe := hb.2.1
  obtain ⟨sd1, _, sn1⟩ := canon_spec 4294967296 a.m (by decide)
  obtain ⟨sd2, _, sn2⟩ := canon_spec 4294967296 b.m (by decide)
  have SN1 := Lib.hid sn1
  have SN2 := Lib.hid sn2
  have H := Lib.hid h
  obtain ⟨M, hK⟩ : ∃ M, max a.e b.e = M := ⟨_, rfl⟩
  have HK := Lib.hid hK
  have hK1 : a.e ≤ M := by omega
  have hK2 : b.e ≤ M := by omega
  have hK3 : M ≤ 1024 := by omega
  have hkab : (a.e < b.e ∧ M = b.e) ∨ (¬ a.e < b.e ∧ M = a.e) := by omega
  generalize hm1 : canon 4294967296 a.m = xs1 at *
  generalize hm2 : canon 4294967296 b.m = xs2 at *
  clear h sn1 sn2 hK hm1 hm2
  generalize hw1 : ((w.alloc (.cells #[.bool a.neg, .slice A1 n1 c1, .int .i64 a.e] 24)).alloc (.cells #[.bool b.neg, .slice A2 n2 c2, .int .i64 b.e] 24)).alloc (.cells #[.bool false, .slice none 0 0, .int .i64 0] 24) = w1
  have hs1 : w1.heap.size = w.heap.size + 3 := by rw [← hw1]; simp
  have HS1 := Lib.hid hs1
  have hB1 : Below w.heap.size w w1 := by rw [← hw1]; exact (((Below.refl _ w).alloc (Nat.le_refl _) _).alloc (by simp) _).alloc (by simp; omega) _
  have hb1 : w1.heap[w.heap.size]? = some (.cells #[.bool a.neg, .slice A1 n1 c1, .int .i64 a.e] 24 (0, 0)) := by
    rw [← hw1, Below.heap_alloc _ _ _ (by simp; omega), Below.heap_alloc _ _ _ (by simp)]
    exact heap_alloc_last _ _
  have hb2 : w1.heap[w.heap.size + 1]? = some (.cells #[.bool b.neg, .slice A2 n2 c2, .int .i64 b.e] 24 (0, 0)) := by
    rw [← hw1, Below.heap_alloc _ _ _ (by simp)]
    exact heap_alloc2_new _ _ _
  have hb3 : w1.heap[w.heap.size + 1 + 1]? = some (.cells #[.bool false, .slice none 0 0, .int .i64 0] 24 (0, 0)) := by
    rw [← hw1]
    have := heap_alloc_last ((w.alloc (.cells #[.bool a.neg, .slice A1 n1 c1, .int .i64 a.e] 24)).alloc (.cells #[.bool b.neg, .slice A2 n2 c2, .int .i64 b.e] 24)) (.cells #[.bool false, .slice none 0 0, .int .i64 0] 24)
    simpa using this
  have g1 := h1.below hB1 (Nat.le_refl _)
  have g2 := h2.below hB1 (Nat.le_refl _)
  have hT1 := hT.below hB1 hT.lt
  have h0 := hT.lt
  clear hs1
  obtain ⟨⟨p0, p1, p2⟩, p3, p4, p5⟩ := boxD hb1
  obtain ⟨⟨q0, q1, q2⟩, q3, q4, q5⟩ := boxD hb2
  go_enter Tryd.func20, Tryd.ntmps20
  go_wp2_with fail
  refine (Check_ok w1 0 w.heap.size a.neg A1 n1 c1 xs1 a.e g1 (by have := HS1.out; omega) HM1.out).mono ?_
  rintro e w2 ⟨rfl, hB2⟩
  have hs2 := hB2.size
  replace g1 := g1.below hB2 (by have := HS1.out; omega)
  replace g2 := g2.below hB2 (by have := HS1.out; omega)
  replace hT1 := hT1.below hB2 (by have := HS1.out; omega)
  replace hb1 := (hB2.block _ (by have := HS1.out; omega)).trans hb1
  replace hb2 := (hB2.block _ (by have := HS1.out; omega)).trans hb2
  replace hb3 := (hB2.block _ (by have := HS1.out; omega)).trans hb3
  replace hB1 := hB1.trans (hB2.mono (by have := HS1.out; omega))
  clear hB2 p0 p1 p2 p3 p4 p5 q0 q1 q2 q3 q4 q5 hw1
  obtain ⟨⟨p0, p1, p2⟩, p3, p4, p5⟩ := boxD hb1
  obtain ⟨⟨q0, q1, q2⟩, q3, q4, q5⟩ := boxD hb2
  go_wp2_with fail
  refine (Check_ok w2 0 w.heap.size b.neg A2 n2 c2 xs2 b.e g2 (by have := HS1.out; omega) HM2.out).mono ?_
  rintro e w3 ⟨rfl, hB2⟩
  have hs3 := hB2.size
  replace g1 := g1.below hB2 (by have := HS1.out; omega)
  replace g2 := g2.below hB2 (by have := HS1.out; omega)
  replace hT1 := hT1.below hB2 (by have := HS1.out; omega)
  replace hb1 := (hB2.block _ (by have := HS1.out; omega)).trans hb1
  replace hb2 := (hB2.block _ (by have := HS1.out; omega)).trans hb2
  replace hb3 := (hB2.block _ (by have := HS1.out; omega)).trans hb3
  replace hB1 := hB1.trans (hB2.mono (by have := HS1.out; omega))
  clear hB2 p0 p1 p2 p3 p4 p5 q0 q1 q2 q3 q4 q5
  obtain ⟨⟨p0, p1, p2⟩, p3, p4, p5⟩ := boxD hb1
  obtain ⟨⟨q0, q1, q2⟩, q3, q4, q5⟩ := boxD hb2
  rcases hkab with ⟨hkl, hke⟩ | ⟨hkl, hke⟩
  · have HKE := Lib.hid hke
    clear hke
    go_wp2_with fail
    refine (of_any w3 0 w.heap.size a.neg A1 n1 c1 xs1 a.e (M - a.e) g1 (by have := HS1.out; omega) sd1 hn1 (by omega) (by omega) _ (by have := HKE.out; omega)).mono ?_
    rintro e w4 ⟨g, ws, rfl, hB4, hg1, hg2, hS4, hnw⟩
    have hs4 := hB4.size
    replace g1 := g1.below hB4 (by have := HS1.out; omega)
    replace g2 := g2.below hB4 (by have := HS1.out; omega)
    replace hT1 := hT1.below hB4 (by have := HS1.out; omega)
    replace hb1 := (hB4.block _ (by have := HS1.out; omega)).trans hb1
    replace hb2 := (hB4.block _ (by have := HS1.out; omega)).trans hb2
    replace hb3 := (hB4.block _ (by have := HS1.out; omega)).trans hb3
    replace hB1 := hB1.trans (hB4.mono (by have := HS1.out; omega))
    have HNW := Lib.hid hnw
    clear hB4 p0 p1 p2 p3 p4 p5 q0 q1 q2 q3 q4 q5 hnw
    go_wp2_with fail
    have hSS : w4.drew.heap[w.heap.size + 1]? = w4.heap[w.heap.size + 1]? := rfl
    refine region_E (fun w' => w'.heap[w.heap.size + 1]? = w4.heap[w.heap.size + 1]?) [] (m := 7) (L := #[false, false, false, false, false, false, false]) (by kernel_rfl) (by rfl) (by rfl) ?_
    refine pureE (i := 0) (L := #[true, false, false, false, false, false, false]) (v := ?_) rfl (by rfl) (by kernel_rfl) (by kernel_rfl) (by kernel_rfl) (fun _ _ _ h => h) (by rfl) ?hy1 ?rest1
    case hy1 => intro w; go_simp; (try with_reducible rfl)
    try simp only [Act.put, List.setIfInBounds_toArray, List.set_cons_zero, List.set_cons_succ]
    refine pureE (i := 1) (L := #[true, true, false, false, false, false, false]) (v := ?_) rfl (by rfl) (by kernel_rfl) (by kernel_rfl) (by kernel_rfl) (fun _ _ _ h => h) (by rfl) ?hy2 ?rest2
    case hy2 => intro w; go_simp; (try with_reducible rfl)
    try simp only [Act.put, List.setIfInBounds_toArray, List.set_cons_zero, List.set_cons_succ]
    refine readE (i := 2) (L := #[true, true, true, false, false, false, false]) (v := .bool b.neg) rfl (by rfl) (by kernel_rfl) (by kernel_rfl) (by kernel_rfl) (fun _ _ _ h => h) (by assumption) (by rfl) ?hyA1 ?restA1
    case hyA1 =>
      intro w' h1
      have k := (boxD (h1.trans hb2)).1.1
      go_simp
    try simp only [Act.put, List.setIfInBounds_toArray, List.set_cons_zero, List.set_cons_succ]
    refine readE (i := 3) (L := #[true, true, true, true, false, false, false]) (v := .agg #[.bool b.neg, .slice A2 n2 c2, .int .i64 b.e]) rfl (by rfl) (by kernel_rfl) (by kernel_rfl) (by kernel_rfl) (fun _ _ _ h => h) (by assumption) (by rfl) ?hyB1 ?restB1
    case hyB1 =>
      intro w' h1
      obtain ⟨⟨k1, k2, k3⟩, _⟩ := boxD (h1.trans hb2)
      go_simp
    try simp only [Act.put, List.setIfInBounds_toArray, List.set_cons_zero, List.set_cons_succ]
    refine pureE (i := 4) (L := #[true, true, true, true, true, false, false]) (v := ?_) rfl (by rfl) (by kernel_rfl) (by kernel_rfl) (by kernel_rfl) (fun _ _ _ h => h) (by rfl) ?hy5 ?rest5
    case hy5 => intro w; go_simp; (try with_reducible rfl)
    try simp only [Act.put, List.setIfInBounds_toArray, List.set_cons_zero, List.set_cons_succ]
    refine stepK (i := 5) (L := #[true, true, true, true, true, true, false]) rfl (by rfl) (by kernel_rfl) (by rfl) (fun K hK => ?_)
    go_simp
    go_at_call 64
    refine (widen_any w4.drew 0 w.heap.size b.neg A2 n2 c2 xs2 b.e (M - b.e) (g2.drewN 1) (by show w.heap.size ≤ w4.heap.size; have := HS1.out; omega) sd2 hn2 (by omega) (by omega) _ (by have := HKE.out; omega)).mono ?_
    rintro e w5 ⟨us, rfl, hB5', hul, hud, hnu⟩
    have hB5 : Below w4.heap.size w4 w5 := (Below.refl _ w4).drew.trans hB5'
    clear hB5'
    have hs5 := hB5.size
    replace g1 := g1.below hB5 (by have := HS1.out; omega)
    replace hT1 := hT1.below hB5 (by have := HS1.out; omega)
    have hb2' := hB5.block (w.heap.size + 1) (by have := HS1.out; omega)
    replace hb3 := (hB5.block _ (by have := HS1.out; omega)).trans hb3
    replace hB1 := hB1.trans (hB5.mono (by have := HS1.out; omega))
    have hS5 := hS4.of_heap (hB5.block g hg2)
    have HNU := Lib.hid hnu
    clear hB5 hnu hS4
    refine hK _ _ ⟨fun _ _ => hb2', ?_⟩
    clear hK K
    try simp only [Act.put, List.setIfInBounds_toArray, List.set_cons_zero, List.set_cons_succ]
    obtain ⟨sr, mr, hpl⟩ : ∃ sr mr, plusS a.neg (num 4294967296 ws) b.neg (num 4294967296 us) = (sr, mr) := ⟨_, _, rfl⟩
    have hroom : num 4294967296 ws + num 4294967296 us < 4294967296 ^ 74 := by
      rw [HNW.out, HNU.out, SN1.out, SN2.out]
      exact sum_room (shift_lt ha.1 (by omega)) (shift_lt hb.1 (by omega))
    have hform : formed sr mr M = (r, code) := by
      have h1 := H.out
      unfold addD at h1
      rw [HK.out] at h1
      rw [HNW.out, HNU.out, SN1.out, SN2.out] at hpl
      rw [hpl] at h1
      exact h1
    have HPL := Lib.hid hpl
    have HR := Lib.hid hroom
    have HF := Lib.hid hform
    clear hpl hroom hform
    refine stepK (i := 6) (L := #[true, true, true, true, true, true, true]) rfl (by rfl) (by kernel_rfl) (by rfl) (fun K hK => ?_)
    go_simp
    go_at_call 63
    refine (add_any w5 g a.neg b.neg _ _ ws us hS5 (by omega) hul hud HR.out sr mr HPL.out).mono ?_
    rintro e w6 ⟨rfl, hO6, vs, hS6, hnv⟩
    have hs6 := hO6.size
    replace g1 := g1
    have hb6 := (hO6.block (w.heap.size + 1 + 1) (by have := HS1.out; omega) (by have := HS1.out; omega)).trans hb3
    have hT6 := hT1.keep (hO6.block 0 (by omega) (by have := HS1.out; omega))
    have hB6 := hO6.below hB1 (by have := HS1.out; omega) (by have := HS1.out; omega)
    refine hK _ _ ⟨fun _ h => (hO6.block _ (by have := HS1.out; omega) (by have := HS1.out; omega)).trans h, ?_⟩
    clear hK K hO6 g1 hb3 hT1 hB1 hS5
    try simp only [Act.put, List.setIfInBounds_toArray, List.set_cons_zero, List.set_cons_succ]
    refine doneE (by kernel_rfl) ?_ _
    go_wp2_with fail
    have hf : formed sr (num 4294967296 vs) b.e = (r, code) := by rw [hnv, ← HKE.out]; exact HF.out
    refine (form_any w6 g (by omega) sr _ b.e (by omega) vs hS6 hT6 r code hf).mono ?_
    rintro e w7 ⟨A', n', c', rfl, hc', hB7, hI7⟩
    have hs7 := hB7.size
    have hb7 := (hB7.block _ (by have := HS1.out; omega)).trans hb6
    have hBB := hB6.trans (hB7.mono (by have := HS1.out; omega))
    have HI := Lib.hid hI7
    obtain ⟨⟨x0, x1, x2⟩, x3, x4, x5⟩ := boxD hb7
    clear hf hS6 hT6 hB6 hb6 hB7 hI7 hnv
    go_wp2
    refine bodyPost_ret (v := .tuple #[.agg #[.bool r.neg, .slice A' n' c', .int .i64 r.e], .int .i64 code]) (by simp [results, Tryd.results20, go_sem, x0, x1, x2]) rfl ⟨A', n', c', rfl, hc', ?_, ?_⟩
    · exact ((hBB.setCell (by simp; omega) _).setCell (by simp; omega) _).setCell (by simp; omega) _
    · refine Ints.more (lo := w6.heap.size) (hi := w7.heap.size) ?_ (by have := HS1.out; omega) (by simp [World.setCell])
      exact ints_far (ints_far (ints_far HI.out (.inl (by have := HS1.out; simp; omega)) _) (.inl (by have := HS1.out; simp; omega)) _) (.inl (by have := HS1.out; simp; omega)) _
  · have HKE := Lib.hid hke
    clear hke
    go_wp2_with fail
    refine (of_any w3 0 w.heap.size a.neg A1 n1 c1 xs1 a.e (M - a.e) g1 (by have := HS1.out; omega) sd1 hn1 (by omega) (by omega) _ (by have := HKE.out; omega)).mono ?_
    rintro e w4 ⟨g, ws, rfl, hB4, hg1, hg2, hS4, hnw⟩
    have hs4 := hB4.size
    replace g1 := g1.below hB4 (by have := HS1.out; omega)
    replace g2 := g2.below hB4 (by have := HS1.out; omega)
    replace hT1 := hT1.below hB4 (by have := HS1.out; omega)
    replace hb1 := (hB4.block _ (by have := HS1.out; omega)).trans hb1
    replace hb2 := (hB4.block _ (by have := HS1.out; omega)).trans hb2
    replace hb3 := (hB4.block _ (by have := HS1.out; omega)).trans hb3
    replace hB1 := hB1.trans (hB4.mono (by have := HS1.out; omega))
    have HNW := Lib.hid hnw
    clear hB4 p0 p1 p2 p3 p4 p5 q0 q1 q2 q3 q4 q5 hnw
    go_wp2_with fail
    have hSS : w4.drew.heap[w.heap.size + 1]? = w4.heap[w.heap.size + 1]? := rfl
    refine region_E (fun w' => w'.heap[w.heap.size + 1]? = w4.heap[w.heap.size + 1]?) [] (m := 7) (L := #[false, false, false, false, false, false, false]) (by kernel_rfl) (by rfl) (by rfl) ?_
    refine pureE (i := 0) (L := #[true, false, false, false, false, false, false]) (v := ?_) rfl (by rfl) (by kernel_rfl) (by kernel_rfl) (by kernel_rfl) (fun _ _ _ h => h) (by rfl) ?hy8 ?rest8
    case hy8 => intro w; go_simp; (try with_reducible rfl)
    try simp only [Act.put, List.setIfInBounds_toArray, List.set_cons_zero, List.set_cons_succ]
    refine pureE (i := 1) (L := #[true, true, false, false, false, false, false]) (v := ?_) rfl (by rfl) (by kernel_rfl) (by kernel_rfl) (by kernel_rfl) (fun _ _ _ h => h) (by rfl) ?hy9 ?rest9
    case hy9 => intro w; go_simp; (try with_reducible rfl)
    try simp only [Act.put, List.setIfInBounds_toArray, List.set_cons_zero, List.set_cons_succ]
    refine readE (i := 2) (L := #[true, true, true, false, false, false, false]) (v := .bool b.neg) rfl (by rfl) (by kernel_rfl) (by kernel_rfl) (by kernel_rfl) (fun _ _ _ h => h) (by assumption) (by rfl) ?hyA2 ?restA2
    case hyA2 =>
      intro w' h1
      have k := (boxD (h1.trans hb2)).1.1
      go_simp
    try simp only [Act.put, List.setIfInBounds_toArray, List.set_cons_zero, List.set_cons_succ]
    refine readE (i := 3) (L := #[true, true, true, true, false, false, false]) (v := .agg #[.bool b.neg, .slice A2 n2 c2, .int .i64 b.e]) rfl (by rfl) (by kernel_rfl) (by kernel_rfl) (by kernel_rfl) (fun _ _ _ h => h) (by assumption) (by rfl) ?hyB2 ?restB2
    case hyB2 =>
      intro w' h1
      obtain ⟨⟨k1, k2, k3⟩, _⟩ := boxD (h1.trans hb2)
      go_simp
    try simp only [Act.put, List.setIfInBounds_toArray, List.set_cons_zero, List.set_cons_succ]
    refine pureE (i := 4) (L := #[true, true, true, true, true, false, false]) (v := ?_) rfl (by rfl) (by kernel_rfl) (by kernel_rfl) (by kernel_rfl) (fun _ _ _ h => h) (by rfl) ?hy12 ?rest12
    case hy12 => intro w; go_simp; (try with_reducible rfl)
    try simp only [Act.put, List.setIfInBounds_toArray, List.set_cons_zero, List.set_cons_succ]
    refine stepK (i := 5) (L := #[true, true, true, true, true, true, false]) rfl (by rfl) (by kernel_rfl) (by rfl) (fun K hK => ?_)
    go_simp
    go_at_call 64
    refine (widen_any w4.drew 0 w.heap.size b.neg A2 n2 c2 xs2 b.e (M - b.e) (g2.drewN 1) (by show w.heap.size ≤ w4.heap.size; have := HS1.out; omega) sd2 hn2 (by omega) (by omega) _ (by have := HKE.out; omega)).mono ?_
    rintro e w5 ⟨us, rfl, hB5', hul, hud, hnu⟩
    have hB5 : Below w4.heap.size w4 w5 := (Below.refl _ w4).drew.trans hB5'
    clear hB5'
    have hs5 := hB5.size
    replace g1 := g1.below hB5 (by have := HS1.out; omega)
    replace hT1 := hT1.below hB5 (by have := HS1.out; omega)
    have hb2' := hB5.block (w.heap.size + 1) (by have := HS1.out; omega)
    replace hb3 := (hB5.block _ (by have := HS1.out; omega)).trans hb3
    replace hB1 := hB1.trans (hB5.mono (by have := HS1.out; omega))
    have hS5 := hS4.of_heap (hB5.block g hg2)
    have HNU := Lib.hid hnu
    clear hB5 hnu hS4
    refine hK _ _ ⟨fun _ _ => hb2', ?_⟩
    clear hK K
    try simp only [Act.put, List.setIfInBounds_toArray, List.set_cons_zero, List.set_cons_succ]
    obtain ⟨sr, mr, hpl⟩ : ∃ sr mr, plusS a.neg (num 4294967296 ws) b.neg (num 4294967296 us) = (sr, mr) := ⟨_, _, rfl⟩
    have hroom : num 4294967296 ws + num 4294967296 us < 4294967296 ^ 74 := by
      rw [HNW.out, HNU.out, SN1.out, SN2.out]
      exact sum_room (shift_lt ha.1 (by omega)) (shift_lt hb.1 (by omega))
    have hform : formed sr mr M = (r, code) := by
      have h1 := H.out
      unfold addD at h1
      rw [HK.out] at h1
      rw [HNW.out, HNU.out, SN1.out, SN2.out] at hpl
      rw [hpl] at h1
      exact h1
    have HPL := Lib.hid hpl
    have HR := Lib.hid hroom
    have HF := Lib.hid hform
    clear hpl hroom hform
    refine stepK (i := 6) (L := #[true, true, true, true, true, true, true]) rfl (by rfl) (by kernel_rfl) (by rfl) (fun K hK => ?_)
    go_simp
    go_at_call 63
    refine (add_any w5 g a.neg b.neg _ _ ws us hS5 (by omega) hul hud HR.out sr mr HPL.out).mono ?_
    rintro e w6 ⟨rfl, hO6, vs, hS6, hnv⟩
    have hs6 := hO6.size
    replace g1 := g1
    have hb6 := (hO6.block (w.heap.size + 1 + 1) (by have := HS1.out; omega) (by have := HS1.out; omega)).trans hb3
    have hT6 := hT1.keep (hO6.block 0 (by omega) (by have := HS1.out; omega))
    have hB6 := hO6.below hB1 (by have := HS1.out; omega) (by have := HS1.out; omega)
    refine hK _ _ ⟨fun _ h => (hO6.block _ (by have := HS1.out; omega) (by have := HS1.out; omega)).trans h, ?_⟩
    clear hK K hO6 g1 hb3 hT1 hB1 hS5
    try simp only [Act.put, List.setIfInBounds_toArray, List.set_cons_zero, List.set_cons_succ]
    refine doneE (by kernel_rfl) ?_ _
    go_wp2_with fail
    have hf : formed sr (num 4294967296 vs) a.e = (r, code) := by rw [hnv, ← HKE.out]; exact HF.out
    refine (form_any w6 g (by omega) sr _ a.e (by omega) vs hS6 hT6 r code hf).mono ?_
    rintro e w7 ⟨A', n', c', rfl, hc', hB7, hI7⟩
    have hs7 := hB7.size
    have hb7 := (hB7.block _ (by have := HS1.out; omega)).trans hb6
    have hBB := hB6.trans (hB7.mono (by have := HS1.out; omega))
    have HI := Lib.hid hI7
    obtain ⟨⟨x0, x1, x2⟩, x3, x4, x5⟩ := boxD hb7
    clear hf hS6 hT6 hB6 hb6 hB7 hI7 hnv
    go_wp2
    refine bodyPost_ret (v := .tuple #[.agg #[.bool r.neg, .slice A' n' c', .int .i64 r.e], .int .i64 code]) (by simp [results, Tryd.results20, go_sem, x0, x1, x2]) rfl ⟨A', n', c', rfl, hc', ?_, ?_⟩
    · exact ((hBB.setCell (by simp; omega) _).setCell (by simp; omega) _).setCell (by simp; omega) _
    · refine Ints.more (lo := w6.heap.size) (hi := w7.heap.size) ?_ (by have := HS1.out; omega) (by simp [World.setCell])
      exact ints_far (ints_far (ints_far HI.out (.inl (by have := HS1.out; simp; omega)) _) (.inl (by have := HS1.out; simp; omega)) _) (.inl (by have := HS1.out; simp; omega)) _
end Dy
end Go.Proofs.YtlbkepiflhchdaaDoor
namespace Go.Proofs.YtlbkepiflhchdaaDoor
open Go.RowKit
namespace Dy
open Dp
/-- What is answered of dyads that may not be. -/
def Bad (w : World) (e : Ending) (w' : World) : Prop := e = .returned (.tuple #[.agg #[.bool false, .slice none 0 0, .int .i64 0], .int .i64 8]) ∧ Below w.heap.size w w'
set_option maxHeartbeats 1600000 in
set_option maxRecDepth 100000 in
/-- dyad.Sub: dyads that may not be. -/
theorem Sub_bad (w : World) (s1 s2 : Bool) (A1 A2 : Option Addr) (n1 c1 n2 c2 : Nat) (xs1 xs2 : List Int) (e1 e2 : Int) (h1 : Ints w 0 w.heap.size .u32 A1 n1 xs1) (h2 : Ints w 0 w.heap.size .u32 A2 n2 xs2) (h : ¬ MayD s1 xs1 e1 ∨ ¬ MayD s2 xs2 e2) :
    Calls Tryd.prog 22 #[.agg #[.bool s1, .slice A1 n1 c1, .int .i64 e1], .agg #[.bool s2, .slice A2 n2 c2, .int .i64 e2]] w (Bad w) := by
  generalize hw1 : ((w.alloc (.cells #[.bool s1, .slice A1 n1 c1, .int .i64 e1] 24)).alloc (.cells #[.bool s2, .slice A2 n2 c2, .int .i64 e2] 24)).alloc (.cells #[.bool false, .slice none 0 0, .int .i64 0] 24) = w1
  have hs1 : w1.heap.size = w.heap.size + 3 := by rw [← hw1]; simp
  have HS1 := Lib.hid hs1
  have hB1 : Below w.heap.size w w1 := by rw [← hw1]; exact (((Below.refl _ w).alloc (Nat.le_refl _) _).alloc (by simp) _).alloc (by simp; omega) _
  have hb1 : w1.heap[w.heap.size]? = some (.cells #[.bool s1, .slice A1 n1 c1, .int .i64 e1] 24 (0, 0)) := by
    rw [← hw1, Below.heap_alloc _ _ _ (by simp; omega), Below.heap_alloc _ _ _ (by simp)]
    exact heap_alloc_last _ _
  have hb2 : w1.heap[w.heap.size + 1]? = some (.cells #[.bool s2, .slice A2 n2 c2, .int .i64 e2] 24 (0, 0)) := by
    rw [← hw1, Below.heap_alloc _ _ _ (by simp)]
    exact heap_alloc2_new _ _ _
  have hb3 : w1.heap[w.heap.size + 1 + 1]? = some (.cells #[.bool false, .slice none 0 0, .int .i64 0] 24 (0, 0)) := by
    rw [← hw1]
    have := heap_alloc_last ((w.alloc (.cells #[.bool s1, .slice A1 n1 c1, .int .i64 e1] 24)).alloc (.cells #[.bool s2, .slice A2 n2 c2, .int .i64 e2] 24)) (.cells #[.bool false, .slice none 0 0, .int .i64 0] 24)
    simpa using this
  have g1 := h1.below hB1 (Nat.le_refl _)
  have g2 := h2.below hB1 (Nat.le_refl _)
  clear hs1
  obtain ⟨⟨p0, p1, p2⟩, p3, p4, p5⟩ := boxD hb1
  obtain ⟨⟨q0, q1, q2⟩, q3, q4, q5⟩ := boxD hb2
  by_cases hm : MayD s1 xs1 e1
  · have hm2 := h.resolve_left (fun k => k hm)
    clear h
    go_enter Tryd.func22, Tryd.ntmps22
    go_wp2_with fail
    refine (Check_ok w1 0 w.heap.size s1 A1 n1 c1 xs1 e1 g1 (by have := HS1.out; omega) hm).mono ?_
    rintro e w2 ⟨rfl, hB2⟩
    have hs2 := hB2.size
    replace g2 := g2.below hB2 (by have := HS1.out; omega)
    replace hb2 := (hB2.block _ (by have := HS1.out; omega)).trans hb2
    replace hb3 := (hB2.block _ (by have := HS1.out; omega)).trans hb3
    replace hB1 := hB1.trans (hB2.mono (by have := HS1.out; omega))
    clear hB2 p0 p1 p2 p3 p4 p5 q0 q1 q2 q3 q4 q5 hw1 hm
    obtain ⟨⟨q0, q1, q2⟩, q3, q4, q5⟩ := boxD hb2
    go_wp2_with fail
    refine (Check_bad w2 0 w.heap.size s2 A2 n2 c2 xs2 e2 g2 (by have := HS1.out; omega) hm2).mono ?_
    rintro e w3 ⟨rfl, hB2⟩
    replace hb3 := (hB2.block _ (by have := HS1.out; omega)).trans hb3
    replace hB1 := hB1.trans (hB2.mono (by have := HS1.out; omega))
    clear hB2 q0 q1 q2 q3 q4 q5 hm2
    obtain ⟨⟨x0, x1, x2⟩, x3, x4, x5⟩ := boxD hb3
    go_wp2
    refine bodyPost_ret (v := .tuple #[.agg #[.bool false, .slice none 0 0, .int .i64 0], .int .i64 8]) (by simp [results, Tryd.results22, go_sem, x0, x1, x2]) rfl ⟨rfl, ?_⟩
    exact ((hB1.setCell (by simp; omega) _).setCell (by simp; omega) _).setCell (by simp; omega) _
  · clear h
    go_enter Tryd.func22, Tryd.ntmps22
    go_wp2_with fail
    refine (Check_bad w1 0 w.heap.size s1 A1 n1 c1 xs1 e1 g1 (by have := HS1.out; omega) hm).mono ?_
    rintro e w2 ⟨rfl, hB2⟩
    replace hb3 := (hB2.block _ (by have := HS1.out; omega)).trans hb3
    replace hB1 := hB1.trans (hB2.mono (by have := HS1.out; omega))
    clear hB2 p0 p1 p2 p3 p4 p5 q0 q1 q2 q3 q4 q5 hw1 hm
    obtain ⟨⟨x0, x1, x2⟩, x3, x4, x5⟩ := boxD hb3
    go_wp2
    refine bodyPost_ret (v := .tuple #[.agg #[.bool false, .slice none 0 0, .int .i64 0], .int .i64 8]) (by simp [results, Tryd.results22, go_sem, x0, x1, x2]) rfl ⟨rfl, ?_⟩
    exact ((hB1.setCell (by simp; omega) _).setCell (by simp; omega) _).setCell (by simp; omega) _
end Dy
end Go.Proofs.YtlbkepiflhchdaaDoor
namespace Go.Proofs.YtlbkepiflhchdaaDoor
open Go.RowKit
namespace Dy
open Dp
set_option maxHeartbeats 800000 in
set_option maxRecDepth 100000 in
/-- dyad.Sub$1. -/
theorem Sub1_any (w : World) (b : Nat) (s : Bool) (A : Option Addr) (n c : Nat) (ex : Int) (hb : w.heap[b]? = some (.cells #[.bool s, .slice A n c, .int .i64 ex] 24 (0, 0))) (hn : n ≤ 1000000) (s' : Bool) (hs : (!s && decide (n ≠ 0)) = s') :
    Calls Tryd.prog 70 #[.pointer (some ⟨b, 0, none⟩)] w fun e w' => e = .returned (.agg #[.bool s', .slice A n c, .int .i64 ex]) ∧ OnlyAt b w w' := by
  have hlt : b < w.heap.size := (Array.getElem?_eq_some_iff.1 hb).1
  generalize hw1 : w.alloc (.cells #[.bool false, .slice none 0 0, .int .i64 0] 24) = w1
  have hO1 : OnlyAt b w w1 := by rw [← hw1]; exact (OnlyAt.refl b w).alloc _
  have hb1 : w1.heap[b]? = some (.cells #[.bool s, .slice A n c, .int .i64 ex] 24 (0, 0)) := by rw [← hw1]; exact (Below.heap_alloc _ _ _ hlt).trans hb
  have hr1 : w1.heap[w.heap.size]? = some (.cells #[.bool false, .slice none 0 0, .int .i64 0] 24 (0, 0)) := by rw [← hw1]; exact heap_alloc_last _ _
  obtain ⟨⟨p0, p1, p2⟩, p3, p4, p5⟩ := boxD hb1
  obtain ⟨⟨q0, q1, q2⟩, q3, q4, q5⟩ := boxD hr1
  have hne : b ≠ w.heap.size := Nat.ne_of_lt hlt
  have hne2 : w.heap.size ≠ b := fun e => hne e.symm
  cases s
  · by_cases h0 : n = 0
    · subst h0
      have : s' = false := by rw [← hs]; rfl
      subst this
      clear hs
      go_enter Tryd.func70, Tryd.ntmps70
      go_wp2
      refine bodyPost_ret (v := .agg #[.bool false, .slice A 0 c, .int .i64 ex]) (by simp [results, Tryd.results70, go_sem, q0, q1, q2]) rfl ⟨rfl, ?_⟩
      exact (((hO1.setCell _).setFar (Nat.le_refl _) 0 _).setFar (Nat.le_refl _) 1 _).setFar (Nat.le_refl _) 2 _
    · have : s' = true := by rw [← hs]; simp [h0]
      subst this
      have h1 : (0 : Int) < n := by omega
      have h2 : 0 < n := by omega
      clear hs
      go_enter Tryd.func70, Tryd.ntmps70
      go_wp2
      refine bodyPost_ret (v := .agg #[.bool true, .slice A n c, .int .i64 ex]) (by simp [results, Tryd.results70, go_sem, q0, q1, q2, h2]) rfl ⟨rfl, ?_⟩
      exact (((hO1.setCell _).setFar (Nat.le_refl _) 0 _).setFar (Nat.le_refl _) 1 _).setFar (Nat.le_refl _) 2 _
  · have : s' = false := by rw [← hs]; rfl
    subst this
    clear hs
    go_enter Tryd.func70, Tryd.ntmps70
    go_wp2
    refine bodyPost_ret (v := .agg #[.bool false, .slice A n c, .int .i64 ex]) (by simp [results, Tryd.results70, go_sem, q0, q1, q2]) rfl ⟨rfl, ?_⟩
    exact (((hO1.setCell _).setFar (Nat.le_refl _) 0 _).setFar (Nat.le_refl _) 1 _).setFar (Nat.le_refl _) 2 _
theorem canon_len0 {w : World} {lo hi : Nat} {A : Option Addr} {n : Nat} {m : Nat} (h : Ints w lo hi .u32 A n (canon 4294967296 m)) : decide (n ≠ 0) = decide (m ≠ 0) := by
  have hl := h.len
  by_cases h0 : m = 0
  · subst h0
    rw [canon_zero] at hl
    simp at hl
    simp [← hl]
  · have hn : n ≠ 0 := fun e => by
      rw [e] at hl
      exact h0 (canon_nil (B := 4294967296) (by decide) (List.eq_nil_of_length_eq_zero hl))
    simp [h0, hn]
set_option maxHeartbeats 6400000 in
set_option maxRecDepth 100000 in
/-- dyad.Sub: dyads that may be. -/
theorem Sub_ok (w : World) (a b : Dn) (ha : a.May) (hb : b.May) (A1 : Option Addr) (n1 c1 : Nat) (h1 : Ints w 0 w.heap.size .u32 A1 n1 (canon 4294967296 a.m)) (A2 : Option Addr) (n2 c2 : Nat) (h2 : Ints w 0 w.heap.size .u32 A2 n2 (canon 4294967296 b.m)) (hT : Tab w) (r : Dn) (code : Int) (h : subD a b = (r, code)) :
    Calls Tryd.prog 22 #[.agg #[.bool a.neg, .slice A1 n1 c1, .int .i64 a.e], .agg #[.bool b.neg, .slice A2 n2 c2, .int .i64 b.e]] w (Formed w r code) := by
  have hmf : ∀ (fn : Fn) (first cap : Array Value) (w : World), (Instr.makeFunc fn first cap).run Tryd.prog w = .ok (.func fn first cap) w := fun _ _ _ _ => rfl
  have hn1 := ints_may h1 ha
  have hn2 := ints_may h2 hb
  have HM1 := Lib.hid (dn_may ha)
  have HM2 := Lib.hid (dn_may hb)
  have H := Lib.hid h
  have h0 := hT.lt
  have HN := Lib.hid (show (!b.neg && decide (n2 ≠ 0)) = (negD b).neg by rw [canon_len0 h2]; rfl)
  clear h
  generalize hw1 : ((w.alloc (.cells #[.bool a.neg, .slice A1 n1 c1, .int .i64 a.e] 24)).alloc (.cells #[.bool b.neg, .slice A2 n2 c2, .int .i64 b.e] 24)).alloc (.cells #[.bool false, .slice none 0 0, .int .i64 0] 24) = w1
  have hs1 : w1.heap.size = w.heap.size + 3 := by rw [← hw1]; simp
  have HS1 := Lib.hid hs1
  have hB1 : Below w.heap.size w w1 := by rw [← hw1]; exact (((Below.refl _ w).alloc (Nat.le_refl _) _).alloc (by simp) _).alloc (by simp; omega) _
  have hb1 : w1.heap[w.heap.size]? = some (.cells #[.bool a.neg, .slice A1 n1 c1, .int .i64 a.e] 24 (0, 0)) := by
    rw [← hw1, Below.heap_alloc _ _ _ (by simp; omega), Below.heap_alloc _ _ _ (by simp)]
    exact heap_alloc_last _ _
  have hb2 : w1.heap[w.heap.size + 1]? = some (.cells #[.bool b.neg, .slice A2 n2 c2, .int .i64 b.e] 24 (0, 0)) := by
    rw [← hw1, Below.heap_alloc _ _ _ (by simp)]
    exact heap_alloc2_new _ _ _
  have hb3 : w1.heap[w.heap.size + 1 + 1]? = some (.cells #[.bool false, .slice none 0 0, .int .i64 0] 24 (0, 0)) := by
    rw [← hw1]
    have := heap_alloc_last ((w.alloc (.cells #[.bool a.neg, .slice A1 n1 c1, .int .i64 a.e] 24)).alloc (.cells #[.bool b.neg, .slice A2 n2 c2, .int .i64 b.e] 24)) (.cells #[.bool false, .slice none 0 0, .int .i64 0] 24)
    simpa using this
  have g1 := h1.below hB1 (Nat.le_refl _)
  have g2 := h2.below hB1 (Nat.le_refl _)
  have hT1 := hT.below hB1 hT.lt
  clear hs1
  obtain ⟨⟨p0, p1, p2⟩, p3, p4, p5⟩ := boxD hb1
  obtain ⟨⟨q0, q1, q2⟩, q3, q4, q5⟩ := boxD hb2
  go_enter Tryd.func22, Tryd.ntmps22
  go_wp2_with fail
  refine (Check_ok w1 0 w.heap.size a.neg A1 n1 c1 _ a.e g1 (by have := HS1.out; omega) HM1.out).mono ?_
  rintro e w2 ⟨rfl, hB2⟩
  have hs2 := hB2.size
  replace g1 := g1.below hB2 (by have := HS1.out; omega)
  replace g2 := g2.below hB2 (by have := HS1.out; omega)
  replace hT1 := hT1.below hB2 (by have := HS1.out; omega)
  replace hb1 := (hB2.block _ (by have := HS1.out; omega)).trans hb1
  replace hb2 := (hB2.block _ (by have := HS1.out; omega)).trans hb2
  replace hb3 := (hB2.block _ (by have := HS1.out; omega)).trans hb3
  replace hB1 := hB1.trans (hB2.mono (by have := HS1.out; omega))
  clear hB2 p0 p1 p2 p3 p4 p5 q0 q1 q2 q3 q4 q5 hw1
  obtain ⟨⟨p0, p1, p2⟩, p3, p4, p5⟩ := boxD hb1
  obtain ⟨⟨q0, q1, q2⟩, q3, q4, q5⟩ := boxD hb2
  go_wp2_with fail
  refine (Check_ok w2 0 w.heap.size b.neg A2 n2 c2 _ b.e g2 (by have := HS1.out; omega) HM2.out).mono ?_
  rintro e w3 ⟨rfl, hB2⟩
  have hs3 := hB2.size
  replace g1 := g1.below hB2 (by have := HS1.out; omega)
  replace g2 := g2.below hB2 (by have := HS1.out; omega)
  replace hT1 := hT1.below hB2 (by have := HS1.out; omega)
  replace hb1 := (hB2.block _ (by have := HS1.out; omega)).trans hb1
  replace hb2 := (hB2.block _ (by have := HS1.out; omega)).trans hb2
  replace hb3 := (hB2.block _ (by have := HS1.out; omega)).trans hb3
  replace hB1 := hB1.trans (hB2.mono (by have := HS1.out; omega))
  clear hB2 p0 p1 p2 p3 p4 p5 q0 q1 q2 q3 q4 q5
  obtain ⟨⟨p0, p1, p2⟩, p3, p4, p5⟩ := boxD hb1
  obtain ⟨⟨q0, q1, q2⟩, q3, q4, q5⟩ := boxD hb2
  go_wp2_with fail
  have hSS : w3.drew.heap[w.heap.size]? = w3.heap[w.heap.size]? := rfl
  refine region_E (fun w' => w'.heap[w.heap.size]? = w3.heap[w.heap.size]?) [] (m := 8) (L := #[false, false, false, false, false, false, false, false]) (by kernel_rfl) (by rfl) (by rfl) ?_
  refine readE (i := 0) (L := #[true, false, false, false, false, false, false, false]) (v := .agg #[.bool a.neg, .slice A1 n1 c1, .int .i64 a.e]) rfl (by rfl) (by kernel_rfl) (by kernel_rfl) (by kernel_rfl) (fun _ _ _ h => h) (by assumption) (by rfl) ?hyA ?restA
  case hyA =>
    intro w' h1
    obtain ⟨⟨k1, k2, k3⟩, _⟩ := boxD (h1.trans hb1)
    go_simp
  try simp only [Act.put, List.setIfInBounds_toArray, List.set_cons_zero, List.set_cons_succ]
  refine pureE (i := 1) (L := #[true, true, false, false, false, false, false, false]) (v := ?_) rfl (by rfl) (by kernel_rfl) (by kernel_rfl) (by kernel_rfl) (fun _ _ _ h => h) (by rfl) ?hy16 ?rest16
  case hy16 => intro w; go_simp; (try with_reducible rfl)
  try simp only [Act.put, List.setIfInBounds_toArray, List.set_cons_zero, List.set_cons_succ]
  refine stepK (i := 2) (L := #[true, true, true, false, false, false, false, false]) rfl (by rfl) (by kernel_rfl) (by rfl) (fun K hK => ?_)
  go_simp
  go_at_call 70
  refine (Sub1_any w3.drew (w.heap.size + 1) b.neg A2 n2 c2 b.e hb2 (by omega) (negD b).neg HN.out).mono ?_
  rintro e w4 ⟨rfl, hO4⟩
  have hs4 : w3.heap.size ≤ w4.heap.size := hO4.size
  have hT4 := hT1.keep (hO4.block 0 (by show 0 < w3.heap.size; have := HS1.out; omega) (by omega))
  have hb14 := hO4.block w.heap.size (by show w.heap.size < w3.heap.size; have := HS1.out; omega) (by omega)
  have hb4 := (hO4.block (w.heap.size + 1 + 1) (by show w.heap.size + 1 + 1 < w3.heap.size; have := HS1.out; omega) (by omega)).trans hb3
  have hB4 := hO4.below hB1.drew (by omega) (by show w.heap.size ≤ w3.heap.size; have := HS1.out; omega)
  have g14 := (h1.below hB4 (Nat.le_refl _)).more (lo' := 0) (hi' := w4.heap.size) (Nat.le_refl _) (by have := HS1.out; omega)
  have g24 := (h2.below hB4 (Nat.le_refl _)).more (lo' := 0) (hi' := w4.heap.size) (Nat.le_refl _) (by have := HS1.out; omega)
  refine hK _ _ ⟨fun _ _ => hb14, ?_⟩
  clear hK K hO4 g1 g2 hT1 hB1 hb1 hb2 hb3 p0 p1 p2 p3 p4 p5 q0 q1 q2 q3 q4 q5 hSS
  try simp only [Act.put, List.setIfInBounds_toArray, List.set_cons_zero, List.set_cons_succ]
  refine stepK (i := 3) (L := #[true, true, true, true, false, false, false, false]) rfl (by rfl) (by kernel_rfl) (by rfl) (fun K hK => ?_)
  go_simp
  go_at_call 20
  refine (Add_ok w4 a (negD b) ha (neg_may hb) A1 n1 c1 g14 A2 n2 c2 g24 hT4 r code H.out).mono ?_
  rintro e w5 ⟨A', n', c', rfl, hc', hB5, hI5⟩
  have hs5 := hB5.size
  have hb5 := (hB5.block _ (by have := HS1.out; omega)).trans hb4
  have hBB := hB4.trans (hB5.mono (by have := HS1.out; omega))
  have hb15 := hB5.block w.heap.size (by have := HS1.out; omega)
  have HI := Lib.hid hI5
  obtain ⟨⟨x0, x1, x2⟩, x3, x4, x5⟩ := boxD hb5
  refine hK _ _ ⟨fun _ h => hb15.trans h, ?_⟩
  clear hK K hb4 hB4 hB5 hI5 g14 g24 hT4
  try simp only [Act.put, List.setIfInBounds_toArray, List.set_cons_zero, List.set_cons_succ]
  refine pureE (i := 4) (L := #[true, true, true, true, true, false, false, false]) (v := ?_) rfl (by rfl) (by kernel_rfl) (by kernel_rfl) (by kernel_rfl) (fun _ _ _ h => h) (by rfl) ?hy19 ?rest19
  case hy19 => intro w; go_simp; (try with_reducible rfl)
  try simp only [Act.put, List.setIfInBounds_toArray, List.set_cons_zero, List.set_cons_succ]
  refine pureE (i := 5) (L := #[true, true, true, true, true, true, false, false]) (v := ?_) rfl (by rfl) (by kernel_rfl) (by kernel_rfl) (by kernel_rfl) (fun _ _ _ h => h) (by rfl) ?hy20 ?rest20
  case hy20 => intro w; go_simp; (try with_reducible rfl)
  try simp only [Act.put, List.setIfInBounds_toArray, List.set_cons_zero, List.set_cons_succ]
  refine stepK (i := 6) (L := #[true, true, true, true, true, true, true, false]) rfl (by rfl) (by kernel_rfl) (by rfl) (fun K hK => ?_)
  go_simp
  have hbx := setCell3_other w5 (g := w.heap.size + 1 + 1) (k := w.heap.size) (by omega) (.bool r.neg) (.slice A' n' c') (.int .i64 r.e)
  refine hK _ _ ⟨fun _ h => hbx.trans h, ?_⟩
  clear hK K
  try simp only [Act.put, List.setIfInBounds_toArray, List.set_cons_zero, List.set_cons_succ]
  refine pureE (i := 7) (L := #[true, true, true, true, true, true, true, true]) (v := ?_) rfl (by rfl) (by kernel_rfl) (by kernel_rfl) (by kernel_rfl) (fun _ _ _ h => h) (by rfl) ?hy22 ?rest22
  case hy22 => intro w; go_simp; (try with_reducible rfl)
  try simp only [Act.put, List.setIfInBounds_toArray, List.set_cons_zero, List.set_cons_succ]
  refine doneE (by kernel_rfl) ?_ _
  go_wp2
  refine bodyPost_ret (v := .tuple #[.agg #[.bool r.neg, .slice A' n' c', .int .i64 r.e], .int .i64 code]) (by simp [results, Tryd.results22, go_sem, x0, x1, x2]) rfl ⟨A', n', c', rfl, hc', ?_, ?_⟩
  · exact ((hBB.setCell (by simp; omega) _).setCell (by simp; omega) _).setCell (by simp; omega) _
  · refine Ints.more (lo := w4.heap.size) (hi := w5.heap.size) ?_ (by have := HS1.out; omega) (by simp [World.setCell])
    exact ints_far (ints_far (ints_far HI.out (.inl (by have := HS1.out; simp; omega)) _) (.inl (by have := HS1.out; simp; omega)) _) (.inl (by have := HS1.out; simp; omega)) _
end Dy
end Go.Proofs.YtlbkepiflhchdaaDoor
namespace Go.Proofs.YtlbkepiflhchdaaDoor
open Go.RowKit
namespace Dy
open Dp
theorem heapAll {g : Nat} {w : World} {x} (o) (h : w.heap[g]? = some x) : (w.alloc o).heap[g]? = some x := (Below.heap_alloc _ _ _ (Array.getElem?_eq_some_iff.1 h).1).trans h
end Dy
end Go.Proofs.YtlbkepiflhchdaaDoor
namespace Go.Proofs.YtlbkepiflhchdaaDoor
open Go.RowKit
theorem lt_of_heapP {W : World} {g : Nat} {o : Obj} (h : W.heap[g]? = some o) : g < W.heap.size := (Array.getElem?_eq_some_iff.1 h).1
theorem heap_newP (w : World) (o : Obj) (g : Nat) (h : g = w.heap.size) : (w.alloc o).heap[g]? = some o := by
  subst h
  exact World.alloc_heap_new w o
theorem drewN_add (w : World) (a b : Nat) : (w.drewN a).drewN b = w.drewN (a + b) := by simp [World.drewN, Nat.add_assoc]
namespace Pa
/-- Are two lists of numbers the same? -/
def Sm (a b : List Int) : Bool := a == b
theorem Sm_refl (a : List Int) : Sm a a = true := beq_self_eq_true _
theorem Sm_len {a b : List Int} (h : a.length ≠ b.length) : Sm a b = false := by
  unfold Sm
  rw [beq_eq_false_iff_ne]
  exact fun e => h (by rw [e])
theorem Sm_at {a b : List Int} {k : Nat} (h : a[k]?.getD 0 ≠ b[k]?.getD 0) : Sm a b = false := by
  unfold Sm
  rw [beq_eq_false_iff_ne]
  exact fun e => h (by rw [e])
theorem take_next {a b : List Int} {k : Nat} (h1 : k < a.length) (h2 : k < b.length) (h : a.take k = b.take k) (he : a[k]?.getD 0 = b[k]?.getD 0) : a.take (k + 1) = b.take (k + 1) := by
  rw [List.take_succ_eq_append_getElem h1, List.take_succ_eq_append_getElem h2, h]
  rw [List.getElem?_eq_getElem h1, List.getElem?_eq_getElem h2] at he
  simp only [Option.getD_some] at he
  rw [he]
end Pa
end Go.Proofs.YtlbkepiflhchdaaDoor
namespace Go.Proofs.YtlbkepiflhchdaaDoor
open Go.RowKit
namespace Pa
theorem infoU32 : (Tryd.prog.info? 52).map (fun i => (i.zero, i.size, i.bytes)) = some (some (.int .u32 0), 1, 4) := by kernel_rfl
theorem u32_one (xs : List Int) : ∀ u ∈ xs.map (Value.int .u32), u.oneCell' = true := fun u hu => by
  obtain ⟨x, _, rfl⟩ := List.mem_map.1 hu
  rfl
/-- A dyad's datum: whether it is below 0, its limbs, its exponent. -/
structure Dy where
  neg : Bool
  limbs : List Int
  exp : Int
def Dy.same (a b : Dy) : Bool := a.neg == b.neg && (a.exp == b.exp && Sm a.limbs b.limbs)
theorem Dy.same_refl (a : Dy) : a.same a = true := by simp [Dy.same, Sm_refl]
end Pa
end Go.Proofs.YtlbkepiflhchdaaDoor
namespace Go.Proofs.YtlbkepiflhchdaaDoor
open Go.RowKit
namespace Pa
/-- The cells of a box of three behind a callee. -/
theorem boxP3 {w : World} {g : Nat} {x y z : Value} {t : TypeId} (h : w.heap[g]? = some (.cells #[x, y, z] t (0, 0))) :
    (w.cell? ⟨g, 0, none⟩ = some x ∧ w.cell? ⟨g, 1, none⟩ = some y ∧ w.cell? ⟨g, 2, none⟩ = some z) ∧ (w.frozen? ⟨g, 0, none⟩ = false ∧ w.frozen? ⟨g, 1, none⟩ = false ∧ w.frozen? ⟨g, 2, none⟩ = false) :=
  ⟨⟨cell_of_row w g 0 _ t _ h, cell_of_row w g 1 _ t _ h, cell_of_row w g 2 _ t _ h⟩, frozen_of_row w g 0 _ t h, frozen_of_row w g 1 _ t h, frozen_of_row w g 2 _ t h⟩
theorem heapKeep {base g : Nat} {w w' : World} {x} (hb : Below base w w') (hg : g < base) (h : w.heap[g]? = some x) : w'.heap[g]? = some x := (hb.block _ hg).trans h
theorem heapAll {g : Nat} {w : World} {x} (o) (h : w.heap[g]? = some x) : (w.alloc o).heap[g]? = some x := (Below.heap_alloc _ _ _ (lt_of_heapP h)).trans h
theorem ints_far {w : World} {lo hi : Nat} {k : IntKind} {A : Option Addr} {n : Nat} {xs : List Int} (h : Ints w lo hi k A n xs) {p : Addr} (hp : p.block < lo ∨ hi ≤ p.block) (u : Value) : Ints (w.setCell p u) lo hi k A n xs :=
  ⟨h.len, h.wf, h.big, fun hn => by
    obtain ⟨b, off, e, h1, h2, hc⟩ := h.row hn
    exact ⟨b, off, e, h1, h2, fun j hj => ⟨(World.cell?_setCell_other w p _ u (fun e => by subst e; simp at hp; omega)).trans (hc j hj).1, (World.frozen?_setCell ..).trans (hc j hj).2⟩⟩⟩
theorem own_emptyg (w : World) (g base : Nat) (e : TypeId) (size : Nat) (hg : g = w.heap.size) (h : base ≤ w.heap.size) : (w.alloc (.cells #[] e)).ownsRow base e size (.slice (some ⟨g, 0, none⟩) 0 0) 0 [] := by
  subst hg
  exact own_empty w base e size h
set_option maxHeartbeats 1600000 in
/-- headcountref02.Twin. -/
theorem rTwin_any (w : World) (s : Bool) (A : Option Addr) (n c : Nat) (xs : List Int) (e : Int) (hX : Ints w 0 w.heap.size .u32 A n xs) (hn : n ≤ 1000000) :
    Calls Tryd.prog 19 #[.agg #[.bool s, .slice A n c, .int .i64 e]] w fun r w' => ∃ A' c', r = .returned (.agg #[.bool s, .slice A' n c', .int .i64 e]) ∧ n ≤ c' ∧ Below w.heap.size w w' ∧ w.heap.size < w'.heap.size ∧ Ints w' (w.heap.size + 2) w'.heap.size .u32 A' n xs := by
  have hxw := Lib.hid hX.wf
  have hbig := hX.big
  have hX2 := (hX.alloc (Nat.le_refl _) (.cells #[.bool s, .slice A n c, .int .i64 e] 24)).alloc (by simp) (.cells #[.bool false, .slice none 0 0, .int .i64 0] 24)
  obtain ⟨i0, hi0, hz0, hz1, hz2⟩ := info_parts infoU32
  go_enter Tryd.func19, Tryd.ntmps19
  go_wp2_with (first
    | (at_builtin; refine wpList_append_raw _ rfl (.tmp 3) (.tmp 5) 22 rfl (w.heap.size + 1 + 1) 52 i0 _ 1 4 Tryd.underlying22 hi0 hz0 hz1 hz2 rfl (by decide) _ _ _ rfl (own_emptyg _ _ _ _ 1 (by simp) (by simp)) _ _ _ n _ _ rfl (hX2.alloc (by simp; omega) _).raw ?c1 ?c2 ?c3 ?c4 ?_))
  case c1 => exact u32_one _
  case c2 => unfold maxLen; omega
  case c3 => omega
  case c4 => simp
  intro A2 c2 w1 hown1 hgrow1 _
  have hb1 : Below ((w.alloc (.cells #[.bool s, .slice A n c, .int .i64 e] 24)).alloc (.cells #[.bool false, .slice none 0 0, .int .i64 0] 24)).heap.size ((w.alloc (.cells #[.bool s, .slice A n c, .int .i64 e] 24)).alloc (.cells #[.bool false, .slice none 0 0, .int .i64 0] 24)) w1 := ((Below.refl _ _).alloc (Nat.le_refl _) _).grown hgrow1 (by simp) (fun q hq => by simp [Value.ownBlock] at hq; simp; omega)
  have hc2 := own_cap hown1
  clear hgrow1
  (try simp at hown1)
  have hD := Ints.of_own hown1 hxw.out hbig
  have hs1 := hb1.size
  simp at hs1
  have G1 := heapKeep hb1 (by simp; omega) (heapAll (.cells #[.bool false, .slice none 0 0, .int .i64 0] 24) (heap_newP w (.cells #[.bool s, .slice A n c, .int .i64 e] 24) _ rfl))
  have G2 := heapKeep hb1 (by simp) (heap_newP (w.alloc (.cells #[.bool s, .slice A n c, .int .i64 e] 24)) (.cells #[.bool false, .slice none 0 0, .int .i64 0] 24) (w.heap.size + 1) (by simp))
  obtain ⟨⟨k1, k2, k3⟩, k4, k5, k6⟩ := boxP3 G1
  obtain ⟨⟨p1, p2, p3⟩, p4, p5, p6⟩ := boxP3 G2
  have hbb := (((Below.refl w.heap.size w).alloc (Nat.le_refl _) (.cells #[.bool s, .slice A n c, .int .i64 e] 24)).alloc (by simp) (.cells #[.bool false, .slice none 0 0, .int .i64 0] 24)).trans (hb1.mono (by simp; omega))
  clear hb1 hown1 G1 G2
  go_wp2
  refine bodyPost_ret (v := .agg #[.bool s, .slice A2 n c2, .int .i64 e]) (by simp [results, Tryd.results19, go_sem, p1, p2, p3]) rfl ⟨A2, c2, rfl, hc2, ?_, ?_, ?_⟩
  · repeat (refine Below.setCell ?_ (by simp; try omega) _)
    exact hbb
  · simp [World.setCell]
    omega
  · refine Ints.more (lo := w.heap.size + 2) (hi := w1.heap.size) ?_ (Nat.le_refl _) (by simp [World.setCell])
    repeat (refine ints_far ?_ (by simp; try omega) _)
    exact hD
set_option maxHeartbeats 800000 in
/-- headcountref01.Same. -/
theorem r1Same_any (w : World) (lo hi lo' hi' : Nat) (A A' : Option Addr) (n c n' c' : Nat) (xs ys : List Int) (hX : Ints w lo hi .u32 A n xs) (hY : Ints w lo' hi' .u32 A' n' ys) (r : Bool) (hr : Sm xs ys = r) :
    Calls Tryd.prog 72 #[.slice A n c, .slice A' n' c'] w fun e w' => e = .returned (.bool r) ∧ ∃ m, w' = w.drewN m := by
  have HR := Lib.hid hr
  have HX := Lib.hid hX.len
  have HY := Lib.hid hY.len
  have hbx := hX.big
  have hby := hY.big
  clear hr
  by_cases hnn : n = n'
  · subst hnn
    go_enter Tryd.func72, Tryd.ntmps72
    go_wp2
    go_loopw [5] (fun iv wr => ∃ k : Nat, iv = .int .i64 k ∧ k ≤ n ∧ Hid (xs.take k = ys.take k) ∧ ∃ m, wr = w.drewN m) (fun iv _ => n - (intOf iv).toNat)
    case atStart => exact ⟨0, rfl, Nat.zero_le _, rfl, 0, rfl⟩
    case round =>
      obtain ⟨k, rfl, hk, htk, m, rfl⟩ := hrel
      by_cases hlt : k < n
      · obtain ⟨b, off, rfl, _, _, hc⟩ := hX.row (by omega)
        obtain ⟨b', off', rfl, _, _, hc'⟩ := hY.row (by omega)
        have g1 := (hc k hlt).1
        have g2 := (hc' k hlt).1
        have hk0 : (0 : Int) ≤ k := by omega
        have hkn : (k : Int) < n := by omega
        have hnx : Hid (xs[k]?.getD 0 = ys[k]?.getD 0 → xs.take (k + 1) = ys.take (k + 1)) := fun he => take_next (by rw [HX.out]; exact hlt) (by rw [HY.out]; exact hlt) htk.out he
        have hno : Hid (xs[k]?.getD 0 ≠ ys[k]?.getD 0 → Sm xs ys = false) := fun he => Sm_at he
        clear hc hc'
        generalize xs[k]?.getD 0 = x at g1 hnx hno
        generalize ys[k]?.getD 0 = y at g2 hnx hno
        by_cases he : x = y
        · subst he
          have hn2 := Lib.hid (hnx.out rfl)
          have hne : (x != x) = false := by simp
          go_wp2
          go_quiet (fail)
          go_wp2
          go_roundw
          case rel => exact ⟨k + 1, by go_num, by omega, hn2, _, rfl⟩
          case measure => simp [intOf]; omega
        · have e2 : r = false := by rw [← HR.out]; exact hno.out he
          subst e2
          have hne : (x != y) = true := by simpa using he
          go_wp2
          go_quiet (fail)
          go_wp2
          go_ret
          exact ⟨rfl, _, drewN_add ..⟩
      · obtain rfl : k = n := by omega
        have e2 : r = true := by
          rw [← HR.out]
          have := htk.out
          rw [List.take_of_length_le (by rw [HX.out]; exact Nat.le_refl _), List.take_of_length_le (by rw [HY.out]; exact Nat.le_refl _)] at this
          rw [this]
          exact Sm_refl _
        subst e2
        go_wp2
        go_ret
        exact ⟨rfl, m, rfl⟩
  · have e2 : r = false := by rw [← HR.out]; exact Sm_len (by rw [HX.out, HY.out]; exact hnn)
    subst e2
    have hne : ((n : Int) != n') = true := by simpa using (show ¬ (n : Int) = n' by omega)
    have hne2 : (n != n') = true := by simpa using hnn
    go_enter Tryd.func72, Tryd.ntmps72
    go_wp2
    go_ret
    exact ⟨rfl, 0, rfl⟩
set_option maxHeartbeats 1600000 in
/-- headcountref02.Same. -/
theorem rSame_any (w : World) (s s' : Bool) (A A' : Option Addr) (n c n' c' : Nat) (xs ys : List Int) (e e' : Int) (hX : Ints w 0 w.heap.size .u32 A n xs) (hY : Ints w 0 w.heap.size .u32 A' n' ys) (r : Bool) (hr : Dy.same ⟨s, xs, e⟩ ⟨s', ys, e'⟩ = r) :
    Calls Tryd.prog 26 #[.agg #[.bool s, .slice A n c, .int .i64 e], .agg #[.bool s', .slice A' n' c', .int .i64 e']] w fun e w' => e = .returned (.bool r) ∧ Below w.heap.size w w' := by
  have fin := ((Below.refl w.heap.size w).alloc (Nat.le_refl _) (.cells #[.bool s, .slice A n c, .int .i64 e] 24)).alloc (by simp) (.cells #[.bool s', .slice A' n' c', .int .i64 e'] 24)
  have hX2 := (hX.alloc (Nat.le_refl _) (.cells #[.bool s, .slice A n c, .int .i64 e] 24)).alloc (by simp) (.cells #[.bool s', .slice A' n' c', .int .i64 e'] 24)
  have hY2 := (hY.alloc (Nat.le_refl _) (.cells #[.bool s, .slice A n c, .int .i64 e] 24)).alloc (by simp) (.cells #[.bool s', .slice A' n' c', .int .i64 e'] 24)
  have HR := Lib.hid hr
  clear hr
  by_cases h1 : s = s'
  · subst h1
    have h1' : (s == s) = true := by simp
    by_cases h2 : e = e'
    · subst h2
      have h2' : (e == e) = true := by simp
      have hs : Hid (Sm xs ys = r) := by rw [Hid, ← HR.out]; simp [Dy.same]
      go_enter Tryd.func26, Tryd.ntmps26
      go_wp2_with fail
      refine (r1Same_any _ _ _ _ _ A A' n c n' c' xs ys hX2 hY2 r hs.out).mono ?_
      rintro e w1 ⟨rfl, m, rfl⟩
      go_wp2
      go_ret
      exact ⟨rfl, below_drewN fin m⟩
    · have h2' : (e == e') = false := by simpa using h2
      have e2 : r = false := by rw [← HR.out]; simp [Dy.same, h2]
      subst e2
      go_enter Tryd.func26, Tryd.ntmps26
      go_wp2
      go_ret
      exact ⟨rfl, fin⟩
  · have h1' : (s == s') = false := by simpa using h1
    have e2 : r = false := by rw [← HR.out]; simp [Dy.same, h1]
    subst e2
    go_enter Tryd.func26, Tryd.ntmps26
    go_wp2
    go_ret
    exact ⟨rfl, fin⟩
/-- Is a dyad greater than statements go through? -/
def Dy.great (a : Dy) : Bool := decide (42 < a.limbs.length) || decide (1100 < a.exp)
set_option maxHeartbeats 800000 in
/-- headcountref02.Great. -/
theorem rGreat_any (w : World) (s : Bool) (A : Option Addr) (n c : Nat) (xs : List Int) (e : Int) (hl : xs.length = n) (r : Bool) (hr : Dy.great ⟨s, xs, e⟩ = r) :
    Calls Tryd.prog 18 #[.agg #[.bool s, .slice A n c, .int .i64 e]] w fun q w' => q = .returned (.bool r) ∧ Below w.heap.size w w' := by
  have HR := Lib.hid hr
  have HL := Lib.hid hl
  have fin := (Below.refl w.heap.size w).alloc (Nat.le_refl _) (.cells #[.bool s, .slice A n c, .int .i64 e] 24)
  clear hr hl
  by_cases h1 : 42 < n
  · have e2 : r = true := by rw [← HR.out, Dy.great]; simp; left; rw [HL.out]; exact h1
    subst e2
    have h1' : decide ((42 : Int) < n) = true := by simp; omega
    go_enter Tryd.func18, Tryd.ntmps18
    go_wp2
    go_ret
    exact ⟨rfl, fin⟩
  · have h1' : decide ((42 : Int) < n) = false := by simp; omega
    have e2 : Hid (decide ((1100 : Int) < e) = r) := by rw [Hid, ← HR.out, Dy.great]; simp [HL.out, h1]
    go_enter Tryd.func18, Tryd.ntmps18
    go_wp2
    go_ret
    exact ⟨by rw [← e2.out]; rfl, fin⟩
end Pa
end Go.Proofs.YtlbkepiflhchdaaDoor
namespace Go.Proofs.YtlbkepiflhchdaaDoor
open Go.RowKit
namespace Dy
open Dp
theorem dig_ints {w : World} {lo hi : Nat} {A : Option Addr} {n : Nat} {xs : List Int} (h : Ints w lo hi .u32 A n xs) : Dig 4294967296 xs := fun x hx => by
  have h1 := h.wf x hx
  have h2 : 0 ≤ x ∧ x ≤ 4294967295 := by simpa [IntKind.min, IntKind.max, IntKind.signed, IntKind.bits] using h1
  omega
/-- A dyad's numbers. -/
def dn (s : Bool) (xs : List Int) (e : Int) : Dn := ⟨s, num 4294967296 xs, e.toNat⟩
theorem dn_ok {s : Bool} {xs : List Int} {e : Int} (hd : Dig 4294967296 xs) (h : MayD s xs e) : (dn s xs e).May ∧ canon 4294967296 (dn s xs e).m = xs ∧ ((dn s xs e).e : Int) = e :=
  ⟨(may_dn hd h).1, (may_dn hd h).2, by have := h.2.1; show ((e.toNat : Nat) : Int) = e; omega⟩
theorem dn_of {r : Dn} : dn r.neg (canon 4294967296 r.m) r.e = r := by
  unfold dn
  rw [(canon_spec 4294967296 r.m (by decide)).2.2]
  rfl
theorem Sub_raw (w : World) (s1 s2 : Bool) (A1 A2 : Option Addr) (n1 c1 n2 c2 : Nat) (xs1 xs2 : List Int) (e1 e2 : Int) (h1 : Ints w 0 w.heap.size .u32 A1 n1 xs1) (h2 : Ints w 0 w.heap.size .u32 A2 n2 xs2) (m1 : MayD s1 xs1 e1) (m2 : MayD s2 xs2 e2) (hT : Tab w) (r : Dn) (code : Int) (h : subD (dn s1 xs1 e1) (dn s2 xs2 e2) = (r, code)) :
    Calls Tryd.prog 22 #[.agg #[.bool s1, .slice A1 n1 c1, .int .i64 e1], .agg #[.bool s2, .slice A2 n2 c2, .int .i64 e2]] w (Formed w r code) := by
  obtain ⟨y1, c1', k1⟩ := dn_ok (dig_ints h1) m1
  obtain ⟨y2, c2', k2⟩ := dn_ok (dig_ints h2) m2
  have := Sub_ok w (dn s1 xs1 e1) (dn s2 xs2 e2) y1 y2 A1 n1 c1 (by rw [c1']; exact h1) A2 n2 c2 (by rw [c2']; exact h2) hT r code h
  rw [k1, k2] at this
  exact this
end Dy
end Go.Proofs.YtlbkepiflhchdaaDoor
