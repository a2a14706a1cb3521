/- The exact sum: a walk. -/
import Derived.Test.YtlbkepiflhchdaaDoorDyW8
namespace Go.Proofs.YtlbkepiflhchdaaDoor
open Go.RowKit
namespace Dy
open Dp
theorem ints_may {w : World} {lo hi : Nat} {A : Option Addr} {n : Nat} {a : Dn} (h : Ints w lo hi .u32 A n (canon 4294967296 a.m)) (ha : a.May) : n ≤ 40 := by
  have h1 := (dn_may ha).1.1
  have h2 := h.len
  omega
def roomE : Nat := 2304
theorem shift_lt {m k : Nat} (h : m < capD) (hk : k ≤ 1024) : m * 2 ^ k < 2 ^ roomE := by
  have h1 : m * 2 ^ k < capD * 2 ^ k := Nat.mul_lt_mul_of_pos_right h (Nat.pow_pos (by decide))
  have h2 : capD * 2 ^ k ≤ 2 ^ roomE := by
    rw [capD_eq, ← Nat.pow_add]
    exact Nat.pow_le_pow_right (by decide) (by rw [capE_eq]; show 1280 + k ≤ 2304; omega)
  exact Nat.lt_of_lt_of_le h1 h2
theorem sum_room {x y : Nat} (hx : x < 2 ^ roomE) (hy : y < 2 ^ roomE) : x + y < 4294967296 ^ 74 := by
  rw [pow32]
  obtain ⟨e, he⟩ : ∃ e, e = 32 * 74 := ⟨_, rfl⟩
  rw [← he]
  have he2 : roomE + 1 ≤ e := by rw [he]; show 2304 + 1 ≤ 32 * 74; decide
  have h : 2 ^ roomE + 2 ^ roomE ≤ 2 ^ e := by
    rw [← Nat.two_mul, ← Nat.pow_succ']
    exact Nat.pow_le_pow_right (by decide) he2
  exact Nat.lt_of_lt_of_le (Nat.add_lt_add hx hy) h
set_option maxHeartbeats 6400000 in
set_option maxRecDepth 100000 in
/-- dyad.Add: dyads that may be. -/
theorem Add_ok (w : World) (a b : Dn) (ha : a.May) (hb : b.May) (A1 : Option Addr) (n1 c1 : Nat) (h1 : Ints w 0 w.heap.size .u32 A1 n1 (canon 4294967296 a.m)) (A2 : Option Addr) (n2 c2 : Nat) (h2 : Ints w 0 w.heap.size .u32 A2 n2 (canon 4294967296 b.m)) (hT : Tab w) (r : Dn) (code : Int) (h : addD a b = (r, code)) :
    Calls Tryd.prog 20 #[.agg #[.bool a.neg, .slice A1 n1 c1, .int .i64 a.e], .agg #[.bool b.neg, .slice A2 n2 c2, .int .i64 b.e]] w (Formed w r code) := by
  have hn1 := ints_may h1 ha
  have hn2 := ints_may h2 hb
  have HM1 := Lib.hid (dn_may ha)
  have HM2 := Lib.hid (dn_may hb)
  have hae := ha.2.1
  have hbe := hb.2.1
  obtain ⟨sd1, _, sn1⟩ := canon_spec 4294967296 a.m (by decide)
  obtain ⟨sd2, _, sn2⟩ := canon_spec 4294967296 b.m (by decide)
  have SN1 := Lib.hid sn1
  have SN2 := Lib.hid sn2
  have H := Lib.hid h
  obtain ⟨M, hK⟩ : ∃ M, max a.e b.e = M := ⟨_, rfl⟩
  have HK := Lib.hid hK
  have hK1 : a.e ≤ M := by omega
  have hK2 : b.e ≤ M := by omega
  have hK3 : M ≤ 1024 := by omega
  have hkab : (a.e < b.e ∧ M = b.e) ∨ (¬ a.e < b.e ∧ M = a.e) := by omega
  generalize hm1 : canon 4294967296 a.m = xs1 at *
  generalize hm2 : canon 4294967296 b.m = xs2 at *
  clear h sn1 sn2 hK hm1 hm2
  generalize hw1 : ((w.alloc (.cells #[.bool a.neg, .slice A1 n1 c1, .int .i64 a.e] 24)).alloc (.cells #[.bool b.neg, .slice A2 n2 c2, .int .i64 b.e] 24)).alloc (.cells #[.bool false, .slice none 0 0, .int .i64 0] 24) = w1
  have hs1 : w1.heap.size = w.heap.size + 3 := by rw [← hw1]; simp
  have HS1 := Lib.hid hs1
  have hB1 : Below w.heap.size w w1 := by rw [← hw1]; exact (((Below.refl _ w).alloc (Nat.le_refl _) _).alloc (by simp) _).alloc (by simp; omega) _
  have hb1 : w1.heap[w.heap.size]? = some (.cells #[.bool a.neg, .slice A1 n1 c1, .int .i64 a.e] 24 (0, 0)) := by
    rw [← hw1, Below.heap_alloc _ _ _ (by simp; omega), Below.heap_alloc _ _ _ (by simp)]
    exact heap_alloc_last _ _
  have hb2 : w1.heap[w.heap.size + 1]? = some (.cells #[.bool b.neg, .slice A2 n2 c2, .int .i64 b.e] 24 (0, 0)) := by
    rw [← hw1, Below.heap_alloc _ _ _ (by simp)]
    exact heap_alloc2_new _ _ _
  have hb3 : w1.heap[w.heap.size + 1 + 1]? = some (.cells #[.bool false, .slice none 0 0, .int .i64 0] 24 (0, 0)) := by
    rw [← hw1]
    have := heap_alloc_last ((w.alloc (.cells #[.bool a.neg, .slice A1 n1 c1, .int .i64 a.e] 24)).alloc (.cells #[.bool b.neg, .slice A2 n2 c2, .int .i64 b.e] 24)) (.cells #[.bool false, .slice none 0 0, .int .i64 0] 24)
    simpa using this
  have g1 := h1.below hB1 (Nat.le_refl _)
  have g2 := h2.below hB1 (Nat.le_refl _)
  have hT1 := hT.below hB1 hT.lt
  have h0 := hT.lt
  clear hs1
  obtain ⟨⟨p0, p1, p2⟩, p3, p4, p5⟩ := boxD hb1
  obtain ⟨⟨q0, q1, q2⟩, q3, q4, q5⟩ := boxD hb2
  go_enter Tryd.func20, Tryd.ntmps20
  go_wp2_with fail
  refine (Check_ok w1 0 w.heap.size a.neg A1 n1 c1 xs1 a.e g1 (by have := HS1.out; omega) HM1.out).mono ?_
  rintro e w2 ⟨rfl, hB2⟩
  have hs2 := hB2.size
  replace g1 := g1.below hB2 (by have := HS1.out; omega)
  replace g2 := g2.below hB2 (by have := HS1.out; omega)
  replace hT1 := hT1.below hB2 (by have := HS1.out; omega)
  replace hb1 := (hB2.block _ (by have := HS1.out; omega)).trans hb1
  replace hb2 := (hB2.block _ (by have := HS1.out; omega)).trans hb2
  replace hb3 := (hB2.block _ (by have := HS1.out; omega)).trans hb3
  replace hB1 := hB1.trans (hB2.mono (by have := HS1.out; omega))
  clear hB2 p0 p1 p2 p3 p4 p5 q0 q1 q2 q3 q4 q5 hw1
  obtain ⟨⟨p0, p1, p2⟩, p3, p4, p5⟩ := boxD hb1
  obtain ⟨⟨q0, q1, q2⟩, q3, q4, q5⟩ := boxD hb2
  go_wp2_with fail
  refine (Check_ok w2 0 w.heap.size b.neg A2 n2 c2 xs2 b.e g2 (by have := HS1.out; omega) HM2.out).mono ?_
  rintro e w3 ⟨rfl, hB2⟩
  have hs3 := hB2.size
  replace g1 := g1.below hB2 (by have := HS1.out; omega)
  replace g2 := g2.below hB2 (by have := HS1.out; omega)
  replace hT1 := hT1.below hB2 (by have := HS1.out; omega)
  replace hb1 := (hB2.block _ (by have := HS1.out; omega)).trans hb1
  replace hb2 := (hB2.block _ (by have := HS1.out; omega)).trans hb2
  replace hb3 := (hB2.block _ (by have := HS1.out; omega)).trans hb3
  replace hB1 := hB1.trans (hB2.mono (by have := HS1.out; omega))
  clear hB2 p0 p1 p2 p3 p4 p5 q0 q1 q2 q3 q4 q5
  obtain ⟨⟨p0, p1, p2⟩, p3, p4, p5⟩ := boxD hb1
  obtain ⟨⟨q0, q1, q2⟩, q3, q4, q5⟩ := boxD hb2
  rcases hkab with ⟨hkl, hke⟩ | ⟨hkl, hke⟩
  · have HKE := Lib.hid hke
    clear hke
    go_wp2_with fail
    refine (of_any w3 0 w.heap.size a.neg A1 n1 c1 xs1 a.e (M - a.e) g1 (by have := HS1.out; omega) sd1 hn1 (by omega) (by omega) _ (by have := HKE.out; omega)).mono ?_
    rintro e w4 ⟨g, ws, rfl, hB4, hg1, hg2, hS4, hnw⟩
    have hs4 := hB4.size
    replace g1 := g1.below hB4 (by have := HS1.out; omega)
    replace g2 := g2.below hB4 (by have := HS1.out; omega)
    replace hT1 := hT1.below hB4 (by have := HS1.out; omega)
    replace hb1 := (hB4.block _ (by have := HS1.out; omega)).trans hb1
    replace hb2 := (hB4.block _ (by have := HS1.out; omega)).trans hb2
    replace hb3 := (hB4.block _ (by have := HS1.out; omega)).trans hb3
    replace hB1 := hB1.trans (hB4.mono (by have := HS1.out; omega))
    have HNW := Lib.hid hnw
    clear hB4 p0 p1 p2 p3 p4 p5 q0 q1 q2 q3 q4 q5 hnw
    go_wp2_with fail
    have hSS : w4.drew.heap[w.heap.size + 1]? = w4.heap[w.heap.size + 1]? := rfl
    refine region_E (fun w' => w'.heap[w.heap.size + 1]? = w4.heap[w.heap.size + 1]?) [] (m := 7) (L := #[false, false, false, false, false, false, false]) (by kernel_rfl) (by rfl) (by rfl) ?_
    refine pureE (i := 0) (L := #[true, false, false, false, false, false, false]) (v := ?_) rfl (by rfl) (by kernel_rfl) (by kernel_rfl) (by kernel_rfl) (fun _ _ _ h => h) (by rfl) ?hy1 ?rest1
    case hy1 => intro w; go_simp; (try with_reducible rfl)
    try simp only [Act.put, List.setIfInBounds_toArray, List.set_cons_zero, List.set_cons_succ]
    refine pureE (i := 1) (L := #[true, true, false, false, false, false, false]) (v := ?_) rfl (by rfl) (by kernel_rfl) (by kernel_rfl) (by kernel_rfl) (fun _ _ _ h => h) (by rfl) ?hy2 ?rest2
    case hy2 => intro w; go_simp; (try with_reducible rfl)
    try simp only [Act.put, List.setIfInBounds_toArray, List.set_cons_zero, List.set_cons_succ]
    refine readE (i := 2) (L := #[true, true, true, false, false, false, false]) (v := .bool b.neg) rfl (by rfl) (by kernel_rfl) (by kernel_rfl) (by kernel_rfl) (fun _ _ _ h => h) (by assumption) (by rfl) ?hyA1 ?restA1
    case hyA1 =>
      intro w' h1
      have k := (boxD (h1.trans hb2)).1.1
      go_simp
    try simp only [Act.put, List.setIfInBounds_toArray, List.set_cons_zero, List.set_cons_succ]
    refine readE (i := 3) (L := #[true, true, true, true, false, false, false]) (v := .agg #[.bool b.neg, .slice A2 n2 c2, .int .i64 b.e]) rfl (by rfl) (by kernel_rfl) (by kernel_rfl) (by kernel_rfl) (fun _ _ _ h => h) (by assumption) (by rfl) ?hyB1 ?restB1
    case hyB1 =>
      intro w' h1
      obtain ⟨⟨k1, k2, k3⟩, _⟩ := boxD (h1.trans hb2)
      go_simp
    try simp only [Act.put, List.setIfInBounds_toArray, List.set_cons_zero, List.set_cons_succ]
    refine pureE (i := 4) (L := #[true, true, true, true, true, false, false]) (v := ?_) rfl (by rfl) (by kernel_rfl) (by kernel_rfl) (by kernel_rfl) (fun _ _ _ h => h) (by rfl) ?hy5 ?rest5
    case hy5 => intro w; go_simp; (try with_reducible rfl)
    try simp only [Act.put, List.setIfInBounds_toArray, List.set_cons_zero, List.set_cons_succ]
    refine stepK (i := 5) (L := #[true, true, true, true, true, true, false]) rfl (by rfl) (by kernel_rfl) (by rfl) (fun K hK => ?_)
    go_simp
    go_at_call 64
    refine (widen_any w4.drew 0 w.heap.size b.neg A2 n2 c2 xs2 b.e (M - b.e) (g2.drewN 1) (by show w.heap.size ≤ w4.heap.size; have := HS1.out; omega) sd2 hn2 (by omega) (by omega) _ (by have := HKE.out; omega)).mono ?_
    rintro e w5 ⟨us, rfl, hB5', hul, hud, hnu⟩
    have hB5 : Below w4.heap.size w4 w5 := (Below.refl _ w4).drew.trans hB5'
    clear hB5'
    have hs5 := hB5.size
    replace g1 := g1.below hB5 (by have := HS1.out; omega)
    replace hT1 := hT1.below hB5 (by have := HS1.out; omega)
    have hb2' := hB5.block (w.heap.size + 1) (by have := HS1.out; omega)
    replace hb3 := (hB5.block _ (by have := HS1.out; omega)).trans hb3
    replace hB1 := hB1.trans (hB5.mono (by have := HS1.out; omega))
    have hS5 := hS4.of_heap (hB5.block g hg2)
    have HNU := Lib.hid hnu
    clear hB5 hnu hS4
    refine hK _ _ ⟨fun _ _ => hb2', ?_⟩
    clear hK K
    try simp only [Act.put, List.setIfInBounds_toArray, List.set_cons_zero, List.set_cons_succ]
    obtain ⟨sr, mr, hpl⟩ : ∃ sr mr, plusS a.neg (num 4294967296 ws) b.neg (num 4294967296 us) = (sr, mr) := ⟨_, _, rfl⟩
    have hroom : num 4294967296 ws + num 4294967296 us < 4294967296 ^ 74 := by
      rw [HNW.out, HNU.out, SN1.out, SN2.out]
      exact sum_room (shift_lt ha.1 (by omega)) (shift_lt hb.1 (by omega))
    have hform : formed sr mr M = (r, code) := by
      have h1 := H.out
      unfold addD at h1
      rw [HK.out] at h1
      rw [HNW.out, HNU.out, SN1.out, SN2.out] at hpl
      rw [hpl] at h1
      exact h1
    have HPL := Lib.hid hpl
    have HR := Lib.hid hroom
    have HF := Lib.hid hform
    clear hpl hroom hform
    refine stepK (i := 6) (L := #[true, true, true, true, true, true, true]) rfl (by rfl) (by kernel_rfl) (by rfl) (fun K hK => ?_)
    go_simp
    go_at_call 63
    refine (add_any w5 g a.neg b.neg _ _ ws us hS5 (by omega) hul hud HR.out sr mr HPL.out).mono ?_
    rintro e w6 ⟨rfl, hO6, vs, hS6, hnv⟩
    have hs6 := hO6.size
    replace g1 := g1
    have hb6 := (hO6.block (w.heap.size + 1 + 1) (by have := HS1.out; omega) (by have := HS1.out; omega)).trans hb3
    have hT6 := hT1.keep (hO6.block 0 (by omega) (by have := HS1.out; omega))
    have hB6 := hO6.below hB1 (by have := HS1.out; omega) (by have := HS1.out; omega)
    refine hK _ _ ⟨fun _ h => (hO6.block _ (by have := HS1.out; omega) (by have := HS1.out; omega)).trans h, ?_⟩
    clear hK K hO6 g1 hb3 hT1 hB1 hS5
    try simp only [Act.put, List.setIfInBounds_toArray, List.set_cons_zero, List.set_cons_succ]
    refine doneE (by kernel_rfl) ?_ _
    go_wp2_with fail
    have hf : formed sr (num 4294967296 vs) b.e = (r, code) := by rw [hnv, ← HKE.out]; exact HF.out
    refine (form_any w6 g (by omega) sr _ b.e (by omega) vs hS6 hT6 r code hf).mono ?_
    rintro e w7 ⟨A', n', c', rfl, hc', hB7, hI7⟩
    have hs7 := hB7.size
    have hb7 := (hB7.block _ (by have := HS1.out; omega)).trans hb6
    have hBB := hB6.trans (hB7.mono (by have := HS1.out; omega))
    have HI := Lib.hid hI7
    obtain ⟨⟨x0, x1, x2⟩, x3, x4, x5⟩ := boxD hb7
    clear hf hS6 hT6 hB6 hb6 hB7 hI7 hnv
    go_wp2
    refine bodyPost_ret (v := .tuple #[.agg #[.bool r.neg, .slice A' n' c', .int .i64 r.e], .int .i64 code]) (by simp [results, Tryd.results20, go_sem, x0, x1, x2]) rfl ⟨A', n', c', rfl, hc', ?_, ?_⟩
    · exact ((hBB.setCell (by simp; omega) _).setCell (by simp; omega) _).setCell (by simp; omega) _
    · refine Ints.more (lo := w6.heap.size) (hi := w7.heap.size) ?_ (by have := HS1.out; omega) (by simp [World.setCell])
      exact ints_far (ints_far (ints_far HI.out (.inl (by have := HS1.out; simp; omega)) _) (.inl (by have := HS1.out; simp; omega)) _) (.inl (by have := HS1.out; simp; omega)) _
  · have HKE := Lib.hid hke
    clear hke
    go_wp2_with fail
    refine (of_any w3 0 w.heap.size a.neg A1 n1 c1 xs1 a.e (M - a.e) g1 (by have := HS1.out; omega) sd1 hn1 (by omega) (by omega) _ (by have := HKE.out; omega)).mono ?_
    rintro e w4 ⟨g, ws, rfl, hB4, hg1, hg2, hS4, hnw⟩
    have hs4 := hB4.size
    replace g1 := g1.below hB4 (by have := HS1.out; omega)
    replace g2 := g2.below hB4 (by have := HS1.out; omega)
    replace hT1 := hT1.below hB4 (by have := HS1.out; omega)
    replace hb1 := (hB4.block _ (by have := HS1.out; omega)).trans hb1
    replace hb2 := (hB4.block _ (by have := HS1.out; omega)).trans hb2
    replace hb3 := (hB4.block _ (by have := HS1.out; omega)).trans hb3
    replace hB1 := hB1.trans (hB4.mono (by have := HS1.out; omega))
    have HNW := Lib.hid hnw
    clear hB4 p0 p1 p2 p3 p4 p5 q0 q1 q2 q3 q4 q5 hnw
    go_wp2_with fail
    have hSS : w4.drew.heap[w.heap.size + 1]? = w4.heap[w.heap.size + 1]? := rfl
    refine region_E (fun w' => w'.heap[w.heap.size + 1]? = w4.heap[w.heap.size + 1]?) [] (m := 7) (L := #[false, false, false, false, false, false, false]) (by kernel_rfl) (by rfl) (by rfl) ?_
    refine pureE (i := 0) (L := #[true, false, false, false, false, false, false]) (v := ?_) rfl (by rfl) (by kernel_rfl) (by kernel_rfl) (by kernel_rfl) (fun _ _ _ h => h) (by rfl) ?hy8 ?rest8
    case hy8 => intro w; go_simp; (try with_reducible rfl)
    try simp only [Act.put, List.setIfInBounds_toArray, List.set_cons_zero, List.set_cons_succ]
    refine pureE (i := 1) (L := #[true, true, false, false, false, false, false]) (v := ?_) rfl (by rfl) (by kernel_rfl) (by kernel_rfl) (by kernel_rfl) (fun _ _ _ h => h) (by rfl) ?hy9 ?rest9
    case hy9 => intro w; go_simp; (try with_reducible rfl)
    try simp only [Act.put, List.setIfInBounds_toArray, List.set_cons_zero, List.set_cons_succ]
    refine readE (i := 2) (L := #[true, true, true, false, false, false, false]) (v := .bool b.neg) rfl (by rfl) (by kernel_rfl) (by kernel_rfl) (by kernel_rfl) (fun _ _ _ h => h) (by assumption) (by rfl) ?hyA2 ?restA2
    case hyA2 =>
      intro w' h1
      have k := (boxD (h1.trans hb2)).1.1
      go_simp
    try simp only [Act.put, List.setIfInBounds_toArray, List.set_cons_zero, List.set_cons_succ]
    refine readE (i := 3) (L := #[true, true, true, true, false, false, false]) (v := .agg #[.bool b.neg, .slice A2 n2 c2, .int .i64 b.e]) rfl (by rfl) (by kernel_rfl) (by kernel_rfl) (by kernel_rfl) (fun _ _ _ h => h) (by assumption) (by rfl) ?hyB2 ?restB2
    case hyB2 =>
      intro w' h1
      obtain ⟨⟨k1, k2, k3⟩, _⟩ := boxD (h1.trans hb2)
      go_simp
    try simp only [Act.put, List.setIfInBounds_toArray, List.set_cons_zero, List.set_cons_succ]
    refine pureE (i := 4) (L := #[true, true, true, true, true, false, false]) (v := ?_) rfl (by rfl) (by kernel_rfl) (by kernel_rfl) (by kernel_rfl) (fun _ _ _ h => h) (by rfl) ?hy12 ?rest12
    case hy12 => intro w; go_simp; (try with_reducible rfl)
    try simp only [Act.put, List.setIfInBounds_toArray, List.set_cons_zero, List.set_cons_succ]
    refine stepK (i := 5) (L := #[true, true, true, true, true, true, false]) rfl (by rfl) (by kernel_rfl) (by rfl) (fun K hK => ?_)
    go_simp
    go_at_call 64
    refine (widen_any w4.drew 0 w.heap.size b.neg A2 n2 c2 xs2 b.e (M - b.e) (g2.drewN 1) (by show w.heap.size ≤ w4.heap.size; have := HS1.out; omega) sd2 hn2 (by omega) (by omega) _ (by have := HKE.out; omega)).mono ?_
    rintro e w5 ⟨us, rfl, hB5', hul, hud, hnu⟩
    have hB5 : Below w4.heap.size w4 w5 := (Below.refl _ w4).drew.trans hB5'
    clear hB5'
    have hs5 := hB5.size
    replace g1 := g1.below hB5 (by have := HS1.out; omega)
    replace hT1 := hT1.below hB5 (by have := HS1.out; omega)
    have hb2' := hB5.block (w.heap.size + 1) (by have := HS1.out; omega)
    replace hb3 := (hB5.block _ (by have := HS1.out; omega)).trans hb3
    replace hB1 := hB1.trans (hB5.mono (by have := HS1.out; omega))
    have hS5 := hS4.of_heap (hB5.block g hg2)
    have HNU := Lib.hid hnu
    clear hB5 hnu hS4
    refine hK _ _ ⟨fun _ _ => hb2', ?_⟩
    clear hK K
    try simp only [Act.put, List.setIfInBounds_toArray, List.set_cons_zero, List.set_cons_succ]
    obtain ⟨sr, mr, hpl⟩ : ∃ sr mr, plusS a.neg (num 4294967296 ws) b.neg (num 4294967296 us) = (sr, mr) := ⟨_, _, rfl⟩
    have hroom : num 4294967296 ws + num 4294967296 us < 4294967296 ^ 74 := by
      rw [HNW.out, HNU.out, SN1.out, SN2.out]
      exact sum_room (shift_lt ha.1 (by omega)) (shift_lt hb.1 (by omega))
    have hform : formed sr mr M = (r, code) := by
      have h1 := H.out
      unfold addD at h1
      rw [HK.out] at h1
      rw [HNW.out, HNU.out, SN1.out, SN2.out] at hpl
      rw [hpl] at h1
      exact h1
    have HPL := Lib.hid hpl
    have HR := Lib.hid hroom
    have HF := Lib.hid hform
    clear hpl hroom hform
    refine stepK (i := 6) (L := #[true, true, true, true, true, true, true]) rfl (by rfl) (by kernel_rfl) (by rfl) (fun K hK => ?_)
    go_simp
    go_at_call 63
    refine (add_any w5 g a.neg b.neg _ _ ws us hS5 (by omega) hul hud HR.out sr mr HPL.out).mono ?_
    rintro e w6 ⟨rfl, hO6, vs, hS6, hnv⟩
    have hs6 := hO6.size
    replace g1 := g1
    have hb6 := (hO6.block (w.heap.size + 1 + 1) (by have := HS1.out; omega) (by have := HS1.out; omega)).trans hb3
    have hT6 := hT1.keep (hO6.block 0 (by omega) (by have := HS1.out; omega))
    have hB6 := hO6.below hB1 (by have := HS1.out; omega) (by have := HS1.out; omega)
    refine hK _ _ ⟨fun _ h => (hO6.block _ (by have := HS1.out; omega) (by have := HS1.out; omega)).trans h, ?_⟩
    clear hK K hO6 g1 hb3 hT1 hB1 hS5
    try simp only [Act.put, List.setIfInBounds_toArray, List.set_cons_zero, List.set_cons_succ]
    refine doneE (by kernel_rfl) ?_ _
    go_wp2_with fail
    have hf : formed sr (num 4294967296 vs) a.e = (r, code) := by rw [hnv, ← HKE.out]; exact HF.out
    refine (form_any w6 g (by omega) sr _ a.e (by omega) vs hS6 hT6 r code hf).mono ?_
    rintro e w7 ⟨A', n', c', rfl, hc', hB7, hI7⟩
    have hs7 := hB7.size
    have hb7 := (hB7.block _ (by have := HS1.out; omega)).trans hb6
    have hBB := hB6.trans (hB7.mono (by have := HS1.out; omega))
    have HI := Lib.hid hI7
    obtain ⟨⟨x0, x1, x2⟩, x3, x4, x5⟩ := boxD hb7
    clear hf hS6 hT6 hB6 hb6 hB7 hI7 hnv
    go_wp2
    refine bodyPost_ret (v := .tuple #[.agg #[.bool r.neg, .slice A' n' c', .int .i64 r.e], .int .i64 code]) (by simp [results, Tryd.results20, go_sem, x0, x1, x2]) rfl ⟨A', n', c', rfl, hc', ?_, ?_⟩
    · exact ((hBB.setCell (by simp; omega) _).setCell (by simp; omega) _).setCell (by simp; omega) _
    · refine Ints.more (lo := w6.heap.size) (hi := w7.heap.size) ?_ (by have := HS1.out; omega) (by simp [World.setCell])
      exact ints_far (ints_far (ints_far HI.out (.inl (by have := HS1.out; simp; omega)) _) (.inl (by have := HS1.out; simp; omega)) _) (.inl (by have := HS1.out; simp; omega)) _
end Dy
end Go.Proofs.YtlbkepiflhchdaaDoor
