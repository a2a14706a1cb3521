/- How two dyads stand, whatever they are. -/
/- The laws of quotients: no program in sight. -/
/- The laws of quotients, for any arguments: no program in sight. -/
/- Quotients of whole numbers: no program in sight. -/
/- Facts are moved along a chain of calls. No function in sight. -/
/- The law RatioBand: a walk (printed by a program of mine). -/
/- The reference's In: a dyad in parts of 2^-k; a walk. -/
/- The reference's Formed: a walk (printed by a program of mine). -/
import Derived.Test.YtmbppgjhdcmckaaDoorBf09
import Derived.Test.YtmbppgjhdcmckaaDoorBf03
import Derived.Test.YtmbppgjhdcmckaaDoorBf08
import Derived.Test.YtmbppgjhdcmckaaDoorBf06
namespace Go.Proofs.YtmbppgjhdcmckaaDoor
open Go.RowKit
namespace Dy
open Dp
set_option maxHeartbeats 1600000 in
set_option maxRecDepth 100000 in
/-- dyad.Cmp: dyads that may not be. -/
theorem Cmp_bad (w : World) (s1 s2 : Bool) (A1 A2 : Option Addr) (n1 c1 n2 c2 : Nat) (xs1 xs2 : List Int) (e1 e2 : Int) (h1 : Ints w 0 w.heap.size .u32 A1 n1 xs1) (h2 : Ints w 0 w.heap.size .u32 A2 n2 xs2) (h : ¬ MayD s1 xs1 e1 ∨ ¬ MayD s2 xs2 e2) :
  Calls Tryd.prog 10 #[.agg #[.bool s1, .slice A1 n1 c1, .int .i64 e1], .agg #[.bool s2, .slice A2 n2 c2, .int .i64 e2]] w fun e w' => e = .returned (.tuple #[.int .i64 0, .int .i64 8]) ∧ Below w.heap.size w w' := by
 generalize hw1 : (w.alloc (.cells #[.bool s1, .slice A1 n1 c1, .int .i64 e1] 24)).alloc (.cells #[.bool s2, .slice A2 n2 c2, .int .i64 e2] 24) = w1
 have hs1 : w1.heap.size = w.heap.size + 2 := by rw [← hw1]; simp
 have HS1 := Lib.hid hs1
 have hB1 : Below w.heap.size w w1 := by rw [← hw1]; exact ((Below.refl _ w).alloc (Nat.le_refl _) _).alloc (by simp) _
 have hb1 : w1.heap[w.heap.size]? = some (.cells #[.bool s1, .slice A1 n1 c1, .int .i64 e1] 24 (0, 0)) := by
  rw [← hw1, Below.heap_alloc _ _ _ (by simp)]
  exact heap_alloc_last _ _
 have hb2 : w1.heap[w.heap.size + 1]? = some (.cells #[.bool s2, .slice A2 n2 c2, .int .i64 e2] 24 (0, 0)) := by
  rw [← hw1]
  exact heap_alloc2_new _ _ _
 have g1 := h1.below hB1 (Nat.le_refl _)
 have g2 := h2.below hB1 (Nat.le_refl _)
 clear hs1
 obtain ⟨⟨p0, p1, p2⟩, p3, p4, p5⟩ := boxD hb1
 obtain ⟨⟨q0, q1, q2⟩, q3, q4, q5⟩ := boxD hb2
 by_cases hm : MayD s1 xs1 e1
 · have hm2 := h.resolve_left (fun k => k hm)
   clear h
   go_enter Tryd.func10, Tryd.ntmps10
   go_wp2_with fail
   refine (Check_ok w1 0 w.heap.size s1 A1 n1 c1 xs1 e1 g1 (by have := HS1.out; omega) hm).mono ?_
   rintro e w2 ⟨rfl, hB2⟩
   have hs2 := hB2.size
   replace g2 := g2.below hB2 (by have := HS1.out; omega)
   replace hb2 := (hB2.block _ (by have := HS1.out; omega)).trans hb2
   replace hB1 := hB1.trans (hB2.mono (by have := HS1.out; omega))
   clear hB2 p0 p1 p2 p3 p4 p5 q0 q1 q2 q3 q4 q5 hw1 hm
   obtain ⟨⟨q0, q1, q2⟩, q3, q4, q5⟩ := boxD hb2
   go_wp2_with fail
   refine (Check_bad w2 0 w.heap.size s2 A2 n2 c2 xs2 e2 g2 (by have := HS1.out; omega) hm2).mono ?_
   rintro e w3 ⟨rfl, hB2⟩
   replace hB1 := hB1.trans (hB2.mono (by have := HS1.out; omega))
   clear hB2 q0 q1 q2 q3 q4 q5 hm2
   go_wp2
   go_ret2
   exact ⟨rfl, hB1⟩
 · clear h
   go_enter Tryd.func10, Tryd.ntmps10
   go_wp2_with fail
   refine (Check_bad w1 0 w.heap.size s1 A1 n1 c1 xs1 e1 g1 (by have := HS1.out; omega) hm).mono ?_
   rintro e w2 ⟨rfl, hB2⟩
   replace hB1 := hB1.trans (hB2.mono (by have := HS1.out; omega))
   clear hB2 p0 p1 p2 p3 p4 p5 q0 q1 q2 q3 q4 q5 hw1 hm
   go_wp2
   go_ret2
   exact ⟨rfl, hB1⟩
open Classical in
noncomputable def cmpX (s1 : Bool) (xs1 : List Int) (e1 : Int) (s2 : Bool) (xs2 : List Int) (e2 : Int) : Int × Int := if MayD s1 xs1 e1 ∧ MayD s2 xs2 e2 then (cmpD (dn s1 xs1 e1) (dn s2 xs2 e2), 0) else (0, 8)
theorem Cmp_all (w : World) (s1 s2 : Bool) (A1 A2 : Option Addr) (n1 c1 n2 c2 : Nat) (xs1 xs2 : List Int) (e1 e2 : Int) (h1 : Ints w 0 w.heap.size .u32 A1 n1 xs1) (h2 : Ints w 0 w.heap.size .u32 A2 n2 xs2) (hT : Tab w) (z code : Int) (h : cmpX s1 xs1 e1 s2 xs2 e2 = (z, code)) :
  Calls Tryd.prog 10 #[.agg #[.bool s1, .slice A1 n1 c1, .int .i64 e1], .agg #[.bool s2, .slice A2 n2 c2, .int .i64 e2]] w fun e w' => e = .returned (.tuple #[.int .i64 z, .int .i64 code]) ∧ Below w.heap.size w w' := by
 unfold cmpX at h
 split at h
 · rename_i hm
   injection h with h3 h4
   subst h4
   obtain ⟨y1, c1', k1⟩ := dn_ok (dig_ints h1) hm.1
   obtain ⟨y2, c2', k2⟩ := dn_ok (dig_ints h2) hm.2
   have := Cmp_ok w (dn s1 xs1 e1) (dn s2 xs2 e2) y1 y2 A1 n1 c1 (by rw [c1']; exact h1) A2 n2 c2 (by rw [c2']; exact h2) hT z h3
   rw [k1, k2] at this
   exact this
 · rename_i hm
   injection h with h3 h4
   subst h3 h4
   exact Cmp_bad w s1 s2 A1 A2 n1 c1 n2 c2 xs1 xs2 e1 e2 h1 h2 (Classical.not_and_iff_not_or_not.1 hm)
end Dy
end Go.Proofs.YtmbppgjhdcmckaaDoor
namespace Go.Proofs.YtmbppgjhdcmckaaDoor
namespace Dp
theorem floor_neg {M B : Nat} (hB : 0 < B) : (-(M : Int)) / (B : Int) = -((M / B + (if M % B ≠ 0 then 1 else 0) : Nat) : Int) := by
 have h1 : B * (M / B) + M % B = M := Nat.div_add_mod M B
 have h2 := Nat.mod_lt M hB
 have h3 : ((B : Int) * ((M / B : Nat) : Int)) + ((M % B : Nat) : Int) = M := by exact_mod_cast h1
 generalize M / B = q at *
 generalize M % B = r at *
 split
 · refine ((Int.ediv_emod_unique (r := (B : Int) - r) (by omega)).2 ⟨?_, by omega, by omega⟩).1
   rw [Int.natCast_add, Int.mul_neg, Int.mul_add]
   simp only [Int.natCast_one, Int.mul_one]
   omega
 · refine ((Int.ediv_emod_unique (r := 0) (by omega)).2 ⟨?_, by omega, by omega⟩).1
   rw [Nat.add_zero, Int.mul_neg]
   omega
theorem quo_at (a b : Dn) (k : Nat) {K : Nat} (hK : a.e + b.e ≤ K) : (quoN a b k).1 = (a.m * 2 ^ (K - a.e) * 2 ^ k) / (b.m * 2 ^ (K - b.e)) ∧ ((quoN a b k).2 = 0 ↔ (a.m * 2 ^ (K - a.e) * 2 ^ k) % (b.m * 2 ^ (K - b.e)) = 0) := by
 obtain ⟨h1, h2⟩ := quo_shift (a.m * 2 ^ (b.e + k)) (b.m * 2 ^ a.e) (K - a.e - b.e)
 have e1 : a.m * 2 ^ (b.e + k) * 2 ^ (K - a.e - b.e) = a.m * 2 ^ (K - a.e) * 2 ^ k := by
  rw [Nat.mul_assoc, Nat.mul_assoc, ← Nat.pow_add, ← Nat.pow_add]
  congr 2
  omega
 have e2 : b.m * 2 ^ a.e * 2 ^ (K - a.e - b.e) = b.m * 2 ^ (K - b.e) := by
  rw [Nat.mul_assoc, ← Nat.pow_add]
  congr 2
  omega
 rw [e1, e2] at h1 h2
 exact ⟨h1.symm, h2.symm⟩
theorem vl_pos {b : Dn} (hn : b.neg = false) (h0 : b.m ≠ 0) (K : Nat) : vl b K = ((b.m * 2 ^ (K - b.e) : Nat) : Int) ∧ 0 < b.m * 2 ^ (K - b.e) := by
 unfold vl sg
 rw [hn]
 exact ⟨rfl, Nat.mul_pos (Nat.pos_of_ne_zero h0) (Nat.pow_pos (by decide))⟩
theorem pos_vl {b : Dn} {K : Nat} (h : 0 < vl b K) : b.neg = false ∧ b.m ≠ 0 := by
 unfold vl sg at h
 cases hn : b.neg
 · refine ⟨rfl, fun h0 => ?_⟩
   rw [hn, h0] at h
   simp at h
 · rw [hn] at h
   simp only [if_true] at h
   omega
theorem vl_scaled (a : Dn) (K k : Nat) : vl a K * (2 : Int) ^ k = sg a.neg (a.m * 2 ^ (K - a.e) * 2 ^ k) := by
 unfold vl
 rw [sg_mul _ _ (2 ^ k)]
 norm_cast
/-- Down. -/
theorem toD_floor {a b : Dn} (hn : b.neg = false) (h0 : b.m ≠ 0) (k : Nat) {K : Nat} (hK : a.e + b.e ≤ K) :
  ∃ N, toD a b k a.neg = formed a.neg N k ∧ sg a.neg N = vl a K * 2 ^ k / vl b K := by
 obtain ⟨q1, q2⟩ := quo_at a b k hK
 obtain ⟨b1, b2⟩ := vl_pos hn h0 K
 refine ⟨_, rfl, ?_⟩
 rw [vl_scaled, b1]
 generalize a.m * 2 ^ (K - a.e) * 2 ^ k = M at *
 generalize b.m * 2 ^ (K - b.e) = B at *
 cases a.neg
 · rw [if_neg (fun h => by cases h.2), Nat.add_zero, q1]
   exact Int.natCast_ediv M B
 · show -(((_ : Nat)) : Int) = (-(M : Int)) / (B : Int)
   rw [floor_neg b2, q1]
   congr 2
   by_cases h : M % B = 0
   · simp [q2.2 h, h]
   · simp [mt q2.1 h, h]
/-- Up. -/
theorem toD_ceil {a b : Dn} (hn : b.neg = false) (h0 : b.m ≠ 0) (k : Nat) {K : Nat} (hK : a.e + b.e ≤ K) :
  ∃ N, toD a b k (!a.neg) = formed a.neg N k ∧ sg a.neg N = -(-(vl a K * 2 ^ k) / vl b K) := by
 obtain ⟨q1, q2⟩ := quo_at a b k hK
 obtain ⟨b1, b2⟩ := vl_pos hn h0 K
 refine ⟨_, rfl, ?_⟩
 rw [vl_scaled, b1]
 generalize a.m * 2 ^ (K - a.e) * 2 ^ k = M at *
 generalize b.m * 2 ^ (K - b.e) = B at *
 cases a.neg
 · show (((_ : Nat)) : Int) = -(-(M : Int) / (B : Int))
   rw [floor_neg b2, q1, Int.neg_neg]
   congr 2
   by_cases h : M % B = 0
   · simp [q2.2 h, h]
   · simp [mt q2.1 h, h]
 · rw [if_neg (fun h => by cases h.2), Nat.add_zero, q1]
   show -((M / B : Nat) : Int) = -(-(-(M : Int)) / (B : Int))
   rw [Int.neg_neg]
   rw [Int.natCast_ediv M B]
theorem formed_sg {s t : Bool} {m n : Nat} (h : sg s m = sg t n) (k : Nat) : formed s m k = formed t n k := by
 by_cases h0 : m = 0
 · subst h0
   rw [sg_zero] at h
   have := sg_nil h.symm
   subst this
   simp [formed]
 · obtain ⟨h1, h2⟩ := sg_inj h h0
   rw [h1, h2]
end Dp
end Go.Proofs.YtmbppgjhdcmckaaDoor
namespace Go.Proofs.YtmbppgjhdcmckaaDoor
namespace Dy
open Dp
theorem dn_ne {s : Bool} {xs : List Int} {e : Int} (hd : Dig 4294967296 xs) (h : MayD s xs e) (hx : xs ≠ []) : (dn s xs e).m ≠ 0 := fun h0 => hx (by rw [← (dn_ok hd h).2.1, h0]; rfl)
theorem cmpX_dn {x y : Dn} (hx : x.May) (hy : y.May) : cmpX x.neg (canon 4294967296 x.m) x.e y.neg (canon 4294967296 y.m) y.e = (cmpD x y, 0) := by
 unfold cmpX
 rw [if_pos ⟨dn_may hx, dn_may hy⟩, dn_of, dn_of]
/-- Codes of quotients. -/
theorem toX_code {s1 : Bool} {xs1 : List Int} {e1 : Int} {s2 : Bool} {xs2 : List Int} {e2 k : Int} {away : Bool} {x : Dn} {c : Int} (h : toX s1 xs1 e1 s2 xs2 e2 k away = (x, c)) : (askX s1 xs1 e1 s2 xs2 e2 k = 0 ∧ (c = 0 ∨ c = 10)) ∨ (askX s1 xs1 e1 s2 xs2 e2 k = c ∧ c ≠ 0) := by
 unfold toX at h
 split at h
 · rename_i hm
   rcases formed_cases (dn s1 xs1 e1).neg ((quoN (dn s1 xs1 e1) (dn s2 xs2 e2) k.toNat).1 + if (quoN (dn s1 xs1 e1) (dn s2 xs2 e2) k.toNat).2 ≠ 0 ∧ away = true then 1 else 0) k.toNat with hc | hc
   · have h2 := congrArg Prod.snd h
     exact .inl ⟨hm, .inl (h2.symm.trans hc)⟩
   · have h2 := congrArg Prod.snd h
     exact .inl ⟨hm, .inr (h2.symm.trans (congrArg Prod.snd hc))⟩
 · rename_i hm
   have := congrArg Prod.snd h
   exact .inr ⟨this, fun e => hm (this.trans e)⟩
end Dy
end Go.Proofs.YtmbppgjhdcmckaaDoor
namespace Go.Proofs.YtmbppgjhdcmckaaDoor
namespace Dp
/-- A whole number. -/
def whole (z : Int) : Dn := ⟨decide (z < 0), z.natAbs, 0⟩
theorem whole_may {z : Int} (h0 : -9223372036854775808 ≤ z) (h1 : z ≤ 9223372036854775807) : (whole z).May := by
 refine ⟨capD_gt (k := 64) (show z.natAbs < 2 ^ 64 by omega) (by decide), Nat.zero_le _, fun h => ⟨rfl, ?_⟩, fun h => absurd h (Nat.lt_irrefl 0)⟩
 have h : z.natAbs = 0 := h
 exact decide_eq_false (by omega)
theorem vl_whole (z : Int) : vl (whole z) 0 = z := by
 unfold vl sg whole
 simp only [Nat.sub_self, Nat.pow_zero, Nat.mul_one]
 split
 · rename_i h
   have := of_decide_eq_true h
   omega
 · rename_i h
   have : ¬ z < 0 := fun k => h (decide_eq_true k)
   omega
theorem whole_pos {n : Int} (hn : 0 < n) : (whole n).neg = false ∧ (whole n).m ≠ 0 := by
 refine ⟨decide_eq_false (by omega), ?_⟩
 show n.natAbs ≠ 0
 omega
theorem whole_of {s : Bool} {N : Nat} {z : Int} (h0 : -9223372036854775808 ≤ z) (h1 : z ≤ 9223372036854775807) (h : sg s N = z) : formed s N 0 = (whole z, 0) :=
 formed_of (K := 0) (whole_may h0 h1) (Nat.le_refl _) (Nat.le_refl _) (by rw [vl_whole, Nat.sub_self, Nat.pow_zero, Nat.mul_one, h])
theorem div_is {X D q r : Int} (h : X = D * q + r) (h0 : 0 ≤ r) (h1 : r < D) : X / D = q :=
 ((Int.ediv_emod_unique (r := r) (by omega)).2 ⟨by omega, h0, h1⟩).1
theorem near_pos (M B : Nat) (hB : 0 < B) : ((M * 2 / B / 2 + if M * 2 / B % 2 = 1 then 1 else 0 : Nat) : Int) = (2 * (M : Int) + B) / (2 * B) := by
 have h1 : B * (M * 2 / B) + M * 2 % B = M * 2 := Nat.div_add_mod _ B
 have h2 := Nat.mod_lt (M * 2) hB
 generalize M * 2 / B = q at *
 generalize M * 2 % B = r at *
 have h3 : q = 2 * (q / 2) + q % 2 := by omega
 generalize q / 2 = p at *
 have h4 : B * q = 2 * (B * p) + B * (q % 2) := by
  conv => lhs; rw [h3, Nat.mul_add, Nat.mul_left_comm]
 have h5 : q % 2 = 0 ∨ q % 2 = 1 := by omega
 have h6 : (2 * (B : Int)) * (p : Int) = 2 * ((B * p : Nat) : Int) := by push_cast; rw [Int.mul_assoc]
 symm
 rcases h5 with h5 | h5
 · rw [h5, Nat.mul_zero] at h4
   rw [h5, if_neg (by decide)]
   refine div_is (r := (r : Int) + B) ?_ (by omega) (by omega)
   rw [Nat.add_zero, h6]
   omega
 · rw [h5, Nat.mul_one] at h4
   rw [h5, if_pos rfl]
   refine div_is (r := (r : Int)) ?_ (by omega) (by omega)
   rw [Int.natCast_add, Int.mul_add, h6]
   omega
theorem near_neg (M B : Nat) (hB : 0 < B) : -((M * 2 / B / 2 + if M * 2 / B % 2 = 1 ∧ M * 2 % B ≠ 0 then 1 else 0 : Nat) : Int) = (2 * (-(M : Int)) + B) / (2 * B) := by
 have h1 : B * (M * 2 / B) + M * 2 % B = M * 2 := Nat.div_add_mod _ B
 have h2 := Nat.mod_lt (M * 2) hB
 generalize M * 2 / B = q at *
 generalize M * 2 % B = r at *
 have h3 : q = 2 * (q / 2) + q % 2 := by omega
 generalize q / 2 = p at *
 have h4 : B * q = 2 * (B * p) + B * (q % 2) := by
  conv => lhs; rw [h3, Nat.mul_add, Nat.mul_left_comm]
 have h5 : q % 2 = 0 ∨ q % 2 = 1 := by omega
 have h6 : (2 * (B : Int)) * (p : Int) = 2 * ((B * p : Nat) : Int) := by push_cast; rw [Int.mul_assoc]
 symm
 rcases h5 with h5 | h5
 · rw [h5, Nat.mul_zero] at h4
   rw [h5, if_neg (fun h => by cases h.1)]
   refine div_is (r := (B : Int) - r) ?_ (by omega) (by omega)
   rw [Nat.add_zero, Int.mul_neg (2 * (B : Int)), h6]
   omega
 · rw [h5, Nat.mul_one] at h4
   by_cases hr : r = 0
   · rw [if_neg (fun h => h.2 hr)]
     refine div_is (r := 0) ?_ (by omega) (by omega)
     rw [Nat.add_zero, Int.mul_neg (2 * (B : Int)), h6]
     omega
   · rw [if_pos ⟨h5, hr⟩]
     refine div_is (r := 2 * (B : Int) - r) ?_ (by omega) (by omega)
     rw [Int.natCast_add, Int.mul_neg (2 * (B : Int)), Int.mul_add, h6]
     omega
theorem near_sg {a b : Dn} (hn : b.neg = false) (h0 : b.m ≠ 0) {K : Nat} (hK : a.e + b.e ≤ K) :
  ∃ N, nearD a b = formed a.neg N 0 ∧ sg a.neg N = (2 * vl a K + vl b K) / (2 * vl b K) := by
 obtain ⟨q1, q2⟩ := quo_at a b 1 hK
 obtain ⟨b1, b2⟩ := vl_pos hn h0 K
 refine ⟨_, rfl, ?_⟩
 rw [b1]
 unfold vl
 rw [Nat.pow_one] at q1 q2
 generalize a.m * 2 ^ (K - a.e) = M at *
 generalize b.m * 2 ^ (K - b.e) = B at *
 rw [q1]
 cases a.neg
 · have := near_pos M B b2
   simp only [sg, Bool.false_eq_true, if_false, true_or, and_true]
   exact this
 · have := near_neg M B b2
   have e : (M * 2 / B % 2 = 1 ∧ (true = false ∨ (quoN a b 1).2 ≠ 0)) ↔ (M * 2 / B % 2 = 1 ∧ M * 2 % B ≠ 0) := by
    constructor
    · rintro ⟨x, y | y⟩
      · cases y
      · exact ⟨x, mt q2.2 y⟩
    · rintro ⟨x, y⟩
      exact ⟨x, .inr (mt q2.1 y)⟩
   simp only [e]
   exact this
theorem whole_near {m n z : Int} (hn : 0 < n) (h0 : -9223372036854775808 ≤ z) (h1 : z ≤ 9223372036854775807) (h : (2 * m + n) / (2 * n) = z) : nearD (whole m) (whole n) = (whole z, 0) := by
 obtain ⟨p1, p2⟩ := whole_pos hn
 obtain ⟨N, e1, e2⟩ := near_sg (a := whole m) p1 p2 (K := 0) (Nat.le_refl _)
 rw [e1]
 refine whole_of h0 h1 ?_
 rw [e2, vl_whole, vl_whole, h]
end Dp
end Go.Proofs.YtmbppgjhdcmckaaDoor
namespace Go.Proofs.YtmbppgjhdcmckaaDoor
open Go.RowKit
namespace Dy
open Dp
theorem later {a b c : World} (h : Below a.heap.size a b) (k : Below b.heap.size b c) : Below a.heap.size a c := h.trans (k.mono h.size)
theorem lz {a b c : World} (h : Below a.heap.size a b) (k : Below b.heap.size b c) : Below a.heap.size a c := later h k
theorem box_later {w w' : World} {g : Nat} {o : Obj} (h : w.heap[g]? = some o) (hb : Below w.heap.size w w') (hg : g < w.heap.size) : w'.heap[g]? = some o := (hb.block g hg).trans h
theorem tab_later {w w' : World} (h : Tab w) (hb : Below w.heap.size w w') : Tab w' := h.below hb h.lt
end Dy
end Go.Proofs.YtmbppgjhdcmckaaDoor
namespace Go.Proofs.YtmbppgjhdcmckaaDoor
open Go.RowKit
namespace Dy
open Dp
/-- How the codes of a quotient down and up stand. -/
theorem codes_two {s1 : Bool} {xs1 : List Int} {e1 : Int} {s2 : Bool} {xs2 : List Int} {e2 k : Int} {aw bw : Bool} {x y : Dn} {e f : Int} (hx : toX s1 xs1 e1 s2 xs2 e2 k aw = (x, e)) (hy : toX s1 xs1 e1 s2 xs2 e2 k bw = (y, f)) :
  (e = 0 ∧ f = 0) ∨ (e = 0 ∧ f = 10) ∨ (e = 10 ∧ f = 0) ∨ (e = 10 ∧ f = 10) ∨ (e = 2 ∧ f = 2 ∧ askX s1 xs1 e1 s2 xs2 e2 k = 2) ∨ (e = 8 ∧ f = 8 ∧ askX s1 xs1 e1 s2 xs2 e2 k = 8) := by
 rcases ask_two s1 xs1 e1 s2 xs2 e2 k with h | h | h <;> rcases toX_code hx with ⟨h1, h2⟩ | ⟨h1, h2⟩ <;> rcases toX_code hy with ⟨h3, h4⟩ | ⟨h3, h4⟩ <;> omega
end Dy
end Go.Proofs.YtmbppgjhdcmckaaDoor
namespace Go.Proofs.YtmbppgjhdcmckaaDoor
open Go.RowKit
namespace Dy
open Dp
theorem boxS {w : World} {g : Nat} {x y : Value} {t : TypeId} (h : w.heap[g]? = some (.cells #[x, y] t (0, 0))) :
  (w.cell? ⟨g, 0, none⟩ = some x ∧ w.cell? ⟨g, 1, none⟩ = some y) ∧ (w.frozen? ⟨g, 0, none⟩ = false ∧ w.frozen? ⟨g, 1, none⟩ = false) :=
 ⟨⟨cell_of_row w g 0 _ t _ h, cell_of_row w g 1 _ t _ h⟩, frozen_of_row w g 0 _ t h, frozen_of_row w g 1 _ t h⟩
end Dy
end Go.Proofs.YtmbppgjhdcmckaaDoor
namespace Go.Proofs.YtmbppgjhdcmckaaDoor
open Go.RowKit
namespace Dy
open Dp
theorem box_put {w : World} {g : Nat} {x y z : Value} {t : TypeId} (h : w.heap[g]? = some (.cells #[x, y, z] t (0, 0))) (x' y' z' : Value) : (((w.setCell ⟨g, 0, none⟩ x').setCell ⟨g, 1, none⟩ y').setCell ⟨g, 2, none⟩ z').heap[g]? = some (.cells #[x', y', z'] t (0, 0)) := by
 simp [World.setCell, Array.getElem?_modify, h]
theorem below_put {w0 w : World} {B g : Nat} (h : Below B w0 w) (hg : B ≤ g) (x' y' z' : Value) : Below B w0 (((w.setCell ⟨g, 0, none⟩ x').setCell ⟨g, 1, none⟩ y').setCell ⟨g, 2, none⟩ z') := ((h.setCell hg _).setCell hg _).setCell hg _
theorem ints_put {w : World} {lo hi : Nat} {k : IntKind} {A : Option Addr} {n : Nat} {xs : List Int} (h : Ints w lo hi k A n xs) {g : Nat} (hg : g < lo ∨ hi ≤ g) (x' y' z' : Value) : Ints (((w.setCell ⟨g, 0, none⟩ x').setCell ⟨g, 1, none⟩ y').setCell ⟨g, 2, none⟩ z') lo hi k A n xs := ints_far (ints_far (ints_far h hg _) hg _) hg _
theorem size_put {w : World} {g : Nat} (x' y' z' : Value) : (((w.setCell ⟨g, 0, none⟩ x').setCell ⟨g, 1, none⟩ y').setCell ⟨g, 2, none⟩ z').heap.size = w.heap.size := by simp [World.setCell]
end Dy
end Go.Proofs.YtmbppgjhdcmckaaDoor