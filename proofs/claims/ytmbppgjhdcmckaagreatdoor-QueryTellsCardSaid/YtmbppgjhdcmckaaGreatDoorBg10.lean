/- What is reckoned with dyads, whatever they are: contracts. -/
/- How two dyads stand, whatever they are. -/
/- The laws of quotients: no program in sight. -/
/- The laws of quotients, for any arguments: no program in sight. -/
/- Quotients of whole numbers: no program in sight. -/
/- Facts are moved along a chain of calls. No function in sight. -/
/- The law RatioBand: a walk (printed by a program of mine). -/
/- The reference's May: walks (printed by gen_dys1.py out of DyW1). -/
import Derived.Test.YtmbppgjhdcmckaaGreatDoorBg09
import Derived.Test.YtmbppgjhdcmckaaGreatDoorBg07
import Derived.Test.YtmbppgjhdcmckaaGreatDoorBg03
namespace Go.Proofs.YtmbppgjhdcmckaaGreatDoor
open Go.RowKit
namespace Dy
open Dp
open Classical in
noncomputable def addX (s1 : Bool) (xs1 : List Int) (e1 : Int) (s2 : Bool) (xs2 : List Int) (e2 : Int) : Dn × Int := if MayD s1 xs1 e1 ∧ MayD s2 xs2 e2 then addD (dn s1 xs1 e1) (dn s2 xs2 e2) else (Dn.zero, 8)
open Classical in
noncomputable def subX (s1 : Bool) (xs1 : List Int) (e1 : Int) (s2 : Bool) (xs2 : List Int) (e2 : Int) : Dn × Int := if MayD s1 xs1 e1 ∧ MayD s2 xs2 e2 then subD (dn s1 xs1 e1) (dn s2 xs2 e2) else (Dn.zero, 8)
open Classical in
noncomputable def halfX (s1 : Bool) (xs1 : List Int) (e1 : Int) : Dn × Int := if MayD s1 xs1 e1 then halfD (dn s1 xs1 e1) else (Dn.zero, 8)
open Classical in
noncomputable def chkX (s1 : Bool) (xs1 : List Int) (e1 : Int) : Int := if MayD s1 xs1 e1 then 0 else 8
theorem bad_formed {w : World} {e : Ending} {w' : World} (h : Bad w e w') : Formed w Dn.zero 8 e w' := ⟨none, 0, 0, h.1, Nat.le_refl _, h.2, Ints.nil_ ..⟩
theorem addX_ok {s1 s2 : Bool} {xs1 xs2 : List Int} {e1 e2 : Int} (h1 : MayD s1 xs1 e1) (h2 : MayD s2 xs2 e2) : addX s1 xs1 e1 s2 xs2 e2 = addD (dn s1 xs1 e1) (dn s2 xs2 e2) := if_pos ⟨h1, h2⟩
theorem halfX_may (s1 : Bool) (xs1 : List Int) (e1 : Int) : (halfX s1 xs1 e1).1.May := by
 unfold halfX
 split
 · exact half_may ..
 · exact zero_may
theorem Half_all (w : World) (s1 : Bool) (A1 : Option Addr) (n1 c1 : Nat) (xs1 : List Int) (e1 : Int) (h1 : Ints w 0 w.heap.size .u32 A1 n1 xs1) (hT : Tab w) (r : Dn) (code : Int) (h : halfX s1 xs1 e1 = (r, code)) :
  Calls Tryz.prog 82 #[.agg #[.bool s1, .slice A1 n1 c1, .int .i64 e1]] w (Formed w r code) := by
 unfold halfX at h
 split at h
 · rename_i hm
   exact Half_raw w s1 A1 n1 c1 xs1 e1 h1 hm hT r code h
 · rename_i hm
   injection h with h3 h4
   subst h3 h4
   exact (Half_bad w s1 A1 n1 c1 xs1 e1 h1 hm).mono fun _ _ k => bad_formed k
theorem Check_all (w : World) (s1 : Bool) (A1 : Option Addr) (n1 c1 : Nat) (xs1 : List Int) (e1 : Int) (h1 : Ints w 0 w.heap.size .u32 A1 n1 xs1) (k : Int) (h : chkX s1 xs1 e1 = k) :
  Calls Tryz.prog 137 #[.agg #[.bool s1, .slice A1 n1 c1, .int .i64 e1]] w fun e w' => e = .returned (.int .i64 k) ∧ Below w.heap.size w w' := by
 unfold chkX at h
 split at h
 · subst h
   exact Check_ok w 0 w.heap.size s1 A1 n1 c1 xs1 e1 h1 (Nat.le_refl _) (by assumption)
 · subst h
   exact Check_bad w 0 w.heap.size s1 A1 n1 c1 xs1 e1 h1 (Nat.le_refl _) (by assumption)
end Dy
end Go.Proofs.YtmbppgjhdcmckaaGreatDoor
namespace Go.Proofs.YtmbppgjhdcmckaaGreatDoor
open Go.RowKit
namespace Dy
open Dp
open Classical in
noncomputable def cmpX (s1 : Bool) (xs1 : List Int) (e1 : Int) (s2 : Bool) (xs2 : List Int) (e2 : Int) : Int × Int := if MayD s1 xs1 e1 ∧ MayD s2 xs2 e2 then (cmpD (dn s1 xs1 e1) (dn s2 xs2 e2), 0) else (0, 8)
end Dy
end Go.Proofs.YtmbppgjhdcmckaaGreatDoor
namespace Go.Proofs.YtmbppgjhdcmckaaGreatDoor
namespace Dp
theorem floor_neg {M B : Nat} (hB : 0 < B) : (-(M : Int)) / (B : Int) = -((M / B + (if M % B ≠ 0 then 1 else 0) : Nat) : Int) := by
 have h1 : B * (M / B) + M % B = M := Nat.div_add_mod M B
 have h2 := Nat.mod_lt M hB
 have h3 : ((B : Int) * ((M / B : Nat) : Int)) + ((M % B : Nat) : Int) = M := by exact_mod_cast h1
 generalize M / B = q at *
 generalize M % B = r at *
 split
 · refine ((Int.ediv_emod_unique (r := (B : Int) - r) (by omega)).2 ⟨?_, by omega, by omega⟩).1
   rw [Int.natCast_add, Int.mul_neg, Int.mul_add]
   simp only [Int.natCast_one, Int.mul_one]
   omega
 · refine ((Int.ediv_emod_unique (r := 0) (by omega)).2 ⟨?_, by omega, by omega⟩).1
   rw [Nat.add_zero, Int.mul_neg]
   omega
theorem quo_at (a b : Dn) (k : Nat) {K : Nat} (hK : a.e + b.e ≤ K) : (quoN a b k).1 = (a.m * 2 ^ (K - a.e) * 2 ^ k) / (b.m * 2 ^ (K - b.e)) ∧ ((quoN a b k).2 = 0 ↔ (a.m * 2 ^ (K - a.e) * 2 ^ k) % (b.m * 2 ^ (K - b.e)) = 0) := by
 obtain ⟨h1, h2⟩ := quo_shift (a.m * 2 ^ (b.e + k)) (b.m * 2 ^ a.e) (K - a.e - b.e)
 have e1 : a.m * 2 ^ (b.e + k) * 2 ^ (K - a.e - b.e) = a.m * 2 ^ (K - a.e) * 2 ^ k := by
  rw [Nat.mul_assoc, Nat.mul_assoc, ← Nat.pow_add, ← Nat.pow_add]
  congr 2
  omega
 have e2 : b.m * 2 ^ a.e * 2 ^ (K - a.e - b.e) = b.m * 2 ^ (K - b.e) := by
  rw [Nat.mul_assoc, ← Nat.pow_add]
  congr 2
  omega
 rw [e1, e2] at h1 h2
 exact ⟨h1.symm, h2.symm⟩
theorem vl_pos {b : Dn} (hn : b.neg = false) (h0 : b.m ≠ 0) (K : Nat) : vl b K = ((b.m * 2 ^ (K - b.e) : Nat) : Int) ∧ 0 < b.m * 2 ^ (K - b.e) := by
 unfold vl sg
 rw [hn]
 exact ⟨rfl, Nat.mul_pos (Nat.pos_of_ne_zero h0) (Nat.pow_pos (by decide))⟩
theorem pos_vl {b : Dn} {K : Nat} (h : 0 < vl b K) : b.neg = false ∧ b.m ≠ 0 := by
 unfold vl sg at h
 cases hn : b.neg
 · refine ⟨rfl, fun h0 => ?_⟩
   rw [hn, h0] at h
   simp at h
 · rw [hn] at h
   simp only [if_true] at h
   omega
theorem vl_scaled (a : Dn) (K k : Nat) : vl a K * (2 : Int) ^ k = sg a.neg (a.m * 2 ^ (K - a.e) * 2 ^ k) := by
 unfold vl
 rw [sg_mul _ _ (2 ^ k)]
 norm_cast
/-- Down. -/
theorem toD_floor {a b : Dn} (hn : b.neg = false) (h0 : b.m ≠ 0) (k : Nat) {K : Nat} (hK : a.e + b.e ≤ K) :
  ∃ N, toD a b k a.neg = formed a.neg N k ∧ sg a.neg N = vl a K * 2 ^ k / vl b K := by
 obtain ⟨q1, q2⟩ := quo_at a b k hK
 obtain ⟨b1, b2⟩ := vl_pos hn h0 K
 refine ⟨_, rfl, ?_⟩
 rw [vl_scaled, b1]
 generalize a.m * 2 ^ (K - a.e) * 2 ^ k = M at *
 generalize b.m * 2 ^ (K - b.e) = B at *
 cases a.neg
 · rw [if_neg (fun h => by cases h.2), Nat.add_zero, q1]
   exact Int.natCast_ediv M B
 · show -(((_ : Nat)) : Int) = (-(M : Int)) / (B : Int)
   rw [floor_neg b2, q1]
   congr 2
   by_cases h : M % B = 0
   · simp [q2.2 h, h]
   · simp [mt q2.1 h, h]
/-- Up. -/
theorem toD_ceil {a b : Dn} (hn : b.neg = false) (h0 : b.m ≠ 0) (k : Nat) {K : Nat} (hK : a.e + b.e ≤ K) :
  ∃ N, toD a b k (!a.neg) = formed a.neg N k ∧ sg a.neg N = -(-(vl a K * 2 ^ k) / vl b K) := by
 obtain ⟨q1, q2⟩ := quo_at a b k hK
 obtain ⟨b1, b2⟩ := vl_pos hn h0 K
 refine ⟨_, rfl, ?_⟩
 rw [vl_scaled, b1]
 generalize a.m * 2 ^ (K - a.e) * 2 ^ k = M at *
 generalize b.m * 2 ^ (K - b.e) = B at *
 cases a.neg
 · show (((_ : Nat)) : Int) = -(-(M : Int) / (B : Int))
   rw [floor_neg b2, q1, Int.neg_neg]
   congr 2
   by_cases h : M % B = 0
   · simp [q2.2 h, h]
   · simp [mt q2.1 h, h]
 · rw [if_neg (fun h => by cases h.2), Nat.add_zero, q1]
   show -((M / B : Nat) : Int) = -(-(-(M : Int)) / (B : Int))
   rw [Int.neg_neg]
   rw [Int.natCast_ediv M B]
theorem formed_sg {s t : Bool} {m n : Nat} (h : sg s m = sg t n) (k : Nat) : formed s m k = formed t n k := by
 by_cases h0 : m = 0
 · subst h0
   rw [sg_zero] at h
   have := sg_nil h.symm
   subst this
   simp [formed]
 · obtain ⟨h1, h2⟩ := sg_inj h h0
   rw [h1, h2]
end Dp
end Go.Proofs.YtmbppgjhdcmckaaGreatDoor
namespace Go.Proofs.YtmbppgjhdcmckaaGreatDoor
namespace Dy
open Dp
theorem dn_ne {s : Bool} {xs : List Int} {e : Int} (hd : Dig 4294967296 xs) (h : MayD s xs e) (hx : xs ≠ []) : (dn s xs e).m ≠ 0 := fun h0 => hx (by rw [← (dn_ok hd h).2.1, h0]; rfl)
theorem cmpX_dn {x y : Dn} (hx : x.May) (hy : y.May) : cmpX x.neg (canon 4294967296 x.m) x.e y.neg (canon 4294967296 y.m) y.e = (cmpD x y, 0) := by
 unfold cmpX
 rw [if_pos ⟨dn_may hx, dn_may hy⟩, dn_of, dn_of]
/-- Codes of quotients. -/
theorem toX_code {s1 : Bool} {xs1 : List Int} {e1 : Int} {s2 : Bool} {xs2 : List Int} {e2 k : Int} {away : Bool} {x : Dn} {c : Int} (h : toX s1 xs1 e1 s2 xs2 e2 k away = (x, c)) : (askX s1 xs1 e1 s2 xs2 e2 k = 0 ∧ (c = 0 ∨ c = 10)) ∨ (askX s1 xs1 e1 s2 xs2 e2 k = c ∧ c ≠ 0) := by
 unfold toX at h
 split at h
 · rename_i hm
   rcases formed_cases (dn s1 xs1 e1).neg ((quoN (dn s1 xs1 e1) (dn s2 xs2 e2) k.toNat).1 + if (quoN (dn s1 xs1 e1) (dn s2 xs2 e2) k.toNat).2 ≠ 0 ∧ away = true then 1 else 0) k.toNat with hc | hc
   · have h2 := congrArg Prod.snd h
     exact .inl ⟨hm, .inl (h2.symm.trans hc)⟩
   · have h2 := congrArg Prod.snd h
     exact .inl ⟨hm, .inr (h2.symm.trans (congrArg Prod.snd hc))⟩
 · rename_i hm
   have := congrArg Prod.snd h
   exact .inr ⟨this, fun e => hm (this.trans e)⟩
end Dy
end Go.Proofs.YtmbppgjhdcmckaaGreatDoor
namespace Go.Proofs.YtmbppgjhdcmckaaGreatDoor
namespace Dp
/-- A whole number. -/
def whole (z : Int) : Dn := ⟨decide (z < 0), z.natAbs, 0⟩
theorem whole_may {z : Int} (h0 : -9223372036854775808 ≤ z) (h1 : z ≤ 9223372036854775807) : (whole z).May := by
 refine ⟨capD_gt (k := 64) (show z.natAbs < 2 ^ 64 by omega) (by decide), Nat.zero_le _, fun h => ⟨rfl, ?_⟩, fun h => absurd h (Nat.lt_irrefl 0)⟩
 have h : z.natAbs = 0 := h
 exact decide_eq_false (by omega)
theorem vl_whole (z : Int) : vl (whole z) 0 = z := by
 unfold vl sg whole
 simp only [Nat.sub_self, Nat.pow_zero, Nat.mul_one]
 split
 · rename_i h
   have := of_decide_eq_true h
   omega
 · rename_i h
   have : ¬ z < 0 := fun k => h (decide_eq_true k)
   omega
theorem whole_pos {n : Int} (hn : 0 < n) : (whole n).neg = false ∧ (whole n).m ≠ 0 := by
 refine ⟨decide_eq_false (by omega), ?_⟩
 show n.natAbs ≠ 0
 omega
theorem whole_of {s : Bool} {N : Nat} {z : Int} (h0 : -9223372036854775808 ≤ z) (h1 : z ≤ 9223372036854775807) (h : sg s N = z) : formed s N 0 = (whole z, 0) :=
 formed_of (K := 0) (whole_may h0 h1) (Nat.le_refl _) (Nat.le_refl _) (by rw [vl_whole, Nat.sub_self, Nat.pow_zero, Nat.mul_one, h])
theorem div_is {X D q r : Int} (h : X = D * q + r) (h0 : 0 ≤ r) (h1 : r < D) : X / D = q :=
 ((Int.ediv_emod_unique (r := r) (by omega)).2 ⟨by omega, h0, h1⟩).1
theorem near_pos (M B : Nat) (hB : 0 < B) : ((M * 2 / B / 2 + if M * 2 / B % 2 = 1 then 1 else 0 : Nat) : Int) = (2 * (M : Int) + B) / (2 * B) := by
 have h1 : B * (M * 2 / B) + M * 2 % B = M * 2 := Nat.div_add_mod _ B
 have h2 := Nat.mod_lt (M * 2) hB
 generalize M * 2 / B = q at *
 generalize M * 2 % B = r at *
 have h3 : q = 2 * (q / 2) + q % 2 := by omega
 generalize q / 2 = p at *
 have h4 : B * q = 2 * (B * p) + B * (q % 2) := by
  conv => lhs; rw [h3, Nat.mul_add, Nat.mul_left_comm]
 have h5 : q % 2 = 0 ∨ q % 2 = 1 := by omega
 have h6 : (2 * (B : Int)) * (p : Int) = 2 * ((B * p : Nat) : Int) := by push_cast; rw [Int.mul_assoc]
 symm
 rcases h5 with h5 | h5
 · rw [h5, Nat.mul_zero] at h4
   rw [h5, if_neg (by decide)]
   refine div_is (r := (r : Int) + B) ?_ (by omega) (by omega)
   rw [Nat.add_zero, h6]
   omega
 · rw [h5, Nat.mul_one] at h4
   rw [h5, if_pos rfl]
   refine div_is (r := (r : Int)) ?_ (by omega) (by omega)
   rw [Int.natCast_add, Int.mul_add, h6]
   omega
theorem near_neg (M B : Nat) (hB : 0 < B) : -((M * 2 / B / 2 + if M * 2 / B % 2 = 1 ∧ M * 2 % B ≠ 0 then 1 else 0 : Nat) : Int) = (2 * (-(M : Int)) + B) / (2 * B) := by
 have h1 : B * (M * 2 / B) + M * 2 % B = M * 2 := Nat.div_add_mod _ B
 have h2 := Nat.mod_lt (M * 2) hB
 generalize M * 2 / B = q at *
 generalize M * 2 % B = r at *
 have h3 : q = 2 * (q / 2) + q % 2 := by omega
 generalize q / 2 = p at *
 have h4 : B * q = 2 * (B * p) + B * (q % 2) := by
  conv => lhs; rw [h3, Nat.mul_add, Nat.mul_left_comm]
 have h5 : q % 2 = 0 ∨ q % 2 = 1 := by omega
 have h6 : (2 * (B : Int)) * (p : Int) = 2 * ((B * p : Nat) : Int) := by push_cast; rw [Int.mul_assoc]
 symm
 rcases h5 with h5 | h5
 · rw [h5, Nat.mul_zero] at h4
   rw [h5, if_neg (fun h => by cases h.1)]
   refine div_is (r := (B : Int) - r) ?_ (by omega) (by omega)
   rw [Nat.add_zero, Int.mul_neg (2 * (B : Int)), h6]
   omega
 · rw [h5, Nat.mul_one] at h4
   by_cases hr : r = 0
   · rw [if_neg (fun h => h.2 hr)]
     refine div_is (r := 0) ?_ (by omega) (by omega)
     rw [Nat.add_zero, Int.mul_neg (2 * (B : Int)), h6]
     omega
   · rw [if_pos ⟨h5, hr⟩]
     refine div_is (r := 2 * (B : Int) - r) ?_ (by omega) (by omega)
     rw [Int.natCast_add, Int.mul_neg (2 * (B : Int)), Int.mul_add, h6]
     omega
theorem near_sg {a b : Dn} (hn : b.neg = false) (h0 : b.m ≠ 0) {K : Nat} (hK : a.e + b.e ≤ K) :
  ∃ N, nearD a b = formed a.neg N 0 ∧ sg a.neg N = (2 * vl a K + vl b K) / (2 * vl b K) := by
 obtain ⟨q1, q2⟩ := quo_at a b 1 hK
 obtain ⟨b1, b2⟩ := vl_pos hn h0 K
 refine ⟨_, rfl, ?_⟩
 rw [b1]
 unfold vl
 rw [Nat.pow_one] at q1 q2
 generalize a.m * 2 ^ (K - a.e) = M at *
 generalize b.m * 2 ^ (K - b.e) = B at *
 rw [q1]
 cases a.neg
 · have := near_pos M B b2
   simp only [sg, Bool.false_eq_true, if_false, true_or, and_true]
   exact this
 · have := near_neg M B b2
   have e : (M * 2 / B % 2 = 1 ∧ (true = false ∨ (quoN a b 1).2 ≠ 0)) ↔ (M * 2 / B % 2 = 1 ∧ M * 2 % B ≠ 0) := by
    constructor
    · rintro ⟨x, y | y⟩
      · cases y
      · exact ⟨x, mt q2.2 y⟩
    · rintro ⟨x, y⟩
      exact ⟨x, .inr (mt q2.1 y)⟩
   simp only [e]
   exact this
theorem whole_near {m n z : Int} (hn : 0 < n) (h0 : -9223372036854775808 ≤ z) (h1 : z ≤ 9223372036854775807) (h : (2 * m + n) / (2 * n) = z) : nearD (whole m) (whole n) = (whole z, 0) := by
 obtain ⟨p1, p2⟩ := whole_pos hn
 obtain ⟨N, e1, e2⟩ := near_sg (a := whole m) p1 p2 (K := 0) (Nat.le_refl _)
 rw [e1]
 refine whole_of h0 h1 ?_
 rw [e2, vl_whole, vl_whole, h]
end Dp
end Go.Proofs.YtmbppgjhdcmckaaGreatDoor
namespace Go.Proofs.YtmbppgjhdcmckaaGreatDoor
open Go.RowKit
namespace Dy
open Dp
theorem later {a b c : World} (h : Below a.heap.size a b) (k : Below b.heap.size b c) : Below a.heap.size a c := h.trans (k.mono h.size)
theorem lz {a b c : World} (h : Below a.heap.size a b) (k : Below b.heap.size b c) : Below a.heap.size a c := later h k
theorem box_later {w w' : World} {g : Nat} {o : Obj} (h : w.heap[g]? = some o) (hb : Below w.heap.size w w') (hg : g < w.heap.size) : w'.heap[g]? = some o := (hb.block g hg).trans h
theorem tab_later {w w' : World} (h : Tab w) (hb : Below w.heap.size w w') : Tab w' := h.below hb h.lt
end Dy
end Go.Proofs.YtmbppgjhdcmckaaGreatDoor
namespace Go.Proofs.YtmbppgjhdcmckaaGreatDoor
open Go.RowKit
namespace Dy
open Dp
/-- How the codes of a quotient down and up stand. -/
theorem codes_two {s1 : Bool} {xs1 : List Int} {e1 : Int} {s2 : Bool} {xs2 : List Int} {e2 k : Int} {aw bw : Bool} {x y : Dn} {e f : Int} (hx : toX s1 xs1 e1 s2 xs2 e2 k aw = (x, e)) (hy : toX s1 xs1 e1 s2 xs2 e2 k bw = (y, f)) :
  (e = 0 ∧ f = 0) ∨ (e = 0 ∧ f = 10) ∨ (e = 10 ∧ f = 0) ∨ (e = 10 ∧ f = 10) ∨ (e = 2 ∧ f = 2 ∧ askX s1 xs1 e1 s2 xs2 e2 k = 2) ∨ (e = 8 ∧ f = 8 ∧ askX s1 xs1 e1 s2 xs2 e2 k = 8) := by
 rcases ask_two s1 xs1 e1 s2 xs2 e2 k with h | h | h <;> rcases toX_code hx with ⟨h1, h2⟩ | ⟨h1, h2⟩ <;> rcases toX_code hy with ⟨h3, h4⟩ | ⟨h3, h4⟩ <;> omega
end Dy
end Go.Proofs.YtmbppgjhdcmckaaGreatDoor
namespace Go.Proofs.YtmbppgjhdcmckaaGreatDoor
open Go.RowKit
namespace Dy
open Dp
set_option maxRecDepth 100000 in
/-- headcountref01.May: limbs that may be. -/
theorem r1May_ok (w : World) (lo hi : Nat) (A : Option Addr) (n c : Nat) (xs : List Int) (hX : Ints w lo hi .u32 A n xs) (h : MayL xs) :
  Calls Tryz.prog 203 #[.slice A n c] w fun e w' => e = .returned (.bool true) ∧ w' = w := by
 have hL := Lib.hid hX.len
 have h40 : n ≤ 40 := by have := h.1; have := hL.out; omega
 by_cases h0 : 0 < n
 · have hlast := (cutd_last hX.len h0).1 h.2
   obtain ⟨b, off, rfl, hcell⟩ := get hX h0
   have g1 : w.cell? ⟨b, off + (n - 1), none⟩ = some (.int .u32 (xs[n - 1]?.getD 0)) := hcell (n - 1) (by omega)
   have hb : (xs[n - 1]?.getD 0 != 0) = true := by simpa using hlast
   have hn0 : ((n : Int) == 0) = false := by simp; omega
   have e1 : ((n : Int) - 1).toNat = n - 1 := by omega
   clear hcell hlast h
   generalize xs[n - 1]?.getD 0 = v at g1 hb
   go_enter Tryz.func203, Tryz.ntmps203
   go_wp2
   go_ret
   exact ⟨rfl, rfl⟩
 · obtain rfl : n = 0 := by omega
   clear h
   go_enter Tryz.func203, Tryz.ntmps203
   go_wp2
   go_ret
   exact ⟨rfl, rfl⟩
set_option maxRecDepth 100000 in
/-- headcountref01.May: limbs that may not be. -/
theorem r1May_bad (w : World) (lo hi : Nat) (A : Option Addr) (n c : Nat) (xs : List Int) (hX : Ints w lo hi .u32 A n xs) (h : ¬ MayL xs) :
  Calls Tryz.prog 203 #[.slice A n c] w fun e w' => e = .returned (.bool false) ∧ w' = w := by
 have hL := Lib.hid hX.len
 have hbig := hX.big
 by_cases h40 : n ≤ 40
 · have h0 : 0 < n := by
     rcases Nat.eq_zero_or_pos n with h0 | h0
     · exact absurd ⟨by have := hL.out; omega, fun hne => absurd (hX.zero h0) hne⟩ h
     · exact h0
   have hlast : xs[n - 1]?.getD 0 = 0 := by
    by_cases hl : xs[n - 1]?.getD 0 = 0
    · exact hl
    · exact absurd ⟨by have := hL.out; omega, (cutd_last hX.len h0).2 hl⟩ h
   obtain ⟨b, off, rfl, hcell⟩ := get hX h0
   have g1 : w.cell? ⟨b, off + (n - 1), none⟩ = some (.int .u32 (xs[n - 1]?.getD 0)) := hcell (n - 1) (by omega)
   rw [hlast] at g1
   have hn0 : ((n : Int) == 0) = false := by simp; omega
   have e1 : ((n : Int) - 1).toNat = n - 1 := by omega
   clear hcell hlast h
   go_enter Tryz.func203, Tryz.ntmps203
   go_wp2
   go_ret
   exact ⟨rfl, rfl⟩
 · clear h
   go_enter Tryz.func203, Tryz.ntmps203
   go_wp2
   go_ret
   exact ⟨rfl, rfl⟩
set_option maxHeartbeats 800000 in
set_option maxRecDepth 100000 in
/-- headcountref02.May: dyads that may be. -/
theorem rMay_ok (w : World) (lo hi : Nat) (s : Bool) (A : Option Addr) (n c : Nat) (xs : List Int) (ex : Int) (hX : Ints w lo hi .u32 A n xs) (hhi : hi ≤ w.heap.size) (h : MayD s xs ex) :
  Calls Tryz.prog 181 #[.agg #[.bool s, .slice A n c, .int .i64 ex]] w fun e w' => e = .returned (.bool true) ∧ Below w.heap.size w w' := by
 have hL := Lib.hid hX.len
 have hX2 := hX.alloc hhi (.cells #[.bool s, .slice A n c, .int .i64 ex] 24)
 have hB := (Below.refl w.heap.size w).alloc (Nat.le_refl _) (.cells #[.bool s, .slice A n c, .int .i64 ex] 24)
 obtain ⟨hmay, he0, he1, hz, ho⟩ := h
 by_cases h0 : 0 < n
 · have hne : xs ≠ [] := fun e => by have := hL.out; rw [e] at this; simp at this; omega
   obtain ⟨b, off, rfl, hcell⟩ := get hX2 h0
   have g1 := hcell 0 h0
   rw [Nat.add_zero] at g1
   have ho' := ho hne
   have hn0 : ((n : Int) == 0) = false := by simp; omega
   obtain ⟨v0, v1⟩ := hX.u32 0
   clear hcell hz ho
   generalize xs[0]?.getD 0 = v at g1 ho' v0 v1
   by_cases hpos : 0 < ex
   · have hv := ho' hpos
     have hv2 : v % 2 = 1 := hv
     clear ho' hv hne
     go_enter Tryz.func181, Tryz.ntmps181
     go_wp2_with fail
     refine (r1May_ok _ _ _ _ _ _ _ hX2 hmay).mono ?_
     rintro e w1 ⟨rfl, rfl⟩
     clear hmay
     go_wp2
     go_ret
     exact ⟨rfl, hB⟩
   · obtain rfl : ex = 0 := by omega
     clear ho' hne he0 he1
     go_enter Tryz.func181, Tryz.ntmps181
     go_wp2_with fail
     refine (r1May_ok _ _ _ _ _ _ _ hX2 hmay).mono ?_
     rintro e w1 ⟨rfl, rfl⟩
     clear hmay
     go_wp2
     go_ret
     exact ⟨rfl, hB⟩
 · obtain rfl : n = 0 := by omega
   obtain ⟨rfl, rfl⟩ := hz (hX.zero rfl)
   clear ho he0 he1
   go_enter Tryz.func181, Tryz.ntmps181
   go_wp2_with fail
   refine (r1May_ok _ _ _ _ _ _ _ hX2 hmay).mono ?_
   rintro e w1 ⟨rfl, rfl⟩
   clear hmay
   go_wp2
   go_ret
   exact ⟨rfl, hB⟩
set_option maxHeartbeats 1600000 in
set_option maxRecDepth 100000 in
/-- headcountref02.May: dyads that may not be. -/
theorem rMay_bad (w : World) (lo hi : Nat) (s : Bool) (A : Option Addr) (n c : Nat) (xs : List Int) (ex : Int) (hX : Ints w lo hi .u32 A n xs) (hhi : hi ≤ w.heap.size) (h : ¬ MayD s xs ex) :
  Calls Tryz.prog 181 #[.agg #[.bool s, .slice A n c, .int .i64 ex]] w fun e w' => e = .returned (.bool false) ∧ Below w.heap.size w w' := by
 have hL := Lib.hid hX.len
 have hX2 := hX.alloc hhi (.cells #[.bool s, .slice A n c, .int .i64 ex] 24)
 have hB := (Below.refl w.heap.size w).alloc (Nat.le_refl _) (.cells #[.bool s, .slice A n c, .int .i64 ex] 24)
 have hbig := hX.big
 rcases not_may h with hm | ⟨hm, hx⟩ | ⟨hm, h0, h1, hz, hx⟩ | ⟨hm, h0, h1, hz, hx⟩
 · clear h
   go_enter Tryz.func181, Tryz.ntmps181
   go_wp2_with fail
   refine (r1May_bad _ _ _ _ _ _ _ hX2 hm).mono ?_
   rintro e w1 ⟨rfl, rfl⟩
   clear hm
   by_cases hn0 : n = 0
   · subst hn0
     go_wp2
     go_ret
     exact ⟨rfl, hB⟩
   · have hn1 : ((n : Int) == 0) = false := by simp; omega
     go_wp2
     go_ret
     exact ⟨rfl, hB⟩
 · clear h
   have hn1 : n ≠ 0 → ((n : Int) == 0) = false := fun h => by simp; omega
   rcases hx with hx | hx
   all_goals
    by_cases hn0 : n = 0
    · subst hn0
      clear hn1
      go_enter Tryz.func181, Tryz.ntmps181
      go_wp2_with fail
      refine (r1May_ok _ _ _ _ _ _ _ hX2 hm).mono ?_
      rintro e w1 ⟨rfl, rfl⟩
      clear hm
      go_wp2
      go_ret
      exact ⟨rfl, hB⟩
    · have hn2 := hn1 hn0
      clear hn1
      go_enter Tryz.func181, Tryz.ntmps181
      go_wp2_with fail
      refine (r1May_ok _ _ _ _ _ _ _ hX2 hm).mono ?_
      rintro e w1 ⟨rfl, rfl⟩
      clear hm
      go_wp2
      go_ret
      exact ⟨rfl, hB⟩
 · clear h
   subst hz
   obtain rfl : n = 0 := by have := hL.out; simp at this; omega
   by_cases hx0 : ex = 0
   · subst hx0
     obtain rfl : s = true := hx.resolve_left (fun h => h rfl)
     clear hx
     go_enter Tryz.func181, Tryz.ntmps181
     go_wp2_with fail
     refine (r1May_ok _ _ _ _ _ _ _ hX2 hm).mono ?_
     rintro e w1 ⟨rfl, rfl⟩
     clear hm
     go_wp2
     go_ret
     exact ⟨rfl, hB⟩
   · have hx1 : (ex != 0) = true := by simpa using hx0
     clear hx
     go_enter Tryz.func181, Tryz.ntmps181
     go_wp2_with fail
     refine (r1May_ok _ _ _ _ _ _ _ hX2 hm).mono ?_
     rintro e w1 ⟨rfl, rfl⟩
     clear hm
     go_wp2
     go_ret
     exact ⟨rfl, hB⟩
 · clear h
   have hn0 : 0 < n := by
    rcases Nat.eq_zero_or_pos n with h0 | h0
    · exact absurd (hX.zero h0) hz
    · exact h0
   obtain ⟨b, off, rfl, hcell⟩ := get hX2 hn0
   have g1 := hcell 0 hn0
   rw [Nat.add_zero] at g1
   have hn1 : ((n : Int) == 0) = false := by simp; omega
   obtain ⟨v0, v1⟩ := hX.u32 0
   clear hcell hz
   generalize xs[0]?.getD 0 = v at g1 hx v0 v1
   have hv : v % 2 = 0 := by omega
   have hx0 : (ex == 0) = false := by simp; omega
   clear hx
   go_enter Tryz.func181, Tryz.ntmps181
   go_wp2_with fail
   refine (r1May_ok _ _ _ _ _ _ _ hX2 hm).mono ?_
   rintro e w1 ⟨rfl, rfl⟩
   clear hm
   go_wp2
   go_ret
   exact ⟨rfl, hB⟩
end Dy
end Go.Proofs.YtmbppgjhdcmckaaGreatDoor