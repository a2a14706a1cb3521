/- push.both$1: whatever comes of the two calls; small laws for push.Take. -/
/- Shares' means, and what they lie between, in numbers. No program in sight. -/
/- RegionE: ways that meet: what stands where they meet is said once, and walked once. No program in sight. -/
/- push.Between: a walk (printed by a program of mine). -/
/- The laws of shares: what lies between two values. No program in sight. -/
/- The laws of shares: what push.Between tells. No program in sight. -/
/- Shares with known numbers: what is kept, sent, taken, told. No program in sight. -/
/- headcountlaw15.spoil: a walk; rows that are spoilt one behind the other. -/
import Derived.Test.YtmbppgjhdcmckaaGreatDoorBg16
import Derived.Test.YtmbppgjhdcmckaaGreatDoorBg04
import Derived.Test.YtmbppgjhdcmckaaGreatDoorBg10
import Derived.Test.YtmbppgjhdcmckaaGreatDoorBg09
namespace Go.Proofs.YtmbppgjhdcmckaaGreatDoor
open Go.RowKit
namespace Ma
open Dp Dy
/-- What both tells. -/
def BothR (a b : Dv) (q f : Int) (X Y : Dv) (c : Int) : Prop :=
 (q = 0 ∧ f = 0 ∧ X = a ∧ Y = b ∧ c = 0) ∨ (q ≠ 0 ∧ X = ZM.C ∧ Y = ZM.C ∧ c = q) ∨ (q = 0 ∧ f ≠ 0 ∧ X = ZM.C ∧ Y = ZM.C ∧ c = f)
theorem BothR.all {a b : Dv} {q f : Int} {X Y : Dv} {c : Int} (h : BothR a b q f X Y c) {P : Dv → Prop} (ha : P a) (hb : P b) (hz : P ZM.C) : P X ∧ P Y := by
 rcases h with ⟨_, _, rfl, rfl, _⟩ | ⟨_, rfl, rfl, _⟩ | ⟨_, _, rfl, rfl, _⟩
 · exact ⟨ha, hb⟩
 · exact ⟨hz, hz⟩
 · exact ⟨hz, hz⟩
theorem alloc_d (w : World) : ∃ U, w.alloc (.cells #[.bool false, .slice none 0 0, .int .i64 0] 24) = U ∧ U.heap[w.heap.size]? = some (.cells #[.bool false, .slice none 0 0, .int .i64 0] 24 (0, 0)) ∧ Below w.heap.size w U ∧ w.heap.size < U.heap.size :=
 ⟨_, rfl, heap_alloc_last _ _, (Below.refl _ w).alloc (Nat.le_refl _) _, by simp⟩
/-- A row, in neither of two blocks. -/
def OffD (w : World) (lo g g' : Nat) (d : Dv) : Prop := Ints w lo w.heap.size .u32 d.A d.n d.xs ∧ (0 < d.n → ∀ b off, d.A = some ⟨b, off, none⟩ → b ≠ g ∧ b ≠ g')
theorem OffD.zero (w : World) (lo g g' : Nat) : OffD w lo g g' ZM.C := ⟨Ints.nil_ .., fun h => absurd h (Nat.lt_irrefl 0)⟩
theorem OffD.of {w : World} {lo l h g g' : Nat} {d : Dv} (hI : Ints w l h .u32 d.A d.n d.xs) (hl : lo ≤ l) (hh : h ≤ w.heap.size) (h1 : g < l ∨ h ≤ g) (h2 : g' < l ∨ h ≤ g') : OffD w lo g g' d :=
 ⟨hI.more hl hh, fun h0 b off e => by
  obtain ⟨b', off', e', k1, k2, _⟩ := hI.row h0
  rw [e] at e'
  injection e' with e'
  injection e' with e1 _ _
  subst e1
  exact ⟨by omega, by omega⟩⟩
theorem OffD.far {w w' : World} {lo g g' j : Nat} {d : Dv} (h : OffD w lo g g' d) (hf : ∀ k, k ≠ j → w'.heap[k]? = w.heap[k]?) (hs : w'.heap.size = w.heap.size) (hj : j = g ∨ j = g') : OffD w' lo g g' d :=
 ⟨by rw [hs]; exact ints_off h.1 h.2 hf hj, h.2⟩
end Ma
end Go.Proofs.YtmbppgjhdcmckaaGreatDoor
namespace Go.Proofs.YtmbppgjhdcmckaaGreatDoor
open Go.RowKit
namespace Ma
open Dp Dy
open Classical in
/-- What comes of two numbers; the first error, if there is one. -/
noncomputable def bothD (p q : Dn × Int) : (Dn × Dn) × Int := if p.2 = 0 then (if q.2 = 0 then ((p.1, q.1), 0) else ((Dn.zero, Dn.zero), q.2)) else ((Dn.zero, Dn.zero), p.2)
/-- Down and up. -/
noncomputable def downM (m : Mv) (k : Int) : Dn × Int := toX m.S.s m.S.xs m.S.e m.W.s m.W.xs m.W.e k m.S.s
noncomputable def upM (m : Mv) (k : Int) : Dn × Int := toX m.S.s m.S.xs m.S.e m.W.s m.W.xs m.W.e k (!m.S.s)
open Classical in
/-- A share's mean. -/
noncomputable def meanM (m : Mv) (k : Int) : (Dn × Dn) × Int :=
 if badS [m] = true then ((Dn.zero, Dn.zero), 8) else if k < 0 ∨ 64 < k then ((Dn.zero, Dn.zero), 2) else if m.W.n = 0 then ((Dn.zero, Dn.zero), 6) else bothD (downM m k) (upM m k)
open Classical in
/-- Does a share lie between two values? -/
noncomputable def betweenM (m : Mv) (low high : Int) : Bool × Int :=
 if badS [m] = true then (false, 8) else if low < -2147483647 ∨ 2147483647 < high ∨ high < low then (false, 2) else if m.W.n = 0 then (true, 0) else
  if (bothD (downM m 0) (upM m 0)).2 = 0 then (decide (cmpD (whole low) (bothD (downM m 0) (upM m 0)).1.1 ≤ 0) && decide (cmpD (bothD (downM m 0) (upM m 0)).1.2 (whole high) ≤ 0), 0) else (false, 0)
theorem BothR.two {a b : Dv} {q f : Int} {X Y : Dv} {c : Int} (h : BothR a b q f X Y c) {P Q : Dv → Prop} (ha : P a) (hb : Q b) (hz : P ZM.C) (hz' : Q ZM.C) : P X ∧ Q Y := by
 rcases h with ⟨_, _, rfl, rfl, _⟩ | ⟨_, rfl, rfl, _⟩ | ⟨_, _, rfl, rfl, _⟩
 · exact ⟨ha, hb⟩
 · exact ⟨hz, hz'⟩
 · exact ⟨hz, hz'⟩
end Ma
end Go.Proofs.YtmbppgjhdcmckaaGreatDoor
namespace Go.Proofs.YtmbppgjhdcmckaaGreatDoor
open Go.RowKit
section
variable {P : Program} {os : List Oper} {Q : Exit → Act → World → Prop} {md : Region.Mode} {S : World → Prop} {E : List Nat} {B : Act → World → Prop} {Lf : Array Bool} {m : Nat}
/-- A way that may end where B stands and Lf is listed. -/
def wpAnyC (B : Act → World → Prop) (Lf : Array Bool) (m : Nat) (P : Program) (md : Region.Mode) (ops : Array Oper) (Q : Exit → Act → World → Prop) (S : World → Prop) (E : List Nat) (n : Nat) (L : Array Bool) (a : Act) (w : World) : Prop :=
 (∀ a' w', B a' w' → wpAnyE P md ops Q S E m Lf a' w') → wpAnyE P md ops Q S E n L a w
theorem pureC {i n : Nat} {oi : Oper} {v : Value} {listed L : Array Bool} {a : Act} {w : World} (hi : os[i]? = some oi) (hL : listed.setIfInBounds i true = L)
  (hs : Region.noSelect os.toArray = true) (hf : Region.free md os.toArray listed i = true) (hr : (Region.ready md os.toArray listed).contains i = true)
  (hQ : ∀ c a w, Q (.panic c) (a.put oi.dst v) w → Q (.panic c) a w) (hw : Region.wanted oi (yielded os.toArray a.tmps) = true) (hy : ∀ w, (execOp a.eval oi).run P w = .ok (.value v) w)
  (h : wpAnyC B Lf m P md os.toArray Q S E n L (a.put oi.dst v) w) : wpAnyC B Lf m P md os.toArray Q S E (n + 1) listed a w := fun hl => pureE hi hL hs hf hr hQ hw hy (h hl)
theorem zC (i : Nat) (L : Array Bool) (v : Value) {n : Nat} {oi : Oper} {listed : Array Bool} {a : Act} {w : World} (hi : os[i]? = some oi) (hy : ∀ w, (execOp a.eval oi).run P w = .ok (.value v) w)
  (h : wpAnyC B Lf m P md os.toArray Q S E n L (a.put oi.dst v) w) (hL : listed.setIfInBounds i true = L := by rfl)
  (hs : Region.noSelect os.toArray = true := by kernel_rfl) (hf : Region.free md os.toArray listed i = true := by kernel_rfl) (hr : (Region.ready md os.toArray listed).contains i = true := by kernel_rfl)
  (hQ : ∀ c a w, Q (.panic c) (a.put oi.dst v) w → Q (.panic c) a w := by exact fun _ _ _ h => h) (hw : Region.wanted oi (yielded os.toArray a.tmps) = true := by rfl) : wpAnyC B Lf m P md os.toArray Q S E (n + 1) listed a w := pureC hi hL hs hf hr hQ hw hy h
end
end Go.Proofs.YtmbppgjhdcmckaaGreatDoor
namespace Go.Proofs.YtmbppgjhdcmckaaGreatDoor
open Go.RowKit
namespace Ma
open Dp Dy
theorem cmp_is {x : Dn} {X : Dv} (h : Is x X) (hx : x.May) {z : Int} (h0 : -9223372036854775808 ≤ z) (h1 : z ≤ 9223372036854775807) {s : Bool} {v : Nat} (hs : decide (z < 0) = s) (hv : z.natAbs = v) :
  cmpX s (canon 4294967296 v) 0 X.s X.xs X.e = (cmpD (whole z) x, 0) ∧ cmpX X.s X.xs X.e s (canon 4294967296 v) 0 = (cmpD x (whole z), 0) := by
 have e : (⟨s, v, 0⟩ : Dn) = whole z := by rw [← hs, ← hv]; rfl
 rw [h.1, h.2.1, h.2.2]
 have hw := whole_may h0 h1
 exact ⟨by rw [← e]; rw [← e] at hw; exact cmpX_dn hw hx, by rw [← e]; rw [← e] at hw; exact cmpX_dn hx hw⟩
theorem toX_may {s1 : Bool} {xs1 : List Int} {e1 : Int} {s2 : Bool} {xs2 : List Int} {e2 k : Int} {away : Bool} {x : Dn} {c : Int} (h : toX s1 xs1 e1 s2 xs2 e2 k away = (x, c)) : x.May := by
 unfold toX at h
 split at h
 · have := formed_may (dn s1 xs1 e1).neg ((quoN (dn s1 xs1 e1) (dn s2 xs2 e2) k.toNat).1 + if (quoN (dn s1 xs1 e1) (dn s2 xs2 e2) k.toNat).2 ≠ 0 ∧ away = true then 1 else 0) k.toNat
   unfold toD at h
   rw [h] at this
   exact this
 · injection h with h1 h2
   subst h1
   exact zero_may
end Ma
end Go.Proofs.YtmbppgjhdcmckaaGreatDoor
namespace Go.Proofs.YtmbppgjhdcmckaaGreatDoor
open Go.RowKit
namespace Ma
open Dp Dy
/-- A number's parts lie between so many times another one's. -/
def liesD (a b : Dn) (low high : Int) : Prop := ∃ K, a.e ≤ K ∧ b.e ≤ K ∧ low * vl b K ≤ vl a K ∧ vl a K ≤ high * vl b K
theorem lies_at {a b : Dn} {low high : Int} (h : liesD a b low high) {K : Nat} (h1 : a.e ≤ K) (h2 : b.e ≤ K) : low * vl b K ≤ vl a K ∧ vl a K ≤ high * vl b K := by
 obtain ⟨L, l1, l2, k1, k2⟩ := h
 have hp : ∀ n : Nat, (0 : Int) < 2 ^ n := fun n => Int.pow_pos (by omega)
 -- both at the greater one
 have a1 := vl_more a (k := K) (l := max K L) h1 (by omega)
 have a2 := vl_more a (k := L) (l := max K L) l1 (by omega)
 have b1 := vl_more b (k := K) (l := max K L) h2 (by omega)
 have b2 := vl_more b (k := L) (l := max K L) l2 (by omega)
 have q1 : low * vl b (max K L) ≤ vl a (max K L) := by
  rw [a2, b2, ← Int.mul_assoc]
  exact Int.mul_le_mul_of_nonneg_right k1 (Int.le_of_lt (hp _))
 have q2 : vl a (max K L) ≤ high * vl b (max K L) := by
  rw [a2, b2, ← Int.mul_assoc]
  exact Int.mul_le_mul_of_nonneg_right k2 (Int.le_of_lt (hp _))
 rw [a1, b1, ← Int.mul_assoc] at q1 q2
 exact ⟨Int.le_of_mul_le_mul_right q1 (hp _), Int.le_of_mul_le_mul_right q2 (hp _)⟩
theorem lies_zero {a b : Dn} (ha : a.m = 0) (hb : b.m = 0) (low high : Int) : liesD a b low high := by
 refine ⟨max a.e b.e, by omega, by omega, ?_, ?_⟩ <;> simp [vl, sg, ha, hb]
/-- Halves lie as the whole. -/
theorem lies_half {a b : Dn} {low high : Int} (h1 : (halfD a).2 = 0) (h2 : (halfD b).2 = 0) : liesD (halfD a).1 (halfD b).1 low high ↔ liesD a b low high := by
 obtain ⟨a1, a2⟩ := half_vl h1
 obtain ⟨b1, b2⟩ := half_vl h2
 have a3 := a2 (max a.e b.e + 1) (by omega)
 have b3 := b2 (max a.e b.e + 1) (by omega)
 constructor
 · intro h
   obtain ⟨k1, k2⟩ := lies_at h (K := max a.e b.e + 1) (by omega) (by omega)
   refine ⟨max a.e b.e + 1, by omega, by omega, ?_, ?_⟩
   · rw [← a3, ← b3, Int.mul_left_comm]
     omega
   · rw [← a3, ← b3, Int.mul_left_comm]
     omega
 · intro h
   obtain ⟨k1, k2⟩ := lies_at h (K := max a.e b.e + 1) (by omega) (by omega)
   rw [← a3, ← b3, Int.mul_left_comm] at k1 k2
   exact ⟨max a.e b.e + 1, by omega, by omega, by omega, by omega⟩
/-- Sums lie as both. -/
theorem lies_add {a b c d : Dn} {low high : Int} (h1 : (addD a c).2 = 0) (h2 : (addD b d).2 = 0) (ha : liesD a b low high) (hc : liesD c d low high) : liesD (addD a c).1 (addD b d).1 low high := by
 obtain ⟨a1, a2⟩ := add_vl h1
 obtain ⟨b1, b2⟩ := add_vl h2
 obtain ⟨K, hK⟩ : ∃ K, a.e + b.e + c.e + d.e ≤ K := ⟨_, Nat.le_refl _⟩
 obtain ⟨k1, k2⟩ := lies_at ha (K := K) (by omega) (by omega)
 obtain ⟨k3, k4⟩ := lies_at hc (K := K) (by omega) (by omega)
 refine ⟨K, by omega, by omega, ?_, ?_⟩
 · rw [a2 K (by omega) (by omega), b2 K (by omega) (by omega), Int.mul_add]
   omega
 · rw [a2 K (by omega) (by omega), b2 K (by omega) (by omega), Int.mul_add]
   omega
/-- Quotients, down and up, tell what lies between. -/
theorem between_law {a b : Dn} (hn : b.neg = false) (h0 : b.m ≠ 0) {low high : Int} (hl : -2147483647 ≤ low) (hh : high ≤ 2147483647) (hlh : low ≤ high) :
  ((bothD (toD a b 0 a.neg) (toD a b 0 (!a.neg))).2 = 0 ∧ cmpD (whole low) (bothD (toD a b 0 a.neg) (toD a b 0 (!a.neg))).1.1 ≤ 0 ∧ cmpD (bothD (toD a b 0 a.neg) (toD a b 0 (!a.neg))).1.2 (whole high) ≤ 0) ↔ liesD a b low high := by
 obtain ⟨K, hK⟩ : ∃ K, a.e + b.e ≤ K := ⟨_, Nat.le_refl _⟩
 obtain ⟨N, hN, sN⟩ := toD_floor hn h0 0 hK (a := a)
 obtain ⟨M, hM, sM⟩ := toD_ceil hn h0 0 hK (a := a)
 obtain ⟨bp, bq⟩ := vl_pos hn h0 K
 have hB : 0 < vl b K := by rw [bp]; exact_mod_cast bq
 rw [Int.pow_zero, Int.mul_one] at sN sM
 have f1 := Int.mul_ediv_add_emod (vl a K) (vl b K)
 have f2 := Int.emod_nonneg (vl a K) (show vl b K ≠ 0 by omega)
 have f3 := Int.emod_lt_of_pos (vl a K) hB
 have g1 := Int.mul_ediv_add_emod (-vl a K) (vl b K)
 have g2 := Int.emod_nonneg (-vl a K) (show vl b K ≠ 0 by omega)
 have g3 := Int.emod_lt_of_pos (-vl a K) hB
 generalize vl a K / vl b K = q at *
 generalize -vl a K / vl b K = p at *
 generalize vl a K % vl b K = r at *
 generalize -vl a K % vl b K = r2 at *
 rw [hN, hM]
 have le_iff : ∀ x y : Int, x * vl b K < y * vl b K + vl b K ↔ x ≤ y := fun x y => by
  constructor
  · intro h
    have : x * vl b K < (y + 1) * vl b K := by rw [Int.add_mul, Int.one_mul]; exact h
    have := Int.lt_of_mul_lt_mul_right this (Int.le_of_lt hB)
    omega
  · intro h
    have := Int.mul_le_mul_of_nonneg_right h (Int.le_of_lt hB)
    omega
 have e1 : vl b K * q = q * vl b K := Int.mul_comm ..
 have e2 : vl b K * p = p * vl b K := Int.mul_comm ..
 have up : ∀ x y : Int, x ≤ y → x * vl b K ≤ y * vl b K := fun x y h => Int.mul_le_mul_of_nonneg_right h (Int.le_of_lt hB)
 have c1 : low * vl b K ≤ vl a K ↔ low ≤ q := ⟨fun h => (le_iff low q).1 (by omega), fun h => by have := up low q h; omega⟩
 have e3 : -high * vl b K = -(high * vl b K) := Int.neg_mul ..
 have c2 : vl a K ≤ high * vl b K ↔ -high ≤ p := ⟨fun h => (le_iff (-high) p).1 (by omega), fun h => by have := up (-high) p h; omega⟩
 have hlies : liesD a b low high ↔ low ≤ q ∧ -p ≤ high := by
  constructor
  · intro h
    obtain ⟨k1, k2⟩ := lies_at h (K := K) (by omega) (by omega)
    exact ⟨c1.1 k1, by have := c2.1 k2; omega⟩
  · rintro ⟨k1, k2⟩
    exact ⟨K, by omega, by omega, c1.2 k1, c2.2 (by omega)⟩
 rw [hlies]
 have qp : q ≤ -p := (le_iff _ _).1 (by rw [Int.neg_mul]; omega)
 have wv : ∀ z : Int, -9223372036854775808 ≤ z → z ≤ 9223372036854775807 → ∀ x : Dn, x.e ≤ 0 → ((cmpD (whole z) x ≤ 0 ↔ z ≤ vl x 0) ∧ (cmpD x (whole z) ≤ 0 ↔ vl x 0 ≤ z)) := fun z z0 z1 x hx => by
  have := vl_whole z
  have hw : (whole z).e ≤ 0 := Nat.le_refl _
  rcases cmp_spec (whole z) x hw hx with ⟨k1, k2⟩ | ⟨k1, k2⟩ | ⟨k1, k2⟩ <;> rcases cmp_spec x (whole z) hx hw with ⟨k3, k4⟩ | ⟨k3, k4⟩ | ⟨k3, k4⟩ <;> rw [k1, k3] <;> omega
 constructor
 · rintro ⟨h1, h2, h3⟩
   unfold bothD at h1 h2 h3
   by_cases k1 : (formed a.neg N 0).2 = 0
   · by_cases k2 : (formed a.neg M 0).2 = 0
     · rw [if_pos k1, if_pos k2] at h2 h3
       obtain ⟨x1, x2⟩ := formed_vl k1
       obtain ⟨y1, y2⟩ := formed_vl k2
       have x3 := x2 0 (Nat.le_refl _)
       have y3 := y2 0 (Nat.le_refl _)
       simp only [Nat.sub_self, Nat.pow_zero, Nat.mul_one] at x3 y3
       have u1 := (wv low (by omega) (by omega) _ x1).1.1 h2
       have u2 := (wv high (by omega) (by omega) _ y1).2.1 h3
       omega
     · rw [if_pos k1, if_neg k2] at h1
       exact absurd h1 k2
   · rw [if_neg k1] at h1
     exact absurd h1 k1
 · rintro ⟨h1, h2⟩
   have F1 : formed a.neg N 0 = (whole q, 0) := whole_of (by omega) (by omega) sN
   have F2 : formed a.neg M 0 = (whole (-p), 0) := whole_of (by omega) (by omega) sM
   rw [F1, F2]
   unfold bothD
   rw [if_pos rfl, if_pos rfl]
   refine ⟨rfl, (wv low (by omega) (by omega) _ (Nat.le_refl _)).1.2 (by rw [vl_whole]; exact h1), (wv high (by omega) (by omega) _ (Nat.le_refl _)).2.2 (by rw [vl_whole]; omega)⟩
end Ma
end Go.Proofs.YtmbppgjhdcmckaaGreatDoor
namespace Go.Proofs.YtmbppgjhdcmckaaGreatDoor
open Go.RowKit
namespace Ma
open Dp Dy
def liesM (m : Mv) (low high : Int) : Prop := liesD (dnM m 0) (dnM m 1) low high
theorem xs_nil {w : World} {lo hi : Nat} {A : Option Addr} {n : Nat} {xs : List Int} (h : Ints w lo hi .u32 A n xs) : n = 0 ↔ xs = [] := by
 have := h.len
 constructor
 · intro h0
   exact List.length_eq_zero_iff.1 (by omega)
 · intro h0
   rw [h0] at this
   exact this.symm
theorem num_nil0 {s : Bool} {e : Int} : (dn s [] e).m = 0 := rfl
/-- A share whose weight is not 0. -/
theorem share_down {w : World} {lo hi : Nat} {m : Mv} (hR : MRows w lo hi m) (hs : m.share) (hn : m.W.n ≠ 0) (k : Int) (k0 : 0 ≤ k) (k1 : k ≤ 64) :
  downM m k = toD (dnM m 0) (dnM m 1) k.toNat (dnM m 0).neg ∧ upM m k = toD (dnM m 0) (dnM m 1) k.toNat (!(dnM m 0).neg) ∧ (dnM m 1).neg = false ∧ (dnM m 1).m ≠ 0 := by
 have hx : m.W.xs ≠ [] := fun h => hn ((xs_nil hR.W).2 h)
 have m0 : MayD m.S.s m.S.xs m.S.e := hs.1 0 (by decide)
 have m1 : MayD m.W.s m.W.xs m.W.e := hs.1 1 (by decide)
 have ha : askX m.S.s m.S.xs m.S.e m.W.s m.W.xs m.W.e k = 0 := by
  unfold askX
  rw [if_pos ⟨m0, m1⟩, if_neg]
  rintro (h | h | h | h)
  · rw [hs.2.1] at h
    cases h
  · exact hx h
  · omega
  · omega
 refine ⟨?_, ?_, ?_, dn_ne (dig_ints hR.W) m1 hx⟩
 · unfold downM toX
   rw [if_pos ha]
   rfl
 · unfold upM toX
   rw [if_pos ha]
   rfl
 · show (dn m.W.s m.W.xs m.W.e).neg = false
   exact hs.2.1
theorem between_share {w : World} {lo hi : Nat} {m : Mv} (hR : MRows w lo hi m) (hs : m.share) {low high : Int} (hl : -2147483647 ≤ low) (hh : high ≤ 2147483647) (hlh : low ≤ high) :
  ∃ r, betweenM m low high = (r, 0) ∧ (r = true ↔ liesM m low high) := by
 unfold betweenM
 rw [if_neg (by rw [badS_one.2 hs]; simp), if_neg (by omega)]
 by_cases hn : m.W.n = 0
 · rw [if_pos hn]
   refine ⟨true, rfl, fun _ => ?_, fun _ => rfl⟩
   have h1 : m.W.xs = [] := (xs_nil hR.W).1 hn
   have h2 : m.S.xs = [] := (xs_nil hR.S).1 (hs.2.2 hn)
   refine lies_zero ?_ ?_ _ _
   · show (dn m.S.s m.S.xs m.S.e).m = 0
     rw [h2]
     exact num_nil0
   · show (dn m.W.s m.W.xs m.W.e).m = 0
     rw [h1]
     exact num_nil0
 · rw [if_neg hn]
   obtain ⟨d1, d2, d3, d4⟩ := share_down hR hs hn 0 (by decide) (by decide)
   rw [d1, d2]
   have hlaw := between_law d3 d4 hl hh hlh (a := dnM m 0)
   have e0 : (0 : Int).toNat = 0 := rfl
   rw [e0]
   unfold liesM
   rw [← hlaw]
   generalize bothD (toD (dnM m 0) (dnM m 1) 0 (dnM m 0).neg) (toD (dnM m 0) (dnM m 1) 0 (!(dnM m 0).neg)) = X
   by_cases hc : X.2 = 0
   · rw [if_pos hc]
     refine ⟨_, rfl, ?_⟩
     rw [Bool.and_eq_true, decide_eq_true_eq, decide_eq_true_eq]
     exact ⟨fun h => ⟨hc, h⟩, fun h => h.2⟩
   · rw [if_neg hc]
     exact ⟨false, rfl, ⟨fun h => absurd h (by decide), fun h => absurd h.1 hc⟩⟩
end Ma
end Go.Proofs.YtmbppgjhdcmckaaGreatDoor
namespace Go.Proofs.YtmbppgjhdcmckaaGreatDoor
open Go.RowKit
namespace Ma
open Dp Dy
theorem IsM.dn {R : Nat → Dn} {m : Mv} (h : IsM R m) {x : Nat} (hx : x < 4) : dnM m x = R x := by
 obtain ⟨h1, h2, h3⟩ := h x hx
 unfold dnM
 rw [h1, h2, h3]
 exact dn_of
theorem can_nil {r : Dn} (h : canon 4294967296 r.m = []) : r.m = 0 := by
 have e : (Dy.dn r.neg (canon 4294967296 r.m) r.e).m = r.m := by rw [dn_of]
 rw [h] at e
 exact e.symm
theorem Is.len {w : World} {lo hi : Nat} {r : Dn} {d : Dv} (h : Is r d) (hI : Ints w lo hi .u32 d.A d.n d.xs) : d.n = 0 ↔ r.m = 0 := by
 rw [xs_nil hI, h.2.2]
 exact ⟨can_nil, fun h0 => by rw [h0]; rfl⟩
theorem share_is {w : World} {lo hi : Nat} {m : Mv} {R : Nat → Dn} (hR : MRows w lo hi m) (h : IsM R m) (hr : MayR R) : m.share ↔ ((R 1).neg = false ∧ ((R 1).m = 0 → (R 0).m = 0)) := by
 have l1 : m.W.n = 0 ↔ (R 1).m = 0 := Is.len (h 1 (by decide)) hR.W
 have l0 : m.S.n = 0 ↔ (R 0).m = 0 := Is.len (h 0 (by decide)) hR.S
 have s1 : m.W.s = (R 1).neg := (h 1 (by decide)).1
 unfold Mv.share
 rw [l1, l0, s1]
 exact ⟨fun k => k.2, fun k => ⟨h.may hr, k⟩⟩
theorem between_of {w : World} {lo hi : Nat} {m : Mv} {R : Nat → Dn} {low high : Int} (hR : MRows w lo hi m) (h : IsM R m) (hs : m.share) (hl : -2147483647 ≤ low) (hh : high ≤ 2147483647) (hlh : low ≤ high) {b : Bool} (hb : b = true ↔ liesD (R 0) (R 1) low high) : betweenM m low high = (b, 0) := by
 obtain ⟨r, h1, h2⟩ := between_share hR hs hl hh hlh
 rw [h1]
 unfold liesM at h2
 rw [h.dn (by decide), h.dn (by decide), ← hb] at h2
 cases r <;> cases b <;> simp_all
/-- A share of S and W alone. -/
def twoR (a b : Dn) (x : Nat) : Dn := if x = 0 then a else if x = 1 then b else Dn.zero
theorem twoR_may {a b : Dn} (ha : a.May) (hb : b.May) : MayR (twoR a b) := four ha hb zero_may zero_may
theorem twoR_is {a b : Dn} {d e : Dv} (hd : Is a d) (he : Is b e) : IsM (twoR a b) ⟨d, e, ZM.C, ZM.A⟩ := four hd he Is.zero Is.zero
theorem sm (m e : Nat) (h0 : m ≠ 0) (h1 : m < 16) (h2 : e ≤ 1024) (h3 : 0 < e → m % 2 = 1) : Dn.May ⟨false, m, e⟩ := may_small _ _ _ h0 h1 h2 h3
end Ma
end Go.Proofs.YtmbppgjhdcmckaaGreatDoor
namespace Go.Proofs.YtmbppgjhdcmckaaGreatDoor
open Go.RowKit
namespace Dy
open Dp
/-- Cells that may be written. -/
def WrS (w : World) (b off n : Nat) : Prop := ∀ j, j < n → (∃ u, w.cell? ⟨b, off + j, none⟩ = some u) ∧ w.frozen? ⟨b, off + j, none⟩ = false
theorem WrS.set_ {w : World} {b off n : Nat} (h : WrS w b off n) (p : Addr) (v : Value) : WrS (w.setCell p v) b off n := fun j hj => by
 obtain ⟨⟨u, h1⟩, h2⟩ := h j hj
 refine ⟨?_, by rw [World.frozen?_setCell]; exact h2⟩
 by_cases e : p = ⟨b, off + j, none⟩
 · subst e
   exact ⟨v, World.cell?_setCell_same' _ _ _ (by rw [h1]; rfl)⟩
 · exact ⟨u, (World.cell?_setCell_other _ _ _ _ e).trans h1⟩
theorem WrS.blk {w w' : World} {b off n : Nat} (h : WrS w b off n) (hk : w'.heap[b]? = w.heap[b]?) : WrS w' b off n := fun j hj => by
 obtain ⟨⟨u, h1⟩, h2⟩ := h j hj
 exact ⟨⟨u, by rw [World.cell?_of_block hk]; exact h1⟩, by rw [World.frozen?_of_block hk]; exact h2⟩
/-- A row that may be written. -/
def WrR (w : World) (lo hi : Nat) (A : Option Addr) (n : Nat) : Prop := 0 < n → ∃ b off, A = some ⟨b, off, none⟩ ∧ lo ≤ b ∧ b < hi ∧ WrS w b off n
theorem WrR.of {w : World} {lo hi n : Nat} {A : Option Addr} {xs : List Int} (h : Ints w lo hi .u32 A n xs) : WrR w lo hi A n := fun h0 => by
 obtain ⟨b, off, e, h1, h2, hc⟩ := h.row h0
 exact ⟨b, off, e, h1, h2, fun j hj => ⟨⟨_, (hc j hj).1⟩, (hc j hj).2⟩⟩
theorem WrR.below {w w' : World} {lo hi B n : Nat} {A : Option Addr} (h : WrR w lo hi A n) (hb : Below B w w') (hB : hi ≤ B) : WrR w' lo hi A n := fun h0 => by
 obtain ⟨b, off, e, h1, h2, hW⟩ := h h0
 exact ⟨b, off, e, h1, h2, hW.blk (hb.block b (by omega))⟩
theorem WrR.keep {w w' : World} {lo hi n : Nat} {A : Option Addr} (h : WrR w lo hi A n) (hk : ∀ b off k, WrS w b off k → WrS w' b off k) : WrR w' lo hi A n := fun h0 => by
 obtain ⟨b, off, e, h1, h2, hW⟩ := h h0
 exact ⟨b, off, e, h1, h2, hk _ _ _ hW⟩
end Dy
end Go.Proofs.YtmbppgjhdcmckaaGreatDoor