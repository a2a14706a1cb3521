/- The laws of shares: what lies between two values. No program in sight. -/
/- The laws of shares: what push.Between tells. No program in sight. -/
/- Shares with known numbers: what is kept, sent, taken, told. No program in sight. -/
/- headcountlaw15.spoil: a walk; rows that are spoilt one behind the other. -/
/- Quotients of bits: headcountref01.Into, by a walk. -/
import Derived.Test.YtmbppgjhdcmckaaDoorBf15
import Derived.Test.YtmbppgjhdcmckaaDoorBf14
import Derived.Test.YtmbppgjhdcmckaaDoorBf10
import Derived.Test.YtmbppgjhdcmckaaDoorBf11
import Derived.Test.YtmbppgjhdcmckaaDoorBf09
import Derived.Test.YtmbppgjhdcmckaaDoorBf08
import Derived.Test.YtmbppgjhdcmckaaDoorBf06
import Derived.Test.YtmbppgjhdcmckaaDoorBf13
import Derived.Test.YtmbppgjhdcmckaaDoorBf03
import Derived.Test.YtmbppgjhdcmckaaDoorBf04
namespace Go.Proofs.YtmbppgjhdcmckaaDoor
open Go.RowKit
namespace Ma
open Dp Dy
/-- A number's parts lie between so many times another one's. -/
def liesD (a b : Dn) (low high : Int) : Prop := ∃ K, a.e ≤ K ∧ b.e ≤ K ∧ low * vl b K ≤ vl a K ∧ vl a K ≤ high * vl b K
theorem lies_at {a b : Dn} {low high : Int} (h : liesD a b low high) {K : Nat} (h1 : a.e ≤ K) (h2 : b.e ≤ K) : low * vl b K ≤ vl a K ∧ vl a K ≤ high * vl b K := by
 obtain ⟨L, l1, l2, k1, k2⟩ := h
 have hp : ∀ n : Nat, (0 : Int) < 2 ^ n := fun n => Int.pow_pos (by omega)
 -- both at the greater one
 have a1 := vl_more a (k := K) (l := max K L) h1 (by omega)
 have a2 := vl_more a (k := L) (l := max K L) l1 (by omega)
 have b1 := vl_more b (k := K) (l := max K L) h2 (by omega)
 have b2 := vl_more b (k := L) (l := max K L) l2 (by omega)
 have q1 : low * vl b (max K L) ≤ vl a (max K L) := by
  rw [a2, b2, ← Int.mul_assoc]
  exact Int.mul_le_mul_of_nonneg_right k1 (Int.le_of_lt (hp _))
 have q2 : vl a (max K L) ≤ high * vl b (max K L) := by
  rw [a2, b2, ← Int.mul_assoc]
  exact Int.mul_le_mul_of_nonneg_right k2 (Int.le_of_lt (hp _))
 rw [a1, b1, ← Int.mul_assoc] at q1 q2
 exact ⟨Int.le_of_mul_le_mul_right q1 (hp _), Int.le_of_mul_le_mul_right q2 (hp _)⟩
theorem lies_zero {a b : Dn} (ha : a.m = 0) (hb : b.m = 0) (low high : Int) : liesD a b low high := by
 refine ⟨max a.e b.e, by omega, by omega, ?_, ?_⟩ <;> simp [vl, sg, ha, hb]
/-- Halves lie as the whole. -/
theorem lies_half {a b : Dn} {low high : Int} (h1 : (halfD a).2 = 0) (h2 : (halfD b).2 = 0) : liesD (halfD a).1 (halfD b).1 low high ↔ liesD a b low high := by
 obtain ⟨a1, a2⟩ := half_vl h1
 obtain ⟨b1, b2⟩ := half_vl h2
 have a3 := a2 (max a.e b.e + 1) (by omega)
 have b3 := b2 (max a.e b.e + 1) (by omega)
 constructor
 · intro h
   obtain ⟨k1, k2⟩ := lies_at h (K := max a.e b.e + 1) (by omega) (by omega)
   refine ⟨max a.e b.e + 1, by omega, by omega, ?_, ?_⟩
   · rw [← a3, ← b3, Int.mul_left_comm]
     omega
   · rw [← a3, ← b3, Int.mul_left_comm]
     omega
 · intro h
   obtain ⟨k1, k2⟩ := lies_at h (K := max a.e b.e + 1) (by omega) (by omega)
   rw [← a3, ← b3, Int.mul_left_comm] at k1 k2
   exact ⟨max a.e b.e + 1, by omega, by omega, by omega, by omega⟩
/-- Sums lie as both. -/
theorem lies_add {a b c d : Dn} {low high : Int} (h1 : (addD a c).2 = 0) (h2 : (addD b d).2 = 0) (ha : liesD a b low high) (hc : liesD c d low high) : liesD (addD a c).1 (addD b d).1 low high := by
 obtain ⟨a1, a2⟩ := add_vl h1
 obtain ⟨b1, b2⟩ := add_vl h2
 obtain ⟨K, hK⟩ : ∃ K, a.e + b.e + c.e + d.e ≤ K := ⟨_, Nat.le_refl _⟩
 obtain ⟨k1, k2⟩ := lies_at ha (K := K) (by omega) (by omega)
 obtain ⟨k3, k4⟩ := lies_at hc (K := K) (by omega) (by omega)
 refine ⟨K, by omega, by omega, ?_, ?_⟩
 · rw [a2 K (by omega) (by omega), b2 K (by omega) (by omega), Int.mul_add]
   omega
 · rw [a2 K (by omega) (by omega), b2 K (by omega) (by omega), Int.mul_add]
   omega
/-- Quotients, down and up, tell what lies between. -/
theorem between_law {a b : Dn} (hn : b.neg = false) (h0 : b.m ≠ 0) {low high : Int} (hl : -2147483647 ≤ low) (hh : high ≤ 2147483647) (hlh : low ≤ high) :
  ((bothD (toD a b 0 a.neg) (toD a b 0 (!a.neg))).2 = 0 ∧ cmpD (whole low) (bothD (toD a b 0 a.neg) (toD a b 0 (!a.neg))).1.1 ≤ 0 ∧ cmpD (bothD (toD a b 0 a.neg) (toD a b 0 (!a.neg))).1.2 (whole high) ≤ 0) ↔ liesD a b low high := by
 obtain ⟨K, hK⟩ : ∃ K, a.e + b.e ≤ K := ⟨_, Nat.le_refl _⟩
 obtain ⟨N, hN, sN⟩ := toD_floor hn h0 0 hK (a := a)
 obtain ⟨M, hM, sM⟩ := toD_ceil hn h0 0 hK (a := a)
 obtain ⟨bp, bq⟩ := vl_pos hn h0 K
 have hB : 0 < vl b K := by rw [bp]; exact_mod_cast bq
 rw [Int.pow_zero, Int.mul_one] at sN sM
 have f1 := Int.mul_ediv_add_emod (vl a K) (vl b K)
 have f2 := Int.emod_nonneg (vl a K) (show vl b K ≠ 0 by omega)
 have f3 := Int.emod_lt_of_pos (vl a K) hB
 have g1 := Int.mul_ediv_add_emod (-vl a K) (vl b K)
 have g2 := Int.emod_nonneg (-vl a K) (show vl b K ≠ 0 by omega)
 have g3 := Int.emod_lt_of_pos (-vl a K) hB
 generalize vl a K / vl b K = q at *
 generalize -vl a K / vl b K = p at *
 generalize vl a K % vl b K = r at *
 generalize -vl a K % vl b K = r2 at *
 rw [hN, hM]
 have le_iff : ∀ x y : Int, x * vl b K < y * vl b K + vl b K ↔ x ≤ y := fun x y => by
  constructor
  · intro h
    have : x * vl b K < (y + 1) * vl b K := by rw [Int.add_mul, Int.one_mul]; exact h
    have := Int.lt_of_mul_lt_mul_right this (Int.le_of_lt hB)
    omega
  · intro h
    have := Int.mul_le_mul_of_nonneg_right h (Int.le_of_lt hB)
    omega
 have e1 : vl b K * q = q * vl b K := Int.mul_comm ..
 have e2 : vl b K * p = p * vl b K := Int.mul_comm ..
 have up : ∀ x y : Int, x ≤ y → x * vl b K ≤ y * vl b K := fun x y h => Int.mul_le_mul_of_nonneg_right h (Int.le_of_lt hB)
 have c1 : low * vl b K ≤ vl a K ↔ low ≤ q := ⟨fun h => (le_iff low q).1 (by omega), fun h => by have := up low q h; omega⟩
 have e3 : -high * vl b K = -(high * vl b K) := Int.neg_mul ..
 have c2 : vl a K ≤ high * vl b K ↔ -high ≤ p := ⟨fun h => (le_iff (-high) p).1 (by omega), fun h => by have := up (-high) p h; omega⟩
 have hlies : liesD a b low high ↔ low ≤ q ∧ -p ≤ high := by
  constructor
  · intro h
    obtain ⟨k1, k2⟩ := lies_at h (K := K) (by omega) (by omega)
    exact ⟨c1.1 k1, by have := c2.1 k2; omega⟩
  · rintro ⟨k1, k2⟩
    exact ⟨K, by omega, by omega, c1.2 k1, c2.2 (by omega)⟩
 rw [hlies]
 have qp : q ≤ -p := (le_iff _ _).1 (by rw [Int.neg_mul]; omega)
 have wv : ∀ z : Int, -9223372036854775808 ≤ z → z ≤ 9223372036854775807 → ∀ x : Dn, x.e ≤ 0 → ((cmpD (whole z) x ≤ 0 ↔ z ≤ vl x 0) ∧ (cmpD x (whole z) ≤ 0 ↔ vl x 0 ≤ z)) := fun z z0 z1 x hx => by
  have := vl_whole z
  have hw : (whole z).e ≤ 0 := Nat.le_refl _
  rcases cmp_spec (whole z) x hw hx with ⟨k1, k2⟩ | ⟨k1, k2⟩ | ⟨k1, k2⟩ <;> rcases cmp_spec x (whole z) hx hw with ⟨k3, k4⟩ | ⟨k3, k4⟩ | ⟨k3, k4⟩ <;> rw [k1, k3] <;> omega
 constructor
 · rintro ⟨h1, h2, h3⟩
   unfold bothD at h1 h2 h3
   by_cases k1 : (formed a.neg N 0).2 = 0
   · by_cases k2 : (formed a.neg M 0).2 = 0
     · rw [if_pos k1, if_pos k2] at h2 h3
       obtain ⟨x1, x2⟩ := formed_vl k1
       obtain ⟨y1, y2⟩ := formed_vl k2
       have x3 := x2 0 (Nat.le_refl _)
       have y3 := y2 0 (Nat.le_refl _)
       simp only [Nat.sub_self, Nat.pow_zero, Nat.mul_one] at x3 y3
       have u1 := (wv low (by omega) (by omega) _ x1).1.1 h2
       have u2 := (wv high (by omega) (by omega) _ y1).2.1 h3
       omega
     · rw [if_pos k1, if_neg k2] at h1
       exact absurd h1 k2
   · rw [if_neg k1] at h1
     exact absurd h1 k1
 · rintro ⟨h1, h2⟩
   have F1 : formed a.neg N 0 = (whole q, 0) := whole_of (by omega) (by omega) sN
   have F2 : formed a.neg M 0 = (whole (-p), 0) := whole_of (by omega) (by omega) sM
   rw [F1, F2]
   unfold bothD
   rw [if_pos rfl, if_pos rfl]
   refine ⟨rfl, (wv low (by omega) (by omega) _ (Nat.le_refl _)).1.2 (by rw [vl_whole]; exact h1), (wv high (by omega) (by omega) _ (Nat.le_refl _)).2.2 (by rw [vl_whole]; omega)⟩
end Ma
end Go.Proofs.YtmbppgjhdcmckaaDoor
namespace Go.Proofs.YtmbppgjhdcmckaaDoor
open Go.RowKit
namespace Ma
open Dp Dy
def liesM (m : Mv) (low high : Int) : Prop := liesD (dnM m 0) (dnM m 1) low high
theorem xs_nil {w : World} {lo hi : Nat} {A : Option Addr} {n : Nat} {xs : List Int} (h : Ints w lo hi .u32 A n xs) : n = 0 ↔ xs = [] := by
 have := h.len
 constructor
 · intro h0
   exact List.length_eq_zero_iff.1 (by omega)
 · intro h0
   rw [h0] at this
   exact this.symm
theorem num_nil0 {s : Bool} {e : Int} : (dn s [] e).m = 0 := rfl
/-- A share whose weight is not 0. -/
theorem share_down {w : World} {lo hi : Nat} {m : Mv} (hR : MRows w lo hi m) (hs : m.share) (hn : m.W.n ≠ 0) (k : Int) (k0 : 0 ≤ k) (k1 : k ≤ 64) :
  downM m k = toD (dnM m 0) (dnM m 1) k.toNat (dnM m 0).neg ∧ upM m k = toD (dnM m 0) (dnM m 1) k.toNat (!(dnM m 0).neg) ∧ (dnM m 1).neg = false ∧ (dnM m 1).m ≠ 0 := by
 have hx : m.W.xs ≠ [] := fun h => hn ((xs_nil hR.W).2 h)
 have m0 : MayD m.S.s m.S.xs m.S.e := hs.1 0 (by decide)
 have m1 : MayD m.W.s m.W.xs m.W.e := hs.1 1 (by decide)
 have ha : askX m.S.s m.S.xs m.S.e m.W.s m.W.xs m.W.e k = 0 := by
  unfold askX
  rw [if_pos ⟨m0, m1⟩, if_neg]
  rintro (h | h | h | h)
  · rw [hs.2.1] at h
    cases h
  · exact hx h
  · omega
  · omega
 refine ⟨?_, ?_, ?_, dn_ne (dig_ints hR.W) m1 hx⟩
 · unfold downM toX
   rw [if_pos ha]
   rfl
 · unfold upM toX
   rw [if_pos ha]
   rfl
 · show (dn m.W.s m.W.xs m.W.e).neg = false
   exact hs.2.1
theorem between_share {w : World} {lo hi : Nat} {m : Mv} (hR : MRows w lo hi m) (hs : m.share) {low high : Int} (hl : -2147483647 ≤ low) (hh : high ≤ 2147483647) (hlh : low ≤ high) :
  ∃ r, betweenM m low high = (r, 0) ∧ (r = true ↔ liesM m low high) := by
 unfold betweenM
 rw [if_neg (by rw [badS_one.2 hs]; simp), if_neg (by omega)]
 by_cases hn : m.W.n = 0
 · rw [if_pos hn]
   refine ⟨true, rfl, fun _ => ?_, fun _ => rfl⟩
   have h1 : m.W.xs = [] := (xs_nil hR.W).1 hn
   have h2 : m.S.xs = [] := (xs_nil hR.S).1 (hs.2.2 hn)
   refine lies_zero ?_ ?_ _ _
   · show (dn m.S.s m.S.xs m.S.e).m = 0
     rw [h2]
     exact num_nil0
   · show (dn m.W.s m.W.xs m.W.e).m = 0
     rw [h1]
     exact num_nil0
 · rw [if_neg hn]
   obtain ⟨d1, d2, d3, d4⟩ := share_down hR hs hn 0 (by decide) (by decide)
   rw [d1, d2]
   have hlaw := between_law d3 d4 hl hh hlh (a := dnM m 0)
   have e0 : (0 : Int).toNat = 0 := rfl
   rw [e0]
   unfold liesM
   rw [← hlaw]
   generalize bothD (toD (dnM m 0) (dnM m 1) 0 (dnM m 0).neg) (toD (dnM m 0) (dnM m 1) 0 (!(dnM m 0).neg)) = X
   by_cases hc : X.2 = 0
   · rw [if_pos hc]
     refine ⟨_, rfl, ?_⟩
     rw [Bool.and_eq_true, decide_eq_true_eq, decide_eq_true_eq]
     exact ⟨fun h => ⟨hc, h⟩, fun h => h.2⟩
   · rw [if_neg hc]
     exact ⟨false, rfl, ⟨fun h => absurd h (by decide), fun h => absurd h.1 hc⟩⟩
end Ma
end Go.Proofs.YtmbppgjhdcmckaaDoor
namespace Go.Proofs.YtmbppgjhdcmckaaDoor
open Go.RowKit
namespace Ma
open Dp Dy
theorem IsM.dn {R : Nat → Dn} {m : Mv} (h : IsM R m) {x : Nat} (hx : x < 4) : dnM m x = R x := by
 obtain ⟨h1, h2, h3⟩ := h x hx
 unfold dnM
 rw [h1, h2, h3]
 exact dn_of
theorem can_nil {r : Dn} (h : canon 4294967296 r.m = []) : r.m = 0 := by
 have e : (Dy.dn r.neg (canon 4294967296 r.m) r.e).m = r.m := by rw [dn_of]
 rw [h] at e
 exact e.symm
theorem Is.len {w : World} {lo hi : Nat} {r : Dn} {d : Dv} (h : Is r d) (hI : Ints w lo hi .u32 d.A d.n d.xs) : d.n = 0 ↔ r.m = 0 := by
 rw [xs_nil hI, h.2.2]
 exact ⟨can_nil, fun h0 => by rw [h0]; rfl⟩
theorem share_is {w : World} {lo hi : Nat} {m : Mv} {R : Nat → Dn} (hR : MRows w lo hi m) (h : IsM R m) (hr : MayR R) : m.share ↔ ((R 1).neg = false ∧ ((R 1).m = 0 → (R 0).m = 0)) := by
 have l1 : m.W.n = 0 ↔ (R 1).m = 0 := Is.len (h 1 (by decide)) hR.W
 have l0 : m.S.n = 0 ↔ (R 0).m = 0 := Is.len (h 0 (by decide)) hR.S
 have s1 : m.W.s = (R 1).neg := (h 1 (by decide)).1
 unfold Mv.share
 rw [l1, l0, s1]
 exact ⟨fun k => k.2, fun k => ⟨h.may hr, k⟩⟩
theorem between_of {w : World} {lo hi : Nat} {m : Mv} {R : Nat → Dn} {low high : Int} (hR : MRows w lo hi m) (h : IsM R m) (hs : m.share) (hl : -2147483647 ≤ low) (hh : high ≤ 2147483647) (hlh : low ≤ high) {b : Bool} (hb : b = true ↔ liesD (R 0) (R 1) low high) : betweenM m low high = (b, 0) := by
 obtain ⟨r, h1, h2⟩ := between_share hR hs hl hh hlh
 rw [h1]
 unfold liesM at h2
 rw [h.dn (by decide), h.dn (by decide), ← hb] at h2
 cases r <;> cases b <;> simp_all
/-- A share of S and W alone. -/
def twoR (a b : Dn) (x : Nat) : Dn := if x = 0 then a else if x = 1 then b else Dn.zero
theorem twoR_may {a b : Dn} (ha : a.May) (hb : b.May) : MayR (twoR a b) := four ha hb zero_may zero_may
theorem twoR_is {a b : Dn} {d e : Dv} (hd : Is a d) (he : Is b e) : IsM (twoR a b) ⟨d, e, ZM.C, ZM.A⟩ := four hd he Is.zero Is.zero
theorem sm (m e : Nat) (h0 : m ≠ 0) (h1 : m < 16) (h2 : e ≤ 1024) (h3 : 0 < e → m % 2 = 1) : Dn.May ⟨false, m, e⟩ := may_small _ _ _ h0 h1 h2 h3
end Ma
end Go.Proofs.YtmbppgjhdcmckaaDoor
namespace Go.Proofs.YtmbppgjhdcmckaaDoor
open Go.RowKit
namespace Dy
open Dp
/-- Cells that may be written. -/
def WrS (w : World) (b off n : Nat) : Prop := ∀ j, j < n → (∃ u, w.cell? ⟨b, off + j, none⟩ = some u) ∧ w.frozen? ⟨b, off + j, none⟩ = false
theorem WrS.set_ {w : World} {b off n : Nat} (h : WrS w b off n) (p : Addr) (v : Value) : WrS (w.setCell p v) b off n := fun j hj => by
 obtain ⟨⟨u, h1⟩, h2⟩ := h j hj
 refine ⟨?_, by rw [World.frozen?_setCell]; exact h2⟩
 by_cases e : p = ⟨b, off + j, none⟩
 · subst e
   exact ⟨v, World.cell?_setCell_same' _ _ _ (by rw [h1]; rfl)⟩
 · exact ⟨u, (World.cell?_setCell_other _ _ _ _ e).trans h1⟩
theorem WrS.blk {w w' : World} {b off n : Nat} (h : WrS w b off n) (hk : w'.heap[b]? = w.heap[b]?) : WrS w' b off n := fun j hj => by
 obtain ⟨⟨u, h1⟩, h2⟩ := h j hj
 exact ⟨⟨u, by rw [World.cell?_of_block hk]; exact h1⟩, by rw [World.frozen?_of_block hk]; exact h2⟩
/-- A row that may be written. -/
def WrR (w : World) (lo hi : Nat) (A : Option Addr) (n : Nat) : Prop := 0 < n → ∃ b off, A = some ⟨b, off, none⟩ ∧ lo ≤ b ∧ b < hi ∧ WrS w b off n
theorem WrR.of {w : World} {lo hi n : Nat} {A : Option Addr} {xs : List Int} (h : Ints w lo hi .u32 A n xs) : WrR w lo hi A n := fun h0 => by
 obtain ⟨b, off, e, h1, h2, hc⟩ := h.row h0
 exact ⟨b, off, e, h1, h2, fun j hj => ⟨⟨_, (hc j hj).1⟩, (hc j hj).2⟩⟩
theorem WrR.below {w w' : World} {lo hi B n : Nat} {A : Option Addr} (h : WrR w lo hi A n) (hb : Below B w w') (hB : hi ≤ B) : WrR w' lo hi A n := fun h0 => by
 obtain ⟨b, off, e, h1, h2, hW⟩ := h h0
 exact ⟨b, off, e, h1, h2, hW.blk (hb.block b (by omega))⟩
theorem WrR.keep {w w' : World} {lo hi n : Nat} {A : Option Addr} (h : WrR w lo hi A n) (hk : ∀ b off k, WrS w b off k → WrS w' b off k) : WrR w' lo hi A n := fun h0 => by
 obtain ⟨b, off, e, h1, h2, hW⟩ := h h0
 exact ⟨b, off, e, h1, h2, hk _ _ _ hW⟩
end Dy
end Go.Proofs.YtmbppgjhdcmckaaDoor
namespace Go.Proofs.YtmbppgjhdcmckaaDoor
open Go.RowKit
namespace Dy
open Dp
def rowB (ws : List Int) : Array Value := (ws.map (Value.int .u8)).toArray
theorem rowB_get (ws : List Int) {j : Nat} (h : j < ws.length) : (rowB ws)[j]? = some (.int .u8 (ws[j]?.getD 0)) := by
 simp [rowB, h]
theorem rowB_set (ws : List Int) (j : Nat) (v : Int) : (rowB ws).setIfInBounds j (.int .u8 v) = rowB (ws.set j v) := by
 simp [rowB, List.map_set]
/-- Digits from place t on, in a block of their own. -/
structure Qb (w : World) (g n t : Nat) (qh : List Int) : Prop where
 blk : w.heap[g]? = some (.cells (rowB (List.replicate t 0 ++ qh)) 5 (0, 0))
 len : t + qh.length = n
 dig : Dig 2 qh
theorem rep_set (t : Nat) (qh : List Int) (d : Int) : (List.replicate (t + 1) 0 ++ qh).set t d = List.replicate t 0 ++ (d :: qh) := by
 rw [List.replicate_succ', List.append_assoc, List.set_append]
 simp
theorem rep_zero (t : Nat) (qh : List Int) : (List.replicate (t + 1) (0 : Int) ++ qh) = List.replicate t 0 ++ (0 :: qh) := by
 rw [List.replicate_succ', List.append_assoc]
 rfl
theorem Qb.next {w : World} {g n t : Nat} {qh : List Int} (h : Qb w g n (t + 1) qh) : Qb w g n t (0 :: qh) :=
 ⟨by rw [← rep_zero]; exact h.blk, by have := h.len; simp; omega, fun x hx => by
  rcases List.mem_cons.1 hx with rfl | hx
  · decide
  · exact h.dig x hx⟩
theorem Qb.set {w : World} {g n t : Nat} {qh : List Int} (h : Qb w g n (t + 1) qh) : Qb (w.setCell ⟨g, t, none⟩ (.int .u8 1)) g n t (1 :: qh) :=
 ⟨by rw [heap_setCell_same w g t _ _ _ h.blk, rowB_set, rep_set], by have := h.len; simp; omega, fun x hx => by
  rcases List.mem_cons.1 hx with rfl | hx
  · decide
  · exact h.dig x hx⟩
theorem Qb.on {w w' : World} {g n t B : Nat} {qh : List Int} (h : Qb w g n t qh) (hb : Below B w w') (hB : g < B) : Qb w' g n t qh := ⟨(hb.block g hB).trans h.blk, h.len, h.dig⟩
theorem Qb.cell {w : World} {g n t : Nat} {qh : List Int} (h : Qb w g n t qh) {j : Nat} (hj : j < n) : w.cell? ⟨g, j, none⟩ = some (.int .u8 ((List.replicate t 0 ++ qh)[j]?.getD 0)) := by
 rw [cell_of_row w g j _ _ _ h.blk]
 exact rowB_get _ (by have := h.len; simp; omega)
theorem Qb.free {w : World} {g n t : Nat} {qh : List Int} (h : Qb w g n t qh) (j : Nat) : w.frozen? ⟨g, j, none⟩ = false := frozen_of_row w g j _ _ h.blk
theorem Qb.ints {w : World} {g n : Nat} {qh : List Int} (h : Qb w g n 0 qh) (hn : n ≤ 1000000) : Ints w g (g + 1) .u8 (some ⟨g, 0, none⟩) n qh :=
 ⟨by have := h.len; omega, fun x hx => by
  have := h.dig x hx
  simp only [IntKind.min, IntKind.max, IntKind.signed, IntKind.bits]
  omega, by omega, fun _ => ⟨g, 0, rfl, Nat.le_refl _, Nat.lt_succ_self _, fun j hj => ⟨by
   rw [Nat.zero_add, h.cell hj]
   rfl, h.free _⟩⟩⟩
end Dy
end Go.Proofs.YtmbppgjhdcmckaaDoor