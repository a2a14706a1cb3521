/- The laws of shares: what lies between two values. No program in sight. -/
/- The laws of shares: what push.Between tells. No program in sight. -/
/- Shares with known numbers: what is kept, sent, taken, told. No program in sight. -/
/- headcountlaw15.spoil: a walk; rows that are spoilt one behind the other. -/
/- headcountref15: zero, May, Check, Give, Take: walks (printed by a program of mine). -/
/- Quotients of bits: headcountref01.Into, by a walk. -/
/- headcountref03.asked, Part: walks (printed by a program of mine). -/
import Derived.Test.YtbbnbgllgomolaaBe15
import Derived.Test.YtbbnbgllgomolaaBe14
import Derived.Test.YtbbnbgllgomolaaBe09
import Derived.Test.YtbbnbgllgomolaaBe10
import Derived.Test.YtbbnbgllgomolaaBe08
import Derived.Test.YtbbnbgllgomolaaBe07
import Derived.Test.YtbbnbgllgomolaaBe13
import Derived.Test.YtbbnbgllgomolaaBe04
namespace Go.Proofs.Ytbbnbgllgomolaa
open Go.RowKit
namespace Ma
open Dp Dy
/-- A number's parts lie between so many times another one's. -/
def liesD (a b : Dn) (low high : Int) : Prop := ∃ K, a.e ≤ K ∧ b.e ≤ K ∧ low * vl b K ≤ vl a K ∧ vl a K ≤ high * vl b K
theorem lies_at {a b : Dn} {low high : Int} (h : liesD a b low high) {K : Nat} (h1 : a.e ≤ K) (h2 : b.e ≤ K) : low * vl b K ≤ vl a K ∧ vl a K ≤ high * vl b K := by
 obtain ⟨L, l1, l2, k1, k2⟩ := h
 have hp : ∀ n : Nat, (0 : Int) < 2 ^ n := fun n => Int.pow_pos (by omega)
 -- both at the greater one
 have a1 := vl_more a (k := K) (l := max K L) h1 (by omega)
 have a2 := vl_more a (k := L) (l := max K L) l1 (by omega)
 have b1 := vl_more b (k := K) (l := max K L) h2 (by omega)
 have b2 := vl_more b (k := L) (l := max K L) l2 (by omega)
 have q1 : low * vl b (max K L) ≤ vl a (max K L) := by
  rw [a2, b2, ← Int.mul_assoc]
  exact Int.mul_le_mul_of_nonneg_right k1 (Int.le_of_lt (hp _))
 have q2 : vl a (max K L) ≤ high * vl b (max K L) := by
  rw [a2, b2, ← Int.mul_assoc]
  exact Int.mul_le_mul_of_nonneg_right k2 (Int.le_of_lt (hp _))
 rw [a1, b1, ← Int.mul_assoc] at q1 q2
 exact ⟨Int.le_of_mul_le_mul_right q1 (hp _), Int.le_of_mul_le_mul_right q2 (hp _)⟩
theorem lies_zero {a b : Dn} (ha : a.m = 0) (hb : b.m = 0) (low high : Int) : liesD a b low high := by
 refine ⟨max a.e b.e, by omega, by omega, ?_, ?_⟩ <;> simp [vl, sg, ha, hb]
/-- Halves lie as the whole. -/
theorem lies_half {a b : Dn} {low high : Int} (h1 : (halfD a).2 = 0) (h2 : (halfD b).2 = 0) : liesD (halfD a).1 (halfD b).1 low high ↔ liesD a b low high := by
 obtain ⟨a1, a2⟩ := half_vl h1
 obtain ⟨b1, b2⟩ := half_vl h2
 have a3 := a2 (max a.e b.e + 1) (by omega)
 have b3 := b2 (max a.e b.e + 1) (by omega)
 constructor
 · intro h
   obtain ⟨k1, k2⟩ := lies_at h (K := max a.e b.e + 1) (by omega) (by omega)
   refine ⟨max a.e b.e + 1, by omega, by omega, ?_, ?_⟩
   · rw [← a3, ← b3, Int.mul_left_comm]
     omega
   · rw [← a3, ← b3, Int.mul_left_comm]
     omega
 · intro h
   obtain ⟨k1, k2⟩ := lies_at h (K := max a.e b.e + 1) (by omega) (by omega)
   rw [← a3, ← b3, Int.mul_left_comm] at k1 k2
   exact ⟨max a.e b.e + 1, by omega, by omega, by omega, by omega⟩
/-- Sums lie as both. -/
theorem lies_add {a b c d : Dn} {low high : Int} (h1 : (addD a c).2 = 0) (h2 : (addD b d).2 = 0) (ha : liesD a b low high) (hc : liesD c d low high) : liesD (addD a c).1 (addD b d).1 low high := by
 obtain ⟨a1, a2⟩ := add_vl h1
 obtain ⟨b1, b2⟩ := add_vl h2
 obtain ⟨K, hK⟩ : ∃ K, a.e + b.e + c.e + d.e ≤ K := ⟨_, Nat.le_refl _⟩
 obtain ⟨k1, k2⟩ := lies_at ha (K := K) (by omega) (by omega)
 obtain ⟨k3, k4⟩ := lies_at hc (K := K) (by omega) (by omega)
 refine ⟨K, by omega, by omega, ?_, ?_⟩
 · rw [a2 K (by omega) (by omega), b2 K (by omega) (by omega), Int.mul_add]
   omega
 · rw [a2 K (by omega) (by omega), b2 K (by omega) (by omega), Int.mul_add]
   omega
/-- Quotients, down and up, tell what lies between. -/
theorem between_law {a b : Dn} (hn : b.neg = false) (h0 : b.m ≠ 0) {low high : Int} (hl : -2147483647 ≤ low) (hh : high ≤ 2147483647) (hlh : low ≤ high) :
  ((bothD (toD a b 0 a.neg) (toD a b 0 (!a.neg))).2 = 0 ∧ cmpD (whole low) (bothD (toD a b 0 a.neg) (toD a b 0 (!a.neg))).1.1 ≤ 0 ∧ cmpD (bothD (toD a b 0 a.neg) (toD a b 0 (!a.neg))).1.2 (whole high) ≤ 0) ↔ liesD a b low high := by
 obtain ⟨K, hK⟩ : ∃ K, a.e + b.e ≤ K := ⟨_, Nat.le_refl _⟩
 obtain ⟨N, hN, sN⟩ := toD_floor hn h0 0 hK (a := a)
 obtain ⟨M, hM, sM⟩ := toD_ceil hn h0 0 hK (a := a)
 obtain ⟨bp, bq⟩ := vl_pos hn h0 K
 have hB : 0 < vl b K := by rw [bp]; exact_mod_cast bq
 rw [Int.pow_zero, Int.mul_one] at sN sM
 have f1 := Int.mul_ediv_add_emod (vl a K) (vl b K)
 have f2 := Int.emod_nonneg (vl a K) (show vl b K ≠ 0 by omega)
 have f3 := Int.emod_lt_of_pos (vl a K) hB
 have g1 := Int.mul_ediv_add_emod (-vl a K) (vl b K)
 have g2 := Int.emod_nonneg (-vl a K) (show vl b K ≠ 0 by omega)
 have g3 := Int.emod_lt_of_pos (-vl a K) hB
 generalize vl a K / vl b K = q at *
 generalize -vl a K / vl b K = p at *
 generalize vl a K % vl b K = r at *
 generalize -vl a K % vl b K = r2 at *
 rw [hN, hM]
 have le_iff : ∀ x y : Int, x * vl b K < y * vl b K + vl b K ↔ x ≤ y := fun x y => by
  constructor
  · intro h
    have : x * vl b K < (y + 1) * vl b K := by rw [Int.add_mul, Int.one_mul]; exact h
    have := Int.lt_of_mul_lt_mul_right this (Int.le_of_lt hB)
    omega
  · intro h
    have := Int.mul_le_mul_of_nonneg_right h (Int.le_of_lt hB)
    omega
 have e1 : vl b K * q = q * vl b K := Int.mul_comm ..
 have e2 : vl b K * p = p * vl b K := Int.mul_comm ..
 have up : ∀ x y : Int, x ≤ y → x * vl b K ≤ y * vl b K := fun x y h => Int.mul_le_mul_of_nonneg_right h (Int.le_of_lt hB)
 have c1 : low * vl b K ≤ vl a K ↔ low ≤ q := ⟨fun h => (le_iff low q).1 (by omega), fun h => by have := up low q h; omega⟩
 have e3 : -high * vl b K = -(high * vl b K) := Int.neg_mul ..
 have c2 : vl a K ≤ high * vl b K ↔ -high ≤ p := ⟨fun h => (le_iff (-high) p).1 (by omega), fun h => by have := up (-high) p h; omega⟩
 have hlies : liesD a b low high ↔ low ≤ q ∧ -p ≤ high := by
  constructor
  · intro h
    obtain ⟨k1, k2⟩ := lies_at h (K := K) (by omega) (by omega)
    exact ⟨c1.1 k1, by have := c2.1 k2; omega⟩
  · rintro ⟨k1, k2⟩
    exact ⟨K, by omega, by omega, c1.2 k1, c2.2 (by omega)⟩
 rw [hlies]
 have qp : q ≤ -p := (le_iff _ _).1 (by rw [Int.neg_mul]; omega)
 have wv : ∀ z : Int, -9223372036854775808 ≤ z → z ≤ 9223372036854775807 → ∀ x : Dn, x.e ≤ 0 → ((cmpD (whole z) x ≤ 0 ↔ z ≤ vl x 0) ∧ (cmpD x (whole z) ≤ 0 ↔ vl x 0 ≤ z)) := fun z z0 z1 x hx => by
  have := vl_whole z
  have hw : (whole z).e ≤ 0 := Nat.le_refl _
  rcases cmp_spec (whole z) x hw hx with ⟨k1, k2⟩ | ⟨k1, k2⟩ | ⟨k1, k2⟩ <;> rcases cmp_spec x (whole z) hx hw with ⟨k3, k4⟩ | ⟨k3, k4⟩ | ⟨k3, k4⟩ <;> rw [k1, k3] <;> omega
 constructor
 · rintro ⟨h1, h2, h3⟩
   unfold bothD at h1 h2 h3
   by_cases k1 : (formed a.neg N 0).2 = 0
   · by_cases k2 : (formed a.neg M 0).2 = 0
     · rw [if_pos k1, if_pos k2] at h2 h3
       obtain ⟨x1, x2⟩ := formed_vl k1
       obtain ⟨y1, y2⟩ := formed_vl k2
       have x3 := x2 0 (Nat.le_refl _)
       have y3 := y2 0 (Nat.le_refl _)
       simp only [Nat.sub_self, Nat.pow_zero, Nat.mul_one] at x3 y3
       have u1 := (wv low (by omega) (by omega) _ x1).1.1 h2
       have u2 := (wv high (by omega) (by omega) _ y1).2.1 h3
       omega
     · rw [if_pos k1, if_neg k2] at h1
       exact absurd h1 k2
   · rw [if_neg k1] at h1
     exact absurd h1 k1
 · rintro ⟨h1, h2⟩
   have F1 : formed a.neg N 0 = (whole q, 0) := whole_of (by omega) (by omega) sN
   have F2 : formed a.neg M 0 = (whole (-p), 0) := whole_of (by omega) (by omega) sM
   rw [F1, F2]
   unfold bothD
   rw [if_pos rfl, if_pos rfl]
   refine ⟨rfl, (wv low (by omega) (by omega) _ (Nat.le_refl _)).1.2 (by rw [vl_whole]; exact h1), (wv high (by omega) (by omega) _ (Nat.le_refl _)).2.2 (by rw [vl_whole]; omega)⟩
end Ma
end Go.Proofs.Ytbbnbgllgomolaa
namespace Go.Proofs.Ytbbnbgllgomolaa
open Go.RowKit
namespace Ma
open Dp Dy
def liesM (m : Mv) (low high : Int) : Prop := liesD (dnM m 0) (dnM m 1) low high
theorem xs_nil {w : World} {lo hi : Nat} {A : Option Addr} {n : Nat} {xs : List Int} (h : Ints w lo hi .u32 A n xs) : n = 0 ↔ xs = [] := by
 have := h.len
 constructor
 · intro h0
   exact List.length_eq_zero_iff.1 (by omega)
 · intro h0
   rw [h0] at this
   exact this.symm
theorem num_nil0 {s : Bool} {e : Int} : (dn s [] e).m = 0 := rfl
/-- A share whose weight is not 0. -/
theorem share_down {w : World} {lo hi : Nat} {m : Mv} (hR : MRows w lo hi m) (hs : m.share) (hn : m.W.n ≠ 0) (k : Int) (k0 : 0 ≤ k) (k1 : k ≤ 64) :
  downM m k = toD (dnM m 0) (dnM m 1) k.toNat (dnM m 0).neg ∧ upM m k = toD (dnM m 0) (dnM m 1) k.toNat (!(dnM m 0).neg) ∧ (dnM m 1).neg = false ∧ (dnM m 1).m ≠ 0 := by
 have hx : m.W.xs ≠ [] := fun h => hn ((xs_nil hR.W).2 h)
 have m0 : MayD m.S.s m.S.xs m.S.e := hs.1 0 (by decide)
 have m1 : MayD m.W.s m.W.xs m.W.e := hs.1 1 (by decide)
 have ha : askX m.S.s m.S.xs m.S.e m.W.s m.W.xs m.W.e k = 0 := by
  unfold askX
  rw [if_pos ⟨m0, m1⟩, if_neg]
  rintro (h | h | h | h)
  · rw [hs.2.1] at h
    cases h
  · exact hx h
  · omega
  · omega
 refine ⟨?_, ?_, ?_, dn_ne (dig_ints hR.W) m1 hx⟩
 · unfold downM toX
   rw [if_pos ha]
   rfl
 · unfold upM toX
   rw [if_pos ha]
   rfl
 · show (dn m.W.s m.W.xs m.W.e).neg = false
   exact hs.2.1
theorem between_share {w : World} {lo hi : Nat} {m : Mv} (hR : MRows w lo hi m) (hs : m.share) {low high : Int} (hl : -2147483647 ≤ low) (hh : high ≤ 2147483647) (hlh : low ≤ high) :
  ∃ r, betweenM m low high = (r, 0) ∧ (r = true ↔ liesM m low high) := by
 unfold betweenM
 rw [if_neg (by rw [badS_one.2 hs]; simp), if_neg (by omega)]
 by_cases hn : m.W.n = 0
 · rw [if_pos hn]
   refine ⟨true, rfl, fun _ => ?_, fun _ => rfl⟩
   have h1 : m.W.xs = [] := (xs_nil hR.W).1 hn
   have h2 : m.S.xs = [] := (xs_nil hR.S).1 (hs.2.2 hn)
   refine lies_zero ?_ ?_ _ _
   · show (dn m.S.s m.S.xs m.S.e).m = 0
     rw [h2]
     exact num_nil0
   · show (dn m.W.s m.W.xs m.W.e).m = 0
     rw [h1]
     exact num_nil0
 · rw [if_neg hn]
   obtain ⟨d1, d2, d3, d4⟩ := share_down hR hs hn 0 (by decide) (by decide)
   rw [d1, d2]
   have hlaw := between_law d3 d4 hl hh hlh (a := dnM m 0)
   have e0 : (0 : Int).toNat = 0 := rfl
   rw [e0]
   unfold liesM
   rw [← hlaw]
   generalize bothD (toD (dnM m 0) (dnM m 1) 0 (dnM m 0).neg) (toD (dnM m 0) (dnM m 1) 0 (!(dnM m 0).neg)) = X
   by_cases hc : X.2 = 0
   · rw [if_pos hc]
     refine ⟨_, rfl, ?_⟩
     rw [Bool.and_eq_true, decide_eq_true_eq, decide_eq_true_eq]
     exact ⟨fun h => ⟨hc, h⟩, fun h => h.2⟩
   · rw [if_neg hc]
     exact ⟨false, rfl, ⟨fun h => absurd h (by decide), fun h => absurd h.1 hc⟩⟩
end Ma
end Go.Proofs.Ytbbnbgllgomolaa
namespace Go.Proofs.Ytbbnbgllgomolaa
open Go.RowKit
namespace Ma
open Dp Dy
theorem IsM.dn {R : Nat → Dn} {m : Mv} (h : IsM R m) {x : Nat} (hx : x < 4) : dnM m x = R x := by
 obtain ⟨h1, h2, h3⟩ := h x hx
 unfold dnM
 rw [h1, h2, h3]
 exact dn_of
theorem can_nil {r : Dn} (h : canon 4294967296 r.m = []) : r.m = 0 := by
 have e : (Dy.dn r.neg (canon 4294967296 r.m) r.e).m = r.m := by rw [dn_of]
 rw [h] at e
 exact e.symm
theorem Is.len {w : World} {lo hi : Nat} {r : Dn} {d : Dv} (h : Is r d) (hI : Ints w lo hi .u32 d.A d.n d.xs) : d.n = 0 ↔ r.m = 0 := by
 rw [xs_nil hI, h.2.2]
 exact ⟨can_nil, fun h0 => by rw [h0]; rfl⟩
theorem share_is {w : World} {lo hi : Nat} {m : Mv} {R : Nat → Dn} (hR : MRows w lo hi m) (h : IsM R m) (hr : MayR R) : m.share ↔ ((R 1).neg = false ∧ ((R 1).m = 0 → (R 0).m = 0)) := by
 have l1 : m.W.n = 0 ↔ (R 1).m = 0 := Is.len (h 1 (by decide)) hR.W
 have l0 : m.S.n = 0 ↔ (R 0).m = 0 := Is.len (h 0 (by decide)) hR.S
 have s1 : m.W.s = (R 1).neg := (h 1 (by decide)).1
 unfold Mv.share
 rw [l1, l0, s1]
 exact ⟨fun k => k.2, fun k => ⟨h.may hr, k⟩⟩
theorem between_of {w : World} {lo hi : Nat} {m : Mv} {R : Nat → Dn} {low high : Int} (hR : MRows w lo hi m) (h : IsM R m) (hs : m.share) (hl : -2147483647 ≤ low) (hh : high ≤ 2147483647) (hlh : low ≤ high) {b : Bool} (hb : b = true ↔ liesD (R 0) (R 1) low high) : betweenM m low high = (b, 0) := by
 obtain ⟨r, h1, h2⟩ := between_share hR hs hl hh hlh
 rw [h1]
 unfold liesM at h2
 rw [h.dn (by decide), h.dn (by decide), ← hb] at h2
 cases r <;> cases b <;> simp_all
/-- A share of S and W alone. -/
def twoR (a b : Dn) (x : Nat) : Dn := if x = 0 then a else if x = 1 then b else Dn.zero
theorem twoR_may {a b : Dn} (ha : a.May) (hb : b.May) : MayR (twoR a b) := four ha hb zero_may zero_may
theorem twoR_is {a b : Dn} {d e : Dv} (hd : Is a d) (he : Is b e) : IsM (twoR a b) ⟨d, e, ZM.C, ZM.A⟩ := four hd he Is.zero Is.zero
theorem sm (m e : Nat) (h0 : m ≠ 0) (h1 : m < 16) (h2 : e ≤ 1024) (h3 : 0 < e → m % 2 = 1) : Dn.May ⟨false, m, e⟩ := may_small _ _ _ h0 h1 h2 h3
end Ma
end Go.Proofs.Ytbbnbgllgomolaa
namespace Go.Proofs.Ytbbnbgllgomolaa
open Go.RowKit
namespace Dy
open Dp
/-- Cells that may be written. -/
def WrS (w : World) (b off n : Nat) : Prop := ∀ j, j < n → (∃ u, w.cell? ⟨b, off + j, none⟩ = some u) ∧ w.frozen? ⟨b, off + j, none⟩ = false
theorem WrS.set_ {w : World} {b off n : Nat} (h : WrS w b off n) (p : Addr) (v : Value) : WrS (w.setCell p v) b off n := fun j hj => by
 obtain ⟨⟨u, h1⟩, h2⟩ := h j hj
 refine ⟨?_, by rw [World.frozen?_setCell]; exact h2⟩
 by_cases e : p = ⟨b, off + j, none⟩
 · subst e
   exact ⟨v, World.cell?_setCell_same' _ _ _ (by rw [h1]; rfl)⟩
 · exact ⟨u, (World.cell?_setCell_other _ _ _ _ e).trans h1⟩
theorem WrS.blk {w w' : World} {b off n : Nat} (h : WrS w b off n) (hk : w'.heap[b]? = w.heap[b]?) : WrS w' b off n := fun j hj => by
 obtain ⟨⟨u, h1⟩, h2⟩ := h j hj
 exact ⟨⟨u, by rw [World.cell?_of_block hk]; exact h1⟩, by rw [World.frozen?_of_block hk]; exact h2⟩
/-- A row that may be written. -/
def WrR (w : World) (lo hi : Nat) (A : Option Addr) (n : Nat) : Prop := 0 < n → ∃ b off, A = some ⟨b, off, none⟩ ∧ lo ≤ b ∧ b < hi ∧ WrS w b off n
theorem WrR.of {w : World} {lo hi n : Nat} {A : Option Addr} {xs : List Int} (h : Ints w lo hi .u32 A n xs) : WrR w lo hi A n := fun h0 => by
 obtain ⟨b, off, e, h1, h2, hc⟩ := h.row h0
 exact ⟨b, off, e, h1, h2, fun j hj => ⟨⟨_, (hc j hj).1⟩, (hc j hj).2⟩⟩
theorem WrR.below {w w' : World} {lo hi B n : Nat} {A : Option Addr} (h : WrR w lo hi A n) (hb : Below B w w') (hB : hi ≤ B) : WrR w' lo hi A n := fun h0 => by
 obtain ⟨b, off, e, h1, h2, hW⟩ := h h0
 exact ⟨b, off, e, h1, h2, hW.blk (hb.block b (by omega))⟩
theorem WrR.keep {w w' : World} {lo hi n : Nat} {A : Option Addr} (h : WrR w lo hi A n) (hk : ∀ b off k, WrS w b off k → WrS w' b off k) : WrR w' lo hi A n := fun h0 => by
 obtain ⟨b, off, e, h1, h2, hW⟩ := h h0
 exact ⟨b, off, e, h1, h2, hk _ _ _ hW⟩
set_option maxHeartbeats 1600000 in
set_option maxRecDepth 100000 in
/-- headcountlaw15.spoil: just the row's own range is written. -/
theorem spoil15_any (w : World) (s : Bool) (A : Option Addr) (n c : Nat) (ex : Int) (lo hi : Nat) (h : WrR w lo hi A n) (hn : n ≤ 1000000) (hhi : hi ≤ w.heap.size) (hlo : lo ≤ w.heap.size) :
  Calls Try.prog 53 #[.agg #[.bool s, .slice A n c, .int .i64 ex]] w fun e w' => e = .returned (.tuple #[]) ∧ Below lo w w' ∧ From hi w w' ∧ ∀ b off k, WrS w b off k → WrS w' b off k := by
 generalize hw : w.alloc (.cells #[.bool s, .slice A n c, .int .i64 ex] 25) = w1 at *
 have X1 : w1.heap[w.heap.size]? = some (.cells #[.bool s, .slice A n c, .int .i64 ex] 25 (0, 0)) := by rw [← hw]; exact heap_alloc_last _ _
 have b1 : Below lo w w1 := by rw [← hw]; exact (Below.refl _ w).alloc hlo _
 have f1 : From hi w w1 := by rw [← hw]; exact fun k _ h2 => Below.heap_alloc _ _ _ h2
 have k1 : ∀ b off k, WrS w b off k → WrS w1 b off k := fun b off k hW => by
  by_cases hk : k = 0
  · subst hk
    exact fun j hj => absurd hj (Nat.not_lt_zero _)
  · refine hW.blk ?_
    rw [← hw]
    obtain ⟨⟨u, h1⟩, _⟩ := hW 0 (by omega)
    exact Below.heap_alloc _ _ _ (World.block_lt_of_cell? w _ h1)
 have hc := h.keep k1
 clear h
 go_enter Try.func53, Try.ntmps53
 go_wp2
 try clear hw
 go_loopw [2] (fun iv wr => ∃ i : Nat, iv = .int .i64 i ∧ i ≤ n ∧ wr.heap[w.heap.size]? = some (.cells #[.bool s, .slice A n c, .int .i64 ex] 25 (0, 0)) ∧ Below lo w wr ∧ From hi w wr ∧ Hid (WrR wr lo hi A n) ∧ Hid (∀ b off k, WrS w b off k → WrS wr b off k)) (fun iv _ => n - (intOf iv).toNat)
 case atStart => exact ⟨0, rfl, Nat.zero_le _, X1, b1, f1, Lib.hid hc, Lib.hid k1⟩
 case round =>
  clear X1 b1 f1 hc k1
  obtain ⟨i, rfl, hi1, X1, b1, f1, hc, k1⟩ := hrel
  obtain ⟨⟨y1, y2, y3⟩, y4, y5, y6⟩ := boxD X1
  by_cases hlt : i < n
  · obtain ⟨b, off, rfl, hb1, hb2, hW⟩ := hc.out (by omega)
    clear hc
    obtain ⟨⟨u, q1⟩, q2⟩ := hW i hlt
    have hwr : IntKind.i64.wrap ((i : Int) + 1) = ((i + 1 : Nat) : Int) := by rw [IntKind.wrap_i64]; omega
    go_wp2
    go_roundw
    case rel => exact ⟨i + 1, by first | rfl | (congr 1; omega) | go_num, by omega, (Below.heap_setCell _ _ _ _ (by simp; omega)).trans X1, b1.setCell hb1 _, f1.setCell hb2 _, Lib.hid fun _ => ⟨b, off, rfl, hb1, hb2, hW.set_ _ _⟩, Lib.hid fun b' off' k' h' => (k1.out b' off' k' h').set_ _ _⟩
    case measure => first | (simp [intOf]; done) | (simp [intOf]; omega)
  · obtain rfl : i = n := by omega
    clear hc
    go_wp2
    go_end0
    exact ⟨rfl, b1, f1, k1.out⟩
end Dy
end Go.Proofs.Ytbbnbgllgomolaa
namespace Go.Proofs.Ytbbnbgllgomolaa
open Go.RowKit
namespace Ma
open Dp Dy
set_option maxHeartbeats 3200000 in
/-- headcountref15.zero. -/
theorem rzero_any (w : World) (s : Bool) (A : Option Addr) (n c : Nat) (e : Int) (b : Bool) (hb : decide (n = 0) = b) :
  Calls Try.prog 91 #[.agg #[.bool s, .slice A n c, .int .i64 e]] w fun e w' => e = .returned (.bool b) ∧ Below w.heap.size w w' := by
 have fin := (Below.refl w.heap.size w).alloc (Nat.le_refl _) (.cells #[.bool s, .slice A n c, .int .i64 e] 25)
 have B1 := heap_alloc_last w (.cells #[.bool s, .slice A n c, .int .i64 e] 25)
 generalize hw : w.alloc (.cells #[.bool s, .slice A n c, .int .i64 e] 25) = w1 at *
 obtain ⟨⟨p1, p2, p3⟩, p4, p5, p6⟩ := boxD B1
 by_cases h : n = 0
 · have hb' : b = true := by rw [← hb]; exact decide_eq_true h
   subst hb'
   subst h
   go_enter Try.func91, Try.ntmps91
   go_wp2
   go_ret
   exact ⟨rfl, fin⟩
 · have hb' : b = false := by rw [← hb]; exact decide_eq_false h
   subst hb'
   have hxb : ((n : Int) == 0) = false := by
    have : (n : Int) ≠ 0 := by omega
    simpa using this
   go_enter Try.func91, Try.ntmps91
   go_wp2
   go_ret
   exact ⟨rfl, fin⟩
set_option maxHeartbeats 12800000 in
set_option maxRecDepth 100000 in
/-- headcountref15.May. -/
theorem RMayS_any (w : World) (m : Mv) (hR : MRows w 0 w.heap.size m) (b : Bool) (hb : badS [m] = b) :
  Calls Try.prog 90 #[.agg #[.bool m.S.s, .slice m.S.A m.S.n m.S.c, .int .i64 m.S.e, .bool m.W.s, .slice m.W.A m.W.n m.W.c, .int .i64 m.W.e, .bool m.C.s, .slice m.C.A m.C.n m.C.c, .int .i64 m.C.e, .bool m.A.s, .slice m.A.A m.A.n m.A.c, .int .i64 m.A.e]] w fun e w' => e = .returned (.bool (!b)) ∧ Below w.heap.size w w' := by
 have HB := Lib.hid hb
 clear hb
 have hM := heap_alloc_last w (.cells #[.bool m.S.s, .slice m.S.A m.S.n m.S.c, .int .i64 m.S.e, .bool m.W.s, .slice m.W.A m.W.n m.W.c, .int .i64 m.W.e, .bool m.C.s, .slice m.C.A m.C.n m.C.c, .int .i64 m.C.e, .bool m.A.s, .slice m.A.A m.A.n m.A.c, .int .i64 m.A.e] 27)
 have j1 := (Below.refl w.heap.size w).alloc (Nat.le_refl _) (.cells #[.bool m.S.s, .slice m.S.A m.S.n m.S.c, .int .i64 m.S.e, .bool m.W.s, .slice m.W.A m.W.n m.W.c, .int .i64 m.W.e, .bool m.C.s, .slice m.C.A m.C.n m.C.c, .int .i64 m.C.e, .bool m.A.s, .slice m.A.A m.A.n m.A.c, .int .i64 m.A.e] 27)
 have S1 : w.heap.size < (w.alloc (.cells #[.bool m.S.s, .slice m.S.A m.S.n m.S.c, .int .i64 m.S.e, .bool m.W.s, .slice m.W.A m.W.n m.W.c, .int .i64 m.W.e, .bool m.C.s, .slice m.C.A m.C.n m.C.c, .int .i64 m.C.e, .bool m.A.s, .slice m.A.A m.A.n m.A.c, .int .i64 m.A.e] 27)).heap.size := by simp
 generalize hw : w.alloc (.cells #[.bool m.S.s, .slice m.S.A m.S.n m.S.c, .int .i64 m.S.e, .bool m.W.s, .slice m.W.A m.W.n m.W.c, .int .i64 m.W.e, .bool m.C.s, .slice m.C.A m.C.n m.C.c, .int .i64 m.C.e, .bool m.A.s, .slice m.A.A m.A.n m.A.c, .int .i64 m.A.e] 27) = w1 at *
 replace hM : MBox w1 w.heap.size m := hM
 have Rm : MRows w1 0 w1.heap.size m := hR.on j1
 have no : ¬ m.share → b = true := fun h => by rw [← HB.out]; exact badS_yes (List.mem_singleton.2 rfl) h
 have yes : m.share → b = false := fun h => by rw [← HB.out]; exact badS_one.2 h
 go_enter Try.func90, Try.ntmps90
 obtain ⟨⟨q1_0, q1_1, q1_2, q1_3, q1_4, q1_5, q1_6, q1_7, q1_8, q1_9, q1_10, q1_11⟩, q1f⟩ := MBox.cells hM
 by_cases hm : m.may
 rotate_left
 · skip
   have hb' : b = true := no (fun h => hm h.1)
   subst hb'
   have HM : Hid (mayMB m = false) := Lib.hid (by cases h : mayMB m; rfl; exact absurd ((mayMB_iff m).1 h) hm)
   clear hm no yes
   go_wp2_with fail
   refine (RMay_any w1 m Rm false HM.out).mono ?_
   rintro e' v2 ⟨rfl, j3⟩
   clear q1_0 q1_1 q1_2 q1_3 q1_4 q1_5 q1_6 q1_7 q1_8 q1_9 q1_10 q1_11 q1f
   try clear hw
   go_wp2
   go_ret
   exact ⟨rfl, (later j1 j3)⟩
 · skip
   have HM := Lib.hid ((mayMB_iff m).2 hm)
   go_wp2_with fail
   refine (RMay_any w1 m Rm true HM.out).mono ?_
   rintro e' v4 ⟨rfl, j5⟩
   clear q1_0 q1_1 q1_2 q1_3 q1_4 q1_5 q1_6 q1_7 q1_8 q1_9 q1_10 q1_11 q1f
   try clear hw
   cases hs : m.W.s
   rotate_left
   · skip
     obtain ⟨⟨q6_0, q6_1, q6_2, q6_3, q6_4, q6_5, q6_6, q6_7, q6_8, q6_9, q6_10, q6_11⟩, q6f⟩ := MBox.cells (box_later hM j5 S1)
     rw [hs] at q6_3
     have hb' : b = true := no (fun h => by have := h.2.1; rw [hs] at this; cases this)
     subst hb'
     clear hs no yes hm
     go_wp2
     go_ret
     exact ⟨rfl, (later j1 j5)⟩
   · skip
     have HS := Lib.hid hs
     obtain ⟨⟨q7_0, q7_1, q7_2, q7_3, q7_4, q7_5, q7_6, q7_7, q7_8, q7_9, q7_10, q7_11⟩, q7f⟩ := MBox.cells (box_later hM j5 S1)
     rw [hs] at q7_3
     clear hs
     by_cases hn : m.W.n = 0
     rotate_left
     · skip
       have hb' : b = false := yes ⟨hm, HS.out, fun h => absurd h hn⟩
       subst hb'
       have HN := Lib.hid hn
       clear hn no yes hm
       go_wp2_with fail
       refine (rzero_any v4 false m.W.A m.W.n m.W.c m.W.e false (decide_eq_false HN.out)).mono ?_
       rintro e' v8 ⟨rfl, j9⟩
       clear q7_0 q7_1 q7_2 q7_3 q7_4 q7_5 q7_6 q7_7 q7_8 q7_9 q7_10 q7_11 q7f
       try clear hw
       go_wp2
       go_ret
       exact ⟨rfl, (later j1 (later j5 j9))⟩
     · skip
       have HN := Lib.hid hn
       clear hn
       go_wp2_with fail
       refine (rzero_any v4 false m.W.A m.W.n m.W.c m.W.e true (decide_eq_true HN.out)).mono ?_
       rintro e' v10 ⟨rfl, j11⟩
       clear q7_0 q7_1 q7_2 q7_3 q7_4 q7_5 q7_6 q7_7 q7_8 q7_9 q7_10 q7_11 q7f
       try clear hw
       obtain ⟨⟨q12_0, q12_1, q12_2, q12_3, q12_4, q12_5, q12_6, q12_7, q12_8, q12_9, q12_10, q12_11⟩, q12f⟩ := MBox.cells (box_later hM (later j5 j11) S1)
       by_cases hn : m.S.n = 0
       rotate_left
       · skip
         have hb' : b = true := no (fun h => hn (h.2.2 HN.out))
         subst hb'
         have HN1 := Lib.hid hn
         clear hn no yes hm
         go_wp2_with fail
         refine (rzero_any v10 m.S.s m.S.A m.S.n m.S.c m.S.e false (decide_eq_false HN1.out)).mono ?_
         rintro e' v13 ⟨rfl, j14⟩
         clear q12_0 q12_1 q12_2 q12_3 q12_4 q12_5 q12_6 q12_7 q12_8 q12_9 q12_10 q12_11 q12f
         try clear hw
         go_wp2
         go_ret
         exact ⟨rfl, (later j1 (later j5 (later j11 j14)))⟩
       · skip
         have hb' : b = false := yes ⟨hm, HS.out, fun _ => hn⟩
         subst hb'
         have HN1 := Lib.hid hn
         clear hn no yes hm
         go_wp2_with fail
         refine (rzero_any v10 m.S.s m.S.A m.S.n m.S.c m.S.e true (decide_eq_true HN1.out)).mono ?_
         rintro e' v15 ⟨rfl, j16⟩
         clear q12_0 q12_1 q12_2 q12_3 q12_4 q12_5 q12_6 q12_7 q12_8 q12_9 q12_10 q12_11 q12f
         try clear hw
         go_wp2
         go_ret
         exact ⟨rfl, (later j1 (later j5 (later j11 j16)))⟩
end Ma
end Go.Proofs.Ytbbnbgllgomolaa
namespace Go.Proofs.Ytbbnbgllgomolaa
open Go.RowKit
namespace Dy
open Dp
def rowB (ws : List Int) : Array Value := (ws.map (Value.int .u8)).toArray
theorem rowB_get (ws : List Int) {j : Nat} (h : j < ws.length) : (rowB ws)[j]? = some (.int .u8 (ws[j]?.getD 0)) := by
 simp [rowB, h]
theorem rowB_set (ws : List Int) (j : Nat) (v : Int) : (rowB ws).setIfInBounds j (.int .u8 v) = rowB (ws.set j v) := by
 simp [rowB, List.map_set]
/-- Digits from place t on, in a block of their own. -/
structure Qb (w : World) (g n t : Nat) (qh : List Int) : Prop where
 blk : w.heap[g]? = some (.cells (rowB (List.replicate t 0 ++ qh)) 5 (0, 0))
 len : t + qh.length = n
 dig : Dig 2 qh
theorem rep_set (t : Nat) (qh : List Int) (d : Int) : (List.replicate (t + 1) 0 ++ qh).set t d = List.replicate t 0 ++ (d :: qh) := by
 rw [List.replicate_succ', List.append_assoc, List.set_append]
 simp
theorem rep_zero (t : Nat) (qh : List Int) : (List.replicate (t + 1) (0 : Int) ++ qh) = List.replicate t 0 ++ (0 :: qh) := by
 rw [List.replicate_succ', List.append_assoc]
 rfl
theorem Qb.next {w : World} {g n t : Nat} {qh : List Int} (h : Qb w g n (t + 1) qh) : Qb w g n t (0 :: qh) :=
 ⟨by rw [← rep_zero]; exact h.blk, by have := h.len; simp; omega, fun x hx => by
  rcases List.mem_cons.1 hx with rfl | hx
  · decide
  · exact h.dig x hx⟩
theorem Qb.set {w : World} {g n t : Nat} {qh : List Int} (h : Qb w g n (t + 1) qh) : Qb (w.setCell ⟨g, t, none⟩ (.int .u8 1)) g n t (1 :: qh) :=
 ⟨by rw [heap_setCell_same w g t _ _ _ h.blk, rowB_set, rep_set], by have := h.len; simp; omega, fun x hx => by
  rcases List.mem_cons.1 hx with rfl | hx
  · decide
  · exact h.dig x hx⟩
theorem Qb.on {w w' : World} {g n t B : Nat} {qh : List Int} (h : Qb w g n t qh) (hb : Below B w w') (hB : g < B) : Qb w' g n t qh := ⟨(hb.block g hB).trans h.blk, h.len, h.dig⟩
theorem Qb.cell {w : World} {g n t : Nat} {qh : List Int} (h : Qb w g n t qh) {j : Nat} (hj : j < n) : w.cell? ⟨g, j, none⟩ = some (.int .u8 ((List.replicate t 0 ++ qh)[j]?.getD 0)) := by
 rw [cell_of_row w g j _ _ _ h.blk]
 exact rowB_get _ (by have := h.len; simp; omega)
theorem Qb.free {w : World} {g n t : Nat} {qh : List Int} (h : Qb w g n t qh) (j : Nat) : w.frozen? ⟨g, j, none⟩ = false := frozen_of_row w g j _ _ h.blk
theorem Qb.ints {w : World} {g n : Nat} {qh : List Int} (h : Qb w g n 0 qh) (hn : n ≤ 1000000) : Ints w g (g + 1) .u8 (some ⟨g, 0, none⟩) n qh :=
 ⟨by have := h.len; omega, fun x hx => by
  have := h.dig x hx
  simp only [IntKind.min, IntKind.max, IntKind.signed, IntKind.bits]
  omega, by omega, fun _ => ⟨g, 0, rfl, Nat.le_refl _, Nat.lt_succ_self _, fun j hj => ⟨by
   rw [Nat.zero_add, h.cell hj]
   rfl, h.free _⟩⟩⟩
theorem make_u8 (n : Nat) (hn : n ≤ 1000000) (W : World) : (Instr.makeSlice 108 (.int .i64 n) (.int .i64 n)).run Try.prog W = .ok (.slice (some ⟨W.heap.size, 0, none⟩) n n) (W.alloc (.cells (rowB (List.replicate n 0)) 5)) := by
 obtain ⟨i0, hi0, hz0, hz1, hz2⟩ := info_parts Try.info5
 have := run_make (P := Try.prog) W 108 5 i0 (.int .u8 0) Try.underlying108 hi0 hz0 .i64 .i64 n n (by omega) (Int.le_refl _) (by rw [hz2]; omega) (by omega)
 rw [hz1, Int.toNat_natCast, Nat.mul_one] at this
 have e : madeCells (Value.int .u8 0).cells n = rowB (List.replicate n 0) := by
  unfold madeCells rowB
  apply Array.ext'
  simp [Value.cells, Nat.mod_one]
  rw [List.map_const', List.length_range]
 rw [e] at this
 exact this
theorem cons_num {B p v : Nat} {l : List Int} (h : num B l = v) : num B ((p : Int) :: l) = p + B * v := by
 rw [← h]
 simp [num]
theorem canon2_le {x y : Nat} (h : x ≤ y) : (canon 2 x).length ≤ (canon 2 y).length := by
 obtain ⟨d1, c1, n1⟩ := canon_spec 2 x (by decide)
 obtain ⟨d2, c2, n2⟩ := canon_spec 2 y (by decide)
 by_cases h0 : canon 2 x = []
 · rw [h0]
   exact Nat.zero_le _
 · have g1 := num_ge d1 c1 h0
   rw [n1] at g1
   have g2 := num_lt 2 (by decide) _ d2
   rw [n2] at g2
   by_cases hle : (canon 2 x).length ≤ (canon 2 y).length
   · exact hle
   · have := Nat.pow_le_pow_right (show 0 < 2 by decide) (show (canon 2 y).length ≤ (canon 2 x).length - 1 by omega)
     omega
theorem cmpN_ge {a b : Nat} : (cmpN a b ≥ 0) ↔ b ≤ a := by
 unfold cmpN
 split
 · omega
 · split <;> omega
/-- One digit of the dividend more. -/
theorem into_step {xs : List Int} {k x Y : Nat} (hk : k < xs.length) (hx : xs[k]?.getD 0 = (x : Int)) (hx1 : x ≤ 1) (hY : 0 < Y) {H R Q : Nat} (hH : num 2 (xs.drop (k + 1)) = H) (hR : H % Y = R) (hQ : H / Y = Q) :
  num 2 (xs.drop k) = 2 * H + x ∧ (Y ≤ 2 * R + x → (2 * H + x) % Y = 2 * R + x - Y ∧ (2 * H + x) / Y = 2 * Q + 1) ∧ (2 * R + x < Y → (2 * H + x) % Y = 2 * R + x ∧ (2 * H + x) / Y = 2 * Q) := by
 subst hR hQ
 refine ⟨?_, (div_next hY hx1).1, (div_next hY hx1).2⟩
 rw [drop_one 2 hk, hx, hH, Int.toNat_natCast]
 omega
set_option maxHeartbeats 3200000 in
set_option maxRecDepth 100000 in
/-- headcountref01.Into. -/
theorem Into_any (w : World) (lo hi lo' hi' : Nat) (A : Option Addr) (n c X : Nat) (hX : Ints w lo hi .u8 A n (canon 2 X)) (B : Option Addr) (m d Y : Nat) (hY : Ints w lo' hi' .u8 B m (canon 2 Y))
  (hhi : hi ≤ w.heap.size) (hhi' : hi' ≤ w.heap.size) (hn : n ≤ 100000) (hm : m ≤ 100000) (hY0 : 0 < Y) (q r : Nat) (hq : X / Y = q) (hr : X % Y = r) :
  Calls Try.prog 105 #[.slice A n c, .slice B m d] w fun e w' => ∃ A1 n1 c1 A2 n2 c2, e = .returned (.tuple #[.slice A1 n1 c1, .slice A2 n2 c2]) ∧ n1 ≤ c1 ∧ n1 ≤ n ∧ n2 ≤ c2 ∧ Below w.heap.size w w' ∧ Ints w' w.heap.size w'.heap.size .u8 A1 n1 (canon 2 q) ∧ Ints w' w.heap.size w'.heap.size .u8 A2 n2 (canon 2 r) := by
 obtain ⟨hdx, _, hx⟩ := canon_spec 2 X (by decide)
 obtain ⟨hdy, hcy, hy⟩ := canon_spec 2 Y (by decide)
 obtain ⟨xs, hxs⟩ : ∃ xs, canon 2 X = xs := ⟨_, rfl⟩
 rw [hxs] at hX hdx hx
 clear hxs
 have HL := Lib.hid hX.len
 have HX := Lib.hid hx
 have HY := Lib.hid hy
 have HQ := Lib.hid hq
 have HR := Lib.hid hr
 have HDX := Lib.hid hdx
 have HDY := Lib.hid hdy
 clear hx hy hq hr hdx hdy hcy
 obtain ⟨i0, hi0, hz0, hz1, hz2⟩ := info_parts Try.info5
 have hmk := make_u8 n (by omega) w
 have hB0 := (Below.refl w.heap.size w).alloc (Nat.le_refl _) (.cells (rowB (List.replicate n 0)) 5)
 have hG0 := heap_alloc_last w (.cells (rowB (List.replicate n 0)) 5)
 have hS0 : w.heap.size < (w.alloc (.cells (rowB (List.replicate n 0)) 5)).heap.size := by simp
 go_enter Try.func105, Try.ntmps105
 go_wp2
 generalize hw : w.alloc (.cells (rowB (List.replicate n 0)) 5) = w0 at *
 clear hw hmk
 go_loopw [7, 8] (fun rv iv wr => ∃ t : Nat, ∃ i : Int, ∃ qh : List Int, ∃ Ar nr cr, iv = .int .i64 i ∧ i = (t : Int) - 1 ∧ rv = .slice Ar nr cr ∧ t ≤ n ∧ nr ≤ cr ∧ Qb wr w.heap.size n t qh ∧ Ints wr (w.heap.size + 1) wr.heap.size .u8 Ar nr (canon 2 (num 2 (xs.drop t) % Y)) ∧ Hid (num 2 qh = num 2 (xs.drop t) / Y) ∧ Below w.heap.size w wr ∧ w.heap.size < wr.heap.size) (fun _ iv _ => (intOf iv + 1).toNat)
 case atStart =>
  have hdr : xs.drop n = [] := List.drop_eq_nil_of_le (by have := HL.out; omega)
  refine ⟨n, _, [], none, 0, 0, rfl, rfl, rfl, Nat.le_refl _, Nat.le_refl _, ⟨by rw [List.append_nil]; exact hG0, by simp, fun x hx => absurd hx (by simp)⟩, ?_, Lib.hid ?_, hB0, hS0⟩
  · rw [hdr]
    show Ints _ _ _ _ _ _ (canon 2 (0 % Y))
    rw [Nat.zero_mod]
    exact Ints.nil_ ..
  · rw [hdr]
    show 0 = 0 / Y
    rw [Nat.zero_div]
 case round =>
  clear hB0 hG0 hS0
  obtain ⟨t, i, qh, Ar, nr, cr, rfl, hi, rfl, htn, hrc, hQb, hRr, hHid, hB, hS⟩ := hrel
  rcases t with _ | k
  · have hi1 : i = -1 := by omega
    subst hi1
    have hq2 : num 2 qh = q := by rw [hHid.out, List.drop_zero, HX.out, HQ.out]
    have hr2 : num 2 (xs.drop 0) % Y = r := by rw [List.drop_zero, HX.out, HR.out]
    rw [hr2] at hRr
    have hI := hQb.ints (by omega)
    have hdg := hQb.dig
    have H2 := Lib.hid hq2
    clear hHid hq2 hr2 hQb hi
    go_wp2_with fail
    refine (Cut_any wr _ _ _ n n qh hI hdg (Nat.le_refl _)).mono ?_
    rintro e w' ⟨⟨m', rfl, hm', hC⟩, rfl⟩
    rw [H2.out] at hC
    go_wp2
    go_ret2
    exact ⟨_, m', n, Ar, nr, cr, rfl, by omega, hm', hrc, hB, hC.more (Nat.le_refl _) (by omega), hRr.more (by omega) (Nat.le_refl _)⟩
  · have hi1 : i = (k : Int) := by omega
    subst hi1
    have hkl : k < xs.length := by have := HL.out; omega
    have hYm := hY.below hB hhi'
    obtain ⟨b, off, hA, hb1, hb2, hc⟩ := (hX.below hB hhi).row (by omega)
    subst hA
    obtain ⟨ck1, ck2⟩ := hc k (by omega)
    obtain ⟨x, hx, hx1⟩ := dig_get (by decide) HDX.out k
    rw [hx] at ck1
    obtain ⟨H, hH⟩ : ∃ H, num 2 (xs.drop (k + 1)) = H := ⟨_, rfl⟩
    rw [hH] at hRr hHid
    obtain ⟨R, hR⟩ : ∃ R, H % Y = R := ⟨_, rfl⟩
    rw [hR] at hRr
    have hRY : R < Y := by rw [← hR]; exact Nat.mod_lt _ hY0
    obtain ⟨st1, st2, st3⟩ := into_step hkl hx (by omega) hY0 hH hR hHid.out.symm
    have HS := Lib.hid st1
    have ST2 := Lib.hid st2
    have ST3 := Lib.hid st3
    clear st1 st2 st3 hx hc hH hR hi
    have hnr := hRr.len
    have hnr2 : nr ≤ m := by
     have h1 := canon2_le (Nat.le_of_lt hRY)
     have h2 := hY.len
     omega
    have hX6 : (wr.alloc (.cells #[.int .u8 (x : Int)] 5)).heap[wr.heap.size]? = some (.cells #[.int .u8 (x : Int)] 5 (0, 0)) := heap_alloc_last wr _
    have hB6 : Below wr.heap.size wr (wr.alloc (.cells #[.int .u8 (x : Int)] 5)) := (Below.refl _ _).alloc (Nat.le_refl _) _
    have hR6 := hRr.alloc (Nat.le_refl _) (.cells #[.int .u8 (x : Int)] 5)
    have hS6 : wr.heap.size ≤ (wr.alloc (.cells #[.int .u8 (x : Int)] 5)).heap.size := hB6.size
    clear hnr
    go_wp2_with (first
     | (at_builtin; refine wpList_append_raw _ rfl (.tmp 23) (.tmp 24) 108 rfl wr.heap.size 5 i0 (.int .u8 0) 1 1 Try.underlying108 hi0 hz0 hz1 hz2 rfl (by decide) (.slice (some ⟨wr.heap.size, 0, none⟩) 1 1) 1 [.int .u8 (x : Int)] rfl (own_one hX6) _ _ Ar nr cr _ rfl hR6.raw ?c1 ?c2 ?c3 ?c4 ?_))
    case c1 => exact ints_oneCell _ _
    case c2 => unfold maxLen; omega
    case c3 => omega
    case c4 => exact hS6
    intro A2 c2 w2 hown2 hgrow2 _
    have hb2 : Below wr.heap.size wr w2 := hB6.grown hgrow2 hS6 (fun q hq => by cases hq; exact Nat.le_refl _)
    replace hown2 : w2.ownsRow wr.heap.size 5 1 (.slice A2 (1 + nr) c2) (1 + nr) (((x : Int) :: canon 2 R).map (Value.int .u8)) := hown2
    have hdg : Dig 2 ((x : Int) :: canon 2 R) := fun y hy => by
     rcases List.mem_cons.1 hy with rfl | hy
     · exact ⟨by omega, by omega⟩
     · exact (canon_spec 2 R (by decide)).1 y hy
    have hnv : num 2 ((x : Int) :: canon 2 R) = 2 * R + x := by rw [cons_num (canon_spec 2 R (by decide)).2.2]; omega
    have hc2 := own_cap hown2
    have hI2 := Ints.of_own hown2 (fun y hy => by
     have := hdg y hy
     simp only [IntKind.min, IntKind.max, IntKind.signed, IntKind.bits]
     omega) (by omega)
    have HNV := Lib.hid hnv
    have hQ2 := hQb.on hb2 hS
    have hY2 := hYm.below hb2 (by omega)
    have hB2 := hB.trans (hb2.mono (by omega))
    have l2 := hb2.size
    clear hown2 hgrow2 hb2 hB6 hX6 hR6 hS6 hnv hQb hYm hRr ck1 ck2
    go_wp2_with fail
    refine (Cut_any w2 _ _ A2 (1 + nr) c2 _ hI2 hdg hc2).mono ?_
    rintro e w' ⟨⟨m2, rfl, hm2, hC⟩, rfl⟩
    rw [HNV.out] at hC
    obtain ⟨V, hV⟩ : ∃ V, 2 * R + x = V := ⟨_, rfl⟩
    rw [hV] at hC
    have hcl := hC.len
    have hyl := hY2.len
    have HV := Lib.hid hV
    obtain ⟨ρ, hρ⟩ : ∃ ρ, cmpN V Y = ρ := ⟨_, rfl⟩
    have hge := cmpN_ge (a := V) (b := Y)
    rw [hρ] at hge
    have Hρ : Hid (cmpN (num 2 (canon 2 V)) (num 2 (canon 2 Y)) = ρ) := Lib.hid (by rw [(canon_spec 2 V (by decide)).2.2, (canon_spec 2 Y (by decide)).2.2]; exact hρ)
    have HGE := Lib.hid hge
    have hm3 : Hid (Y ≤ V → m ≤ m2) := Lib.hid fun h => by
     have := canon2_le h
     omega
    clear hV hρ hge hcl hyl hI2 hdg HNV
    go_wp2_with fail
    refine (Order_any w' _ _ _ _ A2 m2 c2 _ hC B m d _ hY2 (canon_spec 2 V (by decide)).1 (canon_spec 2 Y (by decide)).1 (by omega) (by omega) ρ Hρ.out).mono ?_
    rintro e w3 ⟨rfl, rfl⟩
    by_cases hYV : Y ≤ V
    · have hρ0 : 0 ≤ ρ := HGE.out.2 hYV
      have hρb : decide (0 ≤ ρ) = true := decide_eq_true hρ0
      have hmm := hm3.out hYV
      obtain ⟨e1, e2⟩ := ST2.out (by rw [HV.out]; exact hYV)
      have E1 := Lib.hid e1
      have E2 := Lib.hid e2
      clear e1 e2
      go_wp2_with fail
      refine (Minus_any w3 _ _ _ _ A2 m2 c2 _ hC B m d _ hY2 (canon_spec 2 V (by decide)).1 (canon_spec 2 Y (by decide)).1 (Nat.le_refl _) (by omega) (by omega) hmm (by rw [(canon_spec 2 V (by decide)).2.2, (canon_spec 2 Y (by decide)).2.2]; exact hYV) (V - Y) (by rw [(canon_spec 2 V (by decide)).2.2, (canon_spec 2 Y (by decide)).2.2])).mono ?_
      rintro e w4 ⟨A3, n3, c3, rfl, hn3, hb4, hI4⟩
      have hQ4 := hQ2.on hb4 (by omega)
      have hB4 := hB2.trans (hb4.mono (by omega))
      have l4 := hb4.size
      have hcell := hQ4.cell (j := k) (by omega)
      have hfree := hQ4.free k
      have hQ5 := hQ4.set
      have hB5 := hB4.setCell (p := ⟨w.heap.size, k, none⟩) (Nat.le_refl _) (.int .u8 1)
      have hI5 := intsR (w' := w4.setCell ⟨w.heap.size, k, none⟩ (.int .u8 1)) hI4 (fun b h1 h2 => Below.heap_setCell _ _ _ _ (show b ≠ w.heap.size by omega))
      have hS5 : (w4.setCell ⟨w.heap.size, k, none⟩ (.int .u8 1)).heap.size = w4.heap.size := by simp [World.setCell]
      have hS5' : w4.heap.size ≤ (w4.setCell ⟨w.heap.size, k, none⟩ (.int .u8 1)).heap.size := Nat.le_of_eq hS5.symm
      clear hS5 hb4 hQ4 hB4
      go_wp2
      generalize w4.setCell ⟨w.heap.size, k, none⟩ (.int .u8 1) = w5 at *
      go_roundw
      case rel => exact ⟨k, _, 1 :: qh, A3, n3, c3, rfl, rfl, rfl, by omega, hn3, hQ5, by
       rw [HS.out, E1.out, HV.out]
       exact hI5.more (by omega) (by omega), Lib.hid (by
       rw [HS.out, E2.out]
       show 1 + 2 * num 2 qh = _
       omega), hB5, by omega⟩
      case measure => first | (simp [intOf]; done) | (simp [intOf]; omega)
    · have hρ0 : ¬ 0 ≤ ρ := fun h => hYV (HGE.out.1 h)
      have hρb : decide (0 ≤ ρ) = false := decide_eq_false hρ0
      obtain ⟨e1, e2⟩ := ST3.out (by rw [HV.out]; omega)
      have E1 := Lib.hid e1
      have E2 := Lib.hid e2
      have hQ5 := hQ2.next
      clear e1 e2 hQ2
      go_wp2
      go_roundw
      case rel => exact ⟨k, _, 0 :: qh, A2, m2, c2, rfl, rfl, rfl, by omega, by omega, hQ5, by
       rw [HS.out, E1.out, HV.out]
       exact hC.more (by omega) (Nat.le_refl _), Lib.hid (by
       rw [HS.out, E2.out]
       show 0 + 2 * num 2 qh = _
       omega), hB2, by omega⟩
      case measure => first | (simp [intOf]; done) | (simp [intOf]; omega)
end Dy
end Go.Proofs.Ytbbnbgllgomolaa
namespace Go.Proofs.Ytbbnbgllgomolaa
open Go.RowKit
namespace Dy
open Dp
open Ma (Dv Dv.may mayB)
open Classical in
theorem mayB_yes {d : Dv} (h : d.may) : mayB d = true := by
 unfold mayB
 exact decide_eq_true h
open Classical in
theorem mayB_no {d : Dv} (h : ¬ d.may) : mayB d = false := by
 unfold mayB
 exact decide_eq_false h
set_option maxHeartbeats 3200000 in
set_option maxRecDepth 100000 in
/-- headcountref03.asked. -/
theorem rAsk_any (w : World) (s1 s2 : Bool) (A1 A2 : Option Addr) (n1 c1 n2 c2 : Nat) (xs1 xs2 : List Int) (e1 e2 : Int) (h1 : Ints w 0 w.heap.size .u32 A1 n1 xs1) (h2 : Ints w 0 w.heap.size .u32 A2 n2 xs2) (k : Int) (q : Int) (h : askX s1 xs1 e1 s2 xs2 e2 k = q) :
  Calls Try.prog 72 #[.agg #[.bool s1, .slice A1 n1 c1, .int .i64 e1], .agg #[.bool s2, .slice A2 n2 c2, .int .i64 e2], .int .i64 k] w fun e w' => e = .returned (.int .i64 q) ∧ Below w.heap.size w w' := by
 have H := Lib.hid h
 have HL2 := Lib.hid h2.len
 clear h
 generalize hw : (w.alloc (.cells #[.bool s1, .slice A1 n1 c1, .int .i64 e1] 25)).alloc (.cells #[.bool s2, .slice A2 n2 c2, .int .i64 e2] 25) = w1
 obtain ⟨D1, D2, b1, l1, l2⟩ := boxes2R w _ _ hw
 replace h1 := h1.below b1 (Nat.le_refl _)
 replace h2 := h2.below b1 (Nat.le_refl _)
 obtain ⟨⟨p0, p1, p2⟩, p3, p4, p5⟩ := boxD D1
 by_cases m1 : MayD s1 xs1 e1
 · by_cases m2 : MayD s2 xs2 e2
   · have hq : (if s2 = true ∨ xs2 = [] ∨ k < 0 ∨ 64 < k then (2 : Int) else 0) = q := by
       have := H.out
       unfold askX at this
       rwa [if_pos ⟨m1, m2⟩] at this
     have HQ := Lib.hid hq
     have k1 := Lib.hid (mayB_yes (d := ⟨s1, A1, n1, c1, e1, xs1⟩) m1)
     have k2 := Lib.hid (mayB_yes (d := ⟨s2, A2, n2, c2, e2, xs2⟩) m2)
     clear hq m1 m2
     go_enter Try.func72, Try.ntmps72
     go_wp2_with fail
     try clear hw
     refine (Ma.rMay_all w1 ⟨s1, A1, n1, c1, e1, xs1⟩ (h1.more (Nat.le_refl _) (by omega)) true k1.out).mono ?_
     rintro e w2 ⟨rfl, hB⟩
     have ls2 := hB.size
     replace h2 := h2.below hB (by omega)
     replace D2 := (hB.block _ (by omega)).trans D2
     replace b1 := b1.trans (hB.mono (by omega))
     clear hB p0 p1 p2 p3 p4 p5 D1 h1
     obtain ⟨⟨p0, p1, p2⟩, p3, p4, p5⟩ := boxD D2
     go_wp2_with fail
     refine (Ma.rMay_all w2 ⟨s2, A2, n2, c2, e2, xs2⟩ (h2.more (Nat.le_refl _) (by omega)) true k2.out).mono ?_
     rintro e w3 ⟨rfl, hB⟩
     replace D2 := (hB.block _ (by omega)).trans D2
     replace b1 := b1.trans (hB.mono (by omega))
     clear hB p0 p1 p2 p3 p4 p5 h2
     obtain ⟨⟨p0, p1, p2⟩, p3, p4, p5⟩ := boxD D2
     cases s2
     · by_cases hx : n2 = 0
       · have hq2 : q = 2 := by
           rw [← HQ.out, if_pos (.inr (.inl (List.eq_nil_of_length_eq_zero (by rw [HL2.out]; exact hx))))]
         subst hq2
         have hxb : ((n2 : Int) == 0) = true := by simpa using hx
         go_wp2
         go_ret
         exact ⟨rfl, b1⟩
       · have hxb : ((n2 : Int) == 0) = false := by simpa using hx
         have hxs : xs2 ≠ [] := fun e => hx (by rw [← HL2.out, e]; rfl)
         by_cases hk0 : k < 0
         · have hq2 : q = 2 := by rw [← HQ.out, if_pos (.inr (.inr (.inl hk0)))]
           subst hq2
           go_wp2
           go_ret
           exact ⟨rfl, b1⟩
         · by_cases hk1 : 64 < k
           · have hq2 : q = 2 := by rw [← HQ.out, if_pos (.inr (.inr (.inr hk1)))]
             subst hq2
             go_wp2
             go_ret
             exact ⟨rfl, b1⟩
           · have hq2 : q = 0 := by rw [← HQ.out, if_neg (by rintro (h | h | h | h); cases h; exact hxs h; exact hk0 h; exact hk1 h)]
             subst hq2
             go_wp2
             go_ret
             exact ⟨rfl, b1⟩
     · have hq2 : q = 2 := by rw [← HQ.out, if_pos (.inl rfl)]
       subst hq2
       go_wp2
       go_ret
       exact ⟨rfl, b1⟩
   · have hq : 8 = q := by
       have := H.out
       unfold askX at this
       rwa [if_neg (fun h => m2 h.2)] at this
     subst hq
     have k1 := Lib.hid (mayB_yes (d := ⟨s1, A1, n1, c1, e1, xs1⟩) m1)
     have k2 := Lib.hid (mayB_no (d := ⟨s2, A2, n2, c2, e2, xs2⟩) m2)
     clear m1 m2
     go_enter Try.func72, Try.ntmps72
     go_wp2_with fail
     try clear hw
     refine (Ma.rMay_all w1 ⟨s1, A1, n1, c1, e1, xs1⟩ (h1.more (Nat.le_refl _) (by omega)) true k1.out).mono ?_
     rintro e w2 ⟨rfl, hB⟩
     have ls2 := hB.size
     replace h2 := h2.below hB (by omega)
     replace D2 := (hB.block _ (by omega)).trans D2
     replace b1 := b1.trans (hB.mono (by omega))
     clear hB p0 p1 p2 p3 p4 p5 D1 h1
     obtain ⟨⟨p0, p1, p2⟩, p3, p4, p5⟩ := boxD D2
     go_wp2_with fail
     refine (Ma.rMay_all w2 ⟨s2, A2, n2, c2, e2, xs2⟩ (h2.more (Nat.le_refl _) (by omega)) false k2.out).mono ?_
     rintro e w3 ⟨rfl, hB⟩
     replace b1 := b1.trans (hB.mono (by omega))
     clear hB p0 p1 p2 p3 p4 p5 h2
     go_wp2
     go_ret
     exact ⟨rfl, b1⟩
 · have hq : 8 = q := by
     have := H.out
     unfold askX at this
     rwa [if_neg (fun h => m1 h.1)] at this
   subst hq
   have k1 := Lib.hid (mayB_no (d := ⟨s1, A1, n1, c1, e1, xs1⟩) m1)
   clear m1
   go_enter Try.func72, Try.ntmps72
   go_wp2_with fail
   try clear hw
   refine (Ma.rMay_all w1 ⟨s1, A1, n1, c1, e1, xs1⟩ (h1.more (Nat.le_refl _) (by omega)) false k1.out).mono ?_
   rintro e w2 ⟨rfl, hB⟩
   replace b1 := b1.trans (hB.mono (by omega))
   clear hB p0 p1 p2 p3 p4 p5
   go_wp2
   go_ret
   exact ⟨rfl, b1⟩
theorem one_ints {w : World} {g : Nat} (h : w.heap[g]? = some (.cells #[.int .u8 1] 5 (0, 0))) : Ints w g (g + 1) .u8 (some ⟨g, 0, none⟩) 1 [1] :=
 ⟨rfl, fun x hx => by rw [List.mem_singleton.1 hx]; decide, by decide, fun _ => ⟨g, 0, rfl, Nat.le_refl _, Nat.lt_succ_self _, fun j hj => by
  obtain rfl : j = 0 := by omega
  exact ⟨cell_of_row w g 0 _ _ _ h, frozen_of_row w g 0 _ _ h⟩⟩⟩
theorem canon2_len0 {w : World} {lo hi : Nat} {A : Option Addr} {n m : Nat} (h : Ints w lo hi .u8 A n (canon 2 m)) : (m = 0 → n = 0) ∧ (m ≠ 0 → 0 < n) := by
 have hl := h.len
 constructor
 · rintro rfl
   rw [← hl]
   rfl
 · intro h0
   rcases Nat.eq_zero_or_pos n with h1 | h1
   · rw [h1] at hl
     exact absurd (canon_nil (by decide) (List.eq_nil_of_length_eq_zero hl)) h0
   · exact h1
theorem canon2_next {w : World} {lo hi : Nat} {A : Option Addr} {n m : Nat} (h : Ints w lo hi .u8 A n (canon 2 m)) : (canon 2 (m + 1)).length ≤ n + 1 := by
 have h1 := canon_spec 2 m (by decide)
 have h2 := num_lt 2 (by decide) _ h1.1
 rw [h1.2.2, h.len] at h2
 refine canon_len (by decide) ?_
 have : 0 < 2 ^ n := Nat.pow_pos (by decide)
 rw [Nat.pow_succ]
 omega
set_option maxHeartbeats 6400000 in
set_option maxRecDepth 100000 in
/-- headcountref03.Part. -/
theorem rPart_any (w : World) (a b : Dn) (ha : a.May) (hb_ : b.May) (hb0 : b.m ≠ 0) (A1 A2 : Option Addr) (n1 c1 n2 c2 : Nat) (h1 : Ints w 0 w.heap.size .u32 A1 n1 (canon 4294967296 a.m)) (h2 : Ints w 0 w.heap.size .u32 A2 n2 (canon 4294967296 b.m)) (k : Nat) (hk : k ≤ 64) (kk : Int) (hkk : kk = k) (up : Bool) (v : Nat) (hv : (quoN a b k).1 + (if (quoN a b k).2 ≠ 0 ∧ up ≠ a.neg then 1 else 0) = v) :
  Calls Try.prog 74 #[.agg #[.bool a.neg, .slice A1 n1 c1, .int .i64 a.e], .agg #[.bool b.neg, .slice A2 n2 c2, .int .i64 b.e], .int .i64 kk, .bool up] w fun e w' => ∃ A n c, e = .returned (.agg #[.bool a.neg, .slice A n c]) ∧ n ≤ c ∧ n ≤ 3000 ∧ Below w.heap.size w w' ∧ Ints w' w.heap.size w'.heap.size .u8 A n (canon 2 v) := by
 have hn1 := ints_may h1 ha
 have hn2 := ints_may h2 hb_
 have ea : a.e ≤ 1024 := ha.2.1
 have eb : b.e ≤ 1024 := hb_.2.1
 have hsum : IntKind.i64.wrap ((b.e : Int) + kk) = ((b.e + k : Nat) : Int) := by rw [hkk, IntKind.wrap_i64]; omega
 have HS := Lib.hid hsum
 have HV := Lib.hid hv
 have CA := canon_spec 4294967296 a.m (by decide)
 have CB := canon_spec 4294967296 b.m (by decide)
 have hda := Lib.hid CA.1
 have hdb := Lib.hid CB.1
 have hna := Lib.hid CA.2.2
 have hnb := Lib.hid CB.2.2
 have hY0 : 0 < 2 ^ a.e * b.m := Nat.mul_pos (Nat.pow_pos (by decide)) (Nat.pos_of_ne_zero hb0)
 obtain ⟨q, hq⟩ : ∃ q, (quoN a b k).1 = q := ⟨_, rfl⟩
 obtain ⟨r, hr⟩ : ∃ r, (quoN a b k).2 = r := ⟨_, rfl⟩
 have hq2 : 2 ^ (b.e + k) * a.m / (2 ^ a.e * b.m) = q := by
  rw [← hq, Nat.mul_comm _ a.m, Nat.mul_comm _ b.m]
  rfl
 have hr2 : 2 ^ (b.e + k) * a.m % (2 ^ a.e * b.m) = r := by
  rw [← hr, Nat.mul_comm _ a.m, Nat.mul_comm _ b.m]
  rfl
 rw [hq, hr] at hv
 have HQ := Lib.hid hq2
 have HR := Lib.hid hr2
 replace HV := Lib.hid hv
 clear hkk hsum hv CA CB ha hb_ hb0 hq hr hq2 hr2
 generalize hw : ((w.alloc (.cells #[.bool a.neg, .slice A1 n1 c1, .int .i64 a.e] 25)).alloc (.cells #[.bool b.neg, .slice A2 n2 c2, .int .i64 b.e] 25)).alloc (.cells #[.bool false, .slice none 0 0] 110) = w1
 obtain ⟨D1, D2, D3, b1, l1, l2⟩ := boxes3R w _ _ _ hw
 have S1 : w.heap.size < w1.heap.size := by omega
 have S2 : w.heap.size + 1 < w1.heap.size := by omega
 have S3 : w.heap.size + 1 + 1 < w1.heap.size := by omega
 go_enter Try.func74, Try.ntmps74
 go_wp2_with fail
 try clear hw
 try clear hw
 refine region_E (Keeps w1) [] (m := 9) (L := #[zF,zF,zF,zF,zF,zF,zF,zF,zF]) (by kernel_rfl) (by rfl) (by rfl) ?_
 have j2 : Below w1.heap.size w1 w1.drew := (Below.refl _ _).drew
 generalize w1.drew = v1 at *
 refine zE 0 #[zT,zF,zF,zF,zF,zF,zF,zF,zF] ?_ rfl ?hy1 ?rest1
 case hy1 => intro w; go_simp; (try with_reducible rfl)
 try simp only [Act.put, zp]
 refine zE 3 #[zT,zF,zF,zT,zF,zF,zF,zF,zF] ?_ rfl ?hy2 ?rest2
 case hy2 => intro w; go_simp; (try with_reducible rfl)
 try simp only [Act.put, zp]
 refine zE 5 #[zT,zF,zF,zT,zF,zT,zF,zF,zF] ?_ rfl ?hy3 ?rest3
 case hy3 => intro w; go_simp; (try with_reducible rfl)
 try simp only [Act.put, zp]
 have kpy3 : Keeps w1 v1 := fun p hp => Below.block j2 p hp
 refine readE (i := 1) (L := #[zT,zT,zF,zT,zF,zT,zF,zF,zF]) (v := .slice A1 n1 c1) rfl (by rfl) (by kernel_rfl) (by kernel_rfl) (by kernel_rfl) (fun _ _ _ h => h) (by assumption) (by rfl) ?y3 ?z4
 case y3 =>
  intro w' h1
  obtain ⟨⟨p1, p2, p3⟩, p4, p5, p6⟩ := boxD ((h1 _ S1).trans D1)
  go_simp
 try simp only [Act.put, zp]
 have kpy5 : Keeps w1 v1 := fun p hp => Below.block j2 p hp
 refine readE (i := 4) (L := #[zT,zT,zF,zT,zT,zT,zF,zF,zF]) (v := .int .i64 b.e) rfl (by rfl) (by kernel_rfl) (by kernel_rfl) (by kernel_rfl) (fun _ _ _ h => h) (by assumption) (by rfl) ?y5 ?z6
 case y5 =>
  intro w' h1
  obtain ⟨⟨p1, p2, p3⟩, p4, p5, p6⟩ := boxD ((h1 _ S2).trans D2)
  go_simp
 try simp only [Act.put, zp]
 have hsum := HS.out
 refine zE 6 #[zT,zT,zF,zT,zT,zT,zT,zF,zF] ?_ rfl ?hy6 ?rest6
 case hy6 => intro w; go_simp; (try with_reducible rfl)
 try simp only [Act.put, zp]
 clear hsum HS
 refine stepK (i := 2) (L := #[zT,zT,zT,zT,zT,zT,zT,zF,zF]) rfl (by rfl) (by kernel_rfl) (by rfl) (fun K hK => ?_)
 go_simp
 go_at_call 104
 refine (Digits_any v1 0 _ A1 n1 c1 _ (ints_on h1 (later b1 j2)) hda.out (Nat.le_refl _) (by omega) a.m hna.out).mono ?_
 rintro e' v7 ⟨P3, m3, o3, rfl, hc3, hn23, j8, J3⟩
 refine hK _ _ ⟨fun _ _ => fun p hp => Below.block (later j2 j8) p hp, ?_⟩
 clear hK K
 try simp only [Act.put, zp]
 refine stepK (i := 7) (L := #[zT,zT,zT,zT,zT,zT,zT,zT,zF]) rfl (by rfl) (by kernel_rfl) (by rfl) (fun K hK => ?_)
 go_simp
 go_at_call 103
 refine (Times2_any v7 _ _ P3 m3 o3 a.m J3 (Nat.le_refl _) (by omega) (b.e + k) _ rfl (by omega)).mono ?_
 rintro e' v9 ⟨P4, m4, o4, rfl, hc4, hn24, j10, J4⟩
 refine hK _ _ ⟨fun _ _ => fun p hp => Below.block (later j2 (later j8 j10)) p hp, ?_⟩
 clear hK K
 try simp only [Act.put, zp]
 refine zE 8 #[zT,zT,zT,zT,zT,zT,zT,zT,zT] ?_ rfl ?hy9 ?rest9
 case hy9 => intro w; go_simp; (try with_reducible rfl)
 try simp only [Act.put, zp]
 refine doneE (by kernel_rfl) ?_ _
 go_wp2_with fail
 try clear hw
 refine region_E (Keeps v9) [] (m := 7) (L := #[zF,zF,zF,zF,zF,zF,zF]) (by kernel_rfl) (by rfl) (by rfl) ?_
 have j12 : Below v9.heap.size v9 v9.drew := (Below.refl _ _).drew
 generalize v9.drew = v11 at *
 refine zE 0 #[zT,zF,zF,zF,zF,zF,zF] ?_ rfl ?hy10 ?rest10
 case hy10 => intro w; go_simp; (try with_reducible rfl)
 try simp only [Act.put, zp]
 refine zE 3 #[zT,zF,zF,zT,zF,zF,zF] ?_ rfl ?hy11 ?rest11
 case hy11 => intro w; go_simp; (try with_reducible rfl)
 try simp only [Act.put, zp]
 have kpy13 : Keeps v9 v11 := fun p hp => Below.block j12 p hp
 refine readE (i := 1) (L := #[zT,zT,zF,zT,zF,zF,zF]) (v := .slice A2 n2 c2) rfl (by rfl) (by kernel_rfl) (by kernel_rfl) (by kernel_rfl) (fun _ _ _ h => h) (by assumption) (by rfl) ?y13 ?z14
 case y13 =>
  intro w' h1
  obtain ⟨⟨p1, p2, p3⟩, p4, p5, p6⟩ := boxD ((h1 _ (Nat.lt_of_lt_of_le S2 (Below.size (later j2 (later j8 j10))))).trans (box_later D2 (later j2 (later j8 j10)) S2))
  go_simp
 try simp only [Act.put, zp]
 have kpy15 : Keeps v9 v11 := fun p hp => Below.block j12 p hp
 refine readE (i := 4) (L := #[zT,zT,zF,zT,zT,zF,zF]) (v := .int .i64 a.e) rfl (by rfl) (by kernel_rfl) (by kernel_rfl) (by kernel_rfl) (fun _ _ _ h => h) (by assumption) (by rfl) ?y15 ?z16
 case y15 =>
  intro w' h1
  obtain ⟨⟨p1, p2, p3⟩, p4, p5, p6⟩ := boxD ((h1 _ (Nat.lt_of_lt_of_le S1 (Below.size (later j2 (later j8 j10))))).trans (box_later D1 (later j2 (later j8 j10)) S1))
  go_simp
 try simp only [Act.put, zp]
 refine stepK (i := 2) (L := #[zT,zT,zT,zT,zT,zF,zF]) rfl (by rfl) (by kernel_rfl) (by rfl) (fun K hK => ?_)
 go_simp
 go_at_call 104
 refine (Digits_any v11 0 _ A2 n2 c2 _ (ints_on h2 (later b1 (later j2 (later j8 (later j10 j12))))) hdb.out (Nat.le_refl _) (by omega) b.m hnb.out).mono ?_
 rintro e' v17 ⟨P5, m5, o5, rfl, hc5, hn25, j18, J5⟩
 refine hK _ _ ⟨fun _ _ => fun p hp => Below.block (later j12 j18) p hp, ?_⟩
 clear hK K
 try simp only [Act.put, zp]
 refine stepK (i := 5) (L := #[zT,zT,zT,zT,zT,zT,zF]) rfl (by rfl) (by kernel_rfl) (by rfl) (fun K hK => ?_)
 go_simp
 go_at_call 103
 refine (Times2_any v17 _ _ P5 m5 o5 b.m J5 (Nat.le_refl _) (by omega) a.e _ rfl (by omega)).mono ?_
 rintro e' v19 ⟨P6, m6, o6, rfl, hc6, hn26, j20, J6⟩
 refine hK _ _ ⟨fun _ _ => fun p hp => Below.block (later j12 (later j18 j20)) p hp, ?_⟩
 clear hK K
 try simp only [Act.put, zp]
 refine zE 6 #[zT,zT,zT,zT,zT,zT,zT] ?_ rfl ?hy16 ?rest16
 case hy16 => intro w; go_simp; (try with_reducible rfl)
 try simp only [Act.put, zp]
 refine doneE (by kernel_rfl) ?_ _
 go_wp2_with fail
 refine (Into_any v19 _ _ _ _ P4 m4 o4 _ (Ints.below J4 (later j12 (later j18 j20)) (Nat.le_refl _)) P6 m6 o6 _ J6 (Below.size (later j12 (later j18 j20))) (Nat.le_refl _) (by omega) (by omega) hY0 q r HQ.out HR.out).mono ?_
 rintro e' v21 ⟨P7, m7, o7, P8, m8, o8, rfl, hc7, hn7, hc8, j22, J7, J8⟩
 try clear hw
 obtain ⟨r0, r1⟩ := canon2_len0 J8
 have hx7 := canon2_next J7
 have HN7 := Lib.hid hx7
 clear hx7 HQ HR
 by_cases hr0 : r = 0
 · have hm8 : m8 = 0 := r0 hr0
   have hv2 : q = v := by have := HV.out; rw [if_neg (fun h => h.1 hr0)] at this; omega
   subst hv2
   subst hm8
   clear r0 r1
   obtain ⟨⟨q23_0, q23_1, q23_2⟩, q23_3, q23_4, q23_5⟩ := boxD (box_later D1 (later j2 (later j8 (later j10 (later j12 (later j18 (later j20 j22)))))) S1)
   obtain ⟨⟨g0, g1⟩, g2, g3⟩ := boxS (box_later D3 (later j2 (later j8 (later j10 (later j12 (later j18 (later j20 j22)))))) S3)
   go_wp2
   refine bodyPost_ret (v := .agg #[.bool a.neg, .slice P7 m7 o7]) (by simp [results, Try.results74, go_sem, g0, g1]) rfl ⟨P7, m7, o7, rfl, hc7, by omega, ?_, ?_⟩
   · exact (((later b1 (later j2 (later j8 (later j10 (later j12 (later j18 (later j20 j22)))))))).setCell (show w.heap.size ≤ w.heap.size + 1 + 1 by omega) _).setCell (show w.heap.size ≤ w.heap.size + 1 + 1 by omega) _
   · have hlo : w1.heap.size ≤ v19.heap.size := Below.size (later j2 (later j8 (later j10 (later j12 (later j18 j20)))))
     exact ((ints_set (ints_set (J7) (show w.heap.size + 1 + 1 < v19.heap.size by omega) 0 _) (show w.heap.size + 1 + 1 < v19.heap.size by omega) 1 _).more (by omega) (by simp [World.setCell]))
 · have hm8 : 0 < m8 := r1 hr0
   have hmb : decide ((m8 : Int) > 0) = true := decide_eq_true (by omega)
   clear r0 r1
   by_cases hup : up = a.neg
   · have hv2 : q = v := by have := HV.out; rw [if_neg (fun h => h.2 hup)] at this; omega
     have hub2 : (!up == a.neg) = false := by rw [hup]; cases a.neg <;> rfl
     subst hv2
     clear hup
     obtain ⟨⟨q24_0, q24_1, q24_2⟩, q24_3, q24_4, q24_5⟩ := boxD (box_later D1 (later j2 (later j8 (later j10 (later j12 (later j18 (later j20 j22)))))) S1)
     obtain ⟨⟨g0, g1⟩, g2, g3⟩ := boxS (box_later D3 (later j2 (later j8 (later j10 (later j12 (later j18 (later j20 j22)))))) S3)
     go_wp2
     refine bodyPost_ret (v := .agg #[.bool a.neg, .slice P7 m7 o7]) (by simp [results, Try.results74, go_sem, g0, g1]) rfl ⟨P7, m7, o7, rfl, hc7, by omega, ?_, ?_⟩
     · exact (((later b1 (later j2 (later j8 (later j10 (later j12 (later j18 (later j20 j22)))))))).setCell (show w.heap.size ≤ w.heap.size + 1 + 1 by omega) _).setCell (show w.heap.size ≤ w.heap.size + 1 + 1 by omega) _
     · have hlo : w1.heap.size ≤ v19.heap.size := Below.size (later j2 (later j8 (later j10 (later j12 (later j18 j20)))))
       exact ((ints_set (ints_set (J7) (show w.heap.size + 1 + 1 < v19.heap.size by omega) 0 _) (show w.heap.size + 1 + 1 < v19.heap.size by omega) 1 _).more (by omega) (by simp [World.setCell]))
   · have hv2 : q + 1 = v := by have := HV.out; rw [if_pos ⟨hr0, hup⟩] at this; exact this
     have hub2 : (!up == a.neg) = true := by
      revert hup
      cases up <;> cases a.neg <;> decide
     clear hup
     have HV2 := Lib.hid hv2
     clear hv2
     obtain ⟨⟨q25_0, q25_1, q25_2⟩, q25_3, q25_4, q25_5⟩ := boxD (box_later D1 (later j2 (later j8 (later j10 (later j12 (later j18 (later j20 j22)))))) S1)
     have hX6 : (v21.alloc (.cells #[.int .u8 1] 5)).heap[v21.heap.size]? = some (.cells #[.int .u8 1] 5 (0, 0)) := heap_alloc_last v21 _
     have hB6 : Below v21.heap.size v21 (v21.alloc (.cells #[.int .u8 1] 5)) := (Below.refl _ _).alloc (Nat.le_refl _) _
     have hI6 : Ints (v21.alloc (.cells #[.int .u8 1] 5)) v21.heap.size (v21.heap.size + 1) .u8 (some ⟨v21.heap.size, 0, none⟩) 1 [1] := one_ints hX6
     have hS6 : v21.heap.size + 1 ≤ (v21.alloc (.cells #[.int .u8 1] 5)).heap.size := by simp
     go_wp2_with fail
     generalize hw : v21.alloc (.cells #[.int .u8 1] 5) = u6 at *
     clear hw
     clear q25_0 q25_1 q25_2 q25_3 q25_4 q25_5
     refine (Plus_any u6 _ _ _ _ P7 m7 o7 _ (Ints.below J7 hB6 (Nat.le_refl _)) (some ⟨_, 0, none⟩) 1 1 [1] hI6 (canon_spec 2 q (by decide)).1 (by intro x hx; rw [List.mem_singleton.1 hx]; decide) (Below.size hB6) hS6 (by omega) (by omega) v (by rw [(canon_spec 2 q (by decide)).2.2]; exact HV2.out)).mono ?_
     rintro e' u7 ⟨P9, m9, o9, rfl, hc9, k7, J9⟩
     have hn9 : m9 ≤ m7 + 1 := by
      have h1 := J9.len
      have h2 := HN7.out
      rw [HV2.out] at h2
      omega
     obtain ⟨⟨q26_0, q26_1, q26_2⟩, q26_3, q26_4, q26_5⟩ := boxD (box_later D1 (later j2 (later j8 (later j10 (later j12 (later j18 (later j20 (later j22 (later hB6 k7)))))))) S1)
     obtain ⟨⟨g0, g1⟩, g2, g3⟩ := boxS (box_later D3 (later j2 (later j8 (later j10 (later j12 (later j18 (later j20 (later j22 (later hB6 k7)))))))) S3)
     go_wp2
     refine bodyPost_ret (v := .agg #[.bool a.neg, .slice P9 m9 o9]) (by simp [results, Try.results74, go_sem, g0, g1]) rfl ⟨P9, m9, o9, rfl, hc9, by omega, ?_, ?_⟩
     · exact (((later b1 (later j2 (later j8 (later j10 (later j12 (later j18 (later j20 (later j22 (later hB6 k7)))))))))).setCell (show w.heap.size ≤ w.heap.size + 1 + 1 by omega) _).setCell (show w.heap.size ≤ w.heap.size + 1 + 1 by omega) _
     · have hlo : w1.heap.size ≤ u6.heap.size := Below.size (later j2 (later j8 (later j10 (later j12 (later j18 (later j20 (later j22 hB6)))))))
       exact ((ints_set (ints_set (J9) (show w.heap.size + 1 + 1 < u6.heap.size by omega) 0 _) (show w.heap.size + 1 + 1 < u6.heap.size by omega) 1 _).more (by omega) (by simp [World.setCell]))
end Dy
end Go.Proofs.Ytbbnbgllgomolaa