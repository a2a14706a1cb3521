/- The laws of shares: what push.Between tells. No program in sight. -/
/- Shares with known numbers: what is kept, sent, taken, told. No program in sight. -/
/- RegionE: ways that meet: what stands where they meet is said once, and walked once. No program in sight. -/
import Derived.Test.YtbbnbgllgomolaaDoorBt14
import Derived.Test.YtbbnbgllgomolaaDoorBt03
namespace Go.Proofs.YtbbnbgllgomolaaDoor
open Go.RowKit
namespace Ma
open Dp Dy
def liesM (m : Mv) (low high : Int) : Prop := liesD (dnM m 0) (dnM m 1) low high
theorem xs_nil {w : World} {lo hi : Nat} {A : Option Addr} {n : Nat} {xs : List Int} (h : Ints w lo hi .u32 A n xs) : n = 0 ↔ xs = [] := by
 have := h.len
 constructor
 · intro h0
   exact List.length_eq_zero_iff.1 (by omega)
 · intro h0
   rw [h0] at this
   exact this.symm
theorem num_nil0 {s : Bool} {e : Int} : (dn s [] e).m = 0 := rfl
/-- A share whose weight is not 0. -/
theorem share_down {w : World} {lo hi : Nat} {m : Mv} (hR : MRows w lo hi m) (hs : m.share) (hn : m.W.n ≠ 0) (k : Int) (k0 : 0 ≤ k) (k1 : k ≤ 64) :
  downM m k = toD (dnM m 0) (dnM m 1) k.toNat (dnM m 0).neg ∧ upM m k = toD (dnM m 0) (dnM m 1) k.toNat (!(dnM m 0).neg) ∧ (dnM m 1).neg = false ∧ (dnM m 1).m ≠ 0 := by
 have hx : m.W.xs ≠ [] := fun h => hn ((xs_nil hR.W).2 h)
 have m0 : MayD m.S.s m.S.xs m.S.e := hs.1 0 (by decide)
 have m1 : MayD m.W.s m.W.xs m.W.e := hs.1 1 (by decide)
 have ha : askX m.S.s m.S.xs m.S.e m.W.s m.W.xs m.W.e k = 0 := by
  unfold askX
  rw [if_pos ⟨m0, m1⟩, if_neg]
  rintro (h | h | h | h)
  · rw [hs.2.1] at h
    cases h
  · exact hx h
  · omega
  · omega
 refine ⟨?_, ?_, ?_, dn_ne (dig_ints hR.W) m1 hx⟩
 · unfold downM toX
   rw [if_pos ha]
   rfl
 · unfold upM toX
   rw [if_pos ha]
   rfl
 · show (dn m.W.s m.W.xs m.W.e).neg = false
   exact hs.2.1
theorem between_share {w : World} {lo hi : Nat} {m : Mv} (hR : MRows w lo hi m) (hs : m.share) {low high : Int} (hl : -2147483647 ≤ low) (hh : high ≤ 2147483647) (hlh : low ≤ high) :
  ∃ r, betweenM m low high = (r, 0) ∧ (r = true ↔ liesM m low high) := by
 unfold betweenM
 rw [if_neg (by rw [badS_one.2 hs]; simp), if_neg (by omega)]
 by_cases hn : m.W.n = 0
 · rw [if_pos hn]
   refine ⟨true, rfl, fun _ => ?_, fun _ => rfl⟩
   have h1 : m.W.xs = [] := (xs_nil hR.W).1 hn
   have h2 : m.S.xs = [] := (xs_nil hR.S).1 (hs.2.2 hn)
   refine lies_zero ?_ ?_ _ _
   · show (dn m.S.s m.S.xs m.S.e).m = 0
     rw [h2]
     exact num_nil0
   · show (dn m.W.s m.W.xs m.W.e).m = 0
     rw [h1]
     exact num_nil0
 · rw [if_neg hn]
   obtain ⟨d1, d2, d3, d4⟩ := share_down hR hs hn 0 (by decide) (by decide)
   rw [d1, d2]
   have hlaw := between_law d3 d4 hl hh hlh (a := dnM m 0)
   have e0 : (0 : Int).toNat = 0 := rfl
   rw [e0]
   unfold liesM
   rw [← hlaw]
   generalize bothD (toD (dnM m 0) (dnM m 1) 0 (dnM m 0).neg) (toD (dnM m 0) (dnM m 1) 0 (!(dnM m 0).neg)) = X
   by_cases hc : X.2 = 0
   · rw [if_pos hc]
     refine ⟨_, rfl, ?_⟩
     rw [Bool.and_eq_true, decide_eq_true_eq, decide_eq_true_eq]
     exact ⟨fun h => ⟨hc, h⟩, fun h => h.2⟩
   · rw [if_neg hc]
     exact ⟨false, rfl, ⟨fun h => absurd h (by decide), fun h => absurd h.1 hc⟩⟩
end Ma
end Go.Proofs.YtbbnbgllgomolaaDoor
namespace Go.Proofs.YtbbnbgllgomolaaDoor
open Go.RowKit
namespace Ma
open Dp Dy
theorem IsM.dn {R : Nat → Dn} {m : Mv} (h : IsM R m) {x : Nat} (hx : x < 4) : dnM m x = R x := by
 obtain ⟨h1, h2, h3⟩ := h x hx
 unfold dnM
 rw [h1, h2, h3]
 exact dn_of
theorem can_nil {r : Dn} (h : canon 4294967296 r.m = []) : r.m = 0 := by
 have e : (Dy.dn r.neg (canon 4294967296 r.m) r.e).m = r.m := by rw [dn_of]
 rw [h] at e
 exact e.symm
theorem Is.len {w : World} {lo hi : Nat} {r : Dn} {d : Dv} (h : Is r d) (hI : Ints w lo hi .u32 d.A d.n d.xs) : d.n = 0 ↔ r.m = 0 := by
 rw [xs_nil hI, h.2.2]
 exact ⟨can_nil, fun h0 => by rw [h0]; rfl⟩
theorem share_is {w : World} {lo hi : Nat} {m : Mv} {R : Nat → Dn} (hR : MRows w lo hi m) (h : IsM R m) (hr : MayR R) : m.share ↔ ((R 1).neg = false ∧ ((R 1).m = 0 → (R 0).m = 0)) := by
 have l1 : m.W.n = 0 ↔ (R 1).m = 0 := Is.len (h 1 (by decide)) hR.W
 have l0 : m.S.n = 0 ↔ (R 0).m = 0 := Is.len (h 0 (by decide)) hR.S
 have s1 : m.W.s = (R 1).neg := (h 1 (by decide)).1
 unfold Mv.share
 rw [l1, l0, s1]
 exact ⟨fun k => k.2, fun k => ⟨h.may hr, k⟩⟩
theorem give_of {w : World} {lo hi : Nat} {m : Mv} {R : Nat → Dn} {a b : Dn} (hR : MRows w lo hi m) (h : IsM R m) (hr : MayR R) (hn : (R 1).neg = false) (h0 : (R 1).m ≠ 0) (ha : halfD (R 0) = (a, 0)) (hb : halfD (R 1) = (b, 0)) :
  ∃ kR sR, giveM m = ((kR, sR), 0) ∧ (∀ x, x < 4 → kR x = if x = 0 then a else if x = 1 then b else R x) ∧ (∀ x, x < 4 → sR x = if x = 0 then a else if x = 1 then b else Dn.zero) := by
 have hs : m.share := (share_is hR h hr).2 ⟨hn, fun k => absurd k h0⟩
 have l1 : m.W.n ≠ 0 := fun k => h0 ((Is.len (h 1 (by decide)) hR.W).1 k)
 have e0 : halfX m.S.s m.S.xs m.S.e = (a, 0) := ((h 0 (by decide)).half (hr 0 (by decide))).trans ha
 have e1 : halfX m.W.s m.W.xs m.W.e = (b, 0) := ((h 1 (by decide)).half (hr 1 (by decide))).trans hb
 unfold giveM
 rw [if_neg (by rw [badS_one.2 hs]; simp), if_neg l1]
 unfold splitM
 rw [if_pos hs.1, e0, e1, if_pos ⟨rfl, rfl⟩]
 refine ⟨_, _, rfl, fun x hx => ?_, fun x hx => ?_⟩
 · show (if x = 0 then a else if x = 1 then b else dnM m x) = _
   rw [h.dn hx]
 · rfl
theorem take_of {m s : Mv} {R S : Nat → Dn} {a b : Dn} (h : IsM R m) (k : IsM S s) (hr : MayR R) (hs : MayR S) (h1 : m.share) (h2 : s.share) (ha : addD (R 0) (S 0) = (a, 0)) (hb : addD (R 1) (S 1) = (b, 0)) :
  ∃ T, takeM m s = (T, 0) ∧ ∀ x, x < 4 → T x = if x = 0 then a else if x = 1 then b else R x := by
 have e0 : xAdd m s 0 = (a, 0) := (h.add k hr hs (by decide)).trans ha
 have e1 : xAdd m s 1 = (b, 0) := (h.add k hr hs (by decide)).trans hb
 unfold takeM
 rw [if_neg (by rw [badS_two.2 ⟨h1, h2⟩]; simp), e0, e1, if_pos ⟨rfl, rfl⟩]
 refine ⟨_, rfl, fun x hx => ?_⟩
 show (if x = 0 then a else if x = 1 then b else dnM m x) = _
 rw [h.dn hx]
theorem mean_of {w : World} {lo hi : Nat} {m : Mv} {R : Nat → Dn} {x y : Dn} {k : Int} (hR : MRows w lo hi m) (h : IsM R m) (hr : MayR R) (hn : (R 1).neg = false) (h0 : (R 1).m ≠ 0) (k0 : 0 ≤ k) (k1 : k ≤ 64)
  (hx : toD (R 0) (R 1) k.toNat (R 0).neg = (x, 0)) (hy : toD (R 0) (R 1) k.toNat (!(R 0).neg) = (y, 0)) : meanM m k = ((x, y), 0) := by
 have hs : m.share := (share_is hR h hr).2 ⟨hn, fun k => absurd k h0⟩
 have l1 : m.W.n ≠ 0 := fun k => h0 ((Is.len (h 1 (by decide)) hR.W).1 k)
 obtain ⟨d1, d2, _, _⟩ := share_down hR hs l1 k k0 k1
 unfold meanM
 rw [if_neg (by rw [badS_one.2 hs]; simp), if_neg (by omega), if_neg l1, d1, d2, h.dn (by decide), h.dn (by decide), hx, hy]
 unfold bothD
 rw [if_pos rfl, if_pos rfl]
theorem between_of {w : World} {lo hi : Nat} {m : Mv} {R : Nat → Dn} {low high : Int} (hR : MRows w lo hi m) (h : IsM R m) (hs : m.share) (hl : -2147483647 ≤ low) (hh : high ≤ 2147483647) (hlh : low ≤ high) {b : Bool} (hb : b = true ↔ liesD (R 0) (R 1) low high) : betweenM m low high = (b, 0) := by
 obtain ⟨r, h1, h2⟩ := between_share hR hs hl hh hlh
 rw [h1]
 unfold liesM at h2
 rw [h.dn (by decide), h.dn (by decide), ← hb] at h2
 cases r <;> cases b <;> simp_all
/-- A share of S and W alone. -/
def twoR (a b : Dn) (x : Nat) : Dn := if x = 0 then a else if x = 1 then b else Dn.zero
theorem twoR_may {a b : Dn} (ha : a.May) (hb : b.May) : MayR (twoR a b) := four ha hb zero_may zero_may
theorem twoR_is {a b : Dn} {d e : Dv} (hd : Is a d) (he : Is b e) : IsM (twoR a b) ⟨d, e, ZM.C, ZM.A⟩ := four hd he Is.zero Is.zero
theorem sm (m e : Nat) (h0 : m ≠ 0) (h1 : m < 16) (h2 : e ≤ 1024) (h3 : 0 < e → m % 2 = 1) : Dn.May ⟨false, m, e⟩ := may_small _ _ _ h0 h1 h2 h3
theorem pal1 : halfD ⟨false, 6, 0⟩ = (⟨false, 3, 0⟩, 0) := formed_of (K := 1) (sm _ _ (by decide) (by decide) (by decide) (by decide)) (by decide) (by decide) (by decide)
theorem pal2 : halfD ⟨false, 1, 0⟩ = (⟨false, 1, 1⟩, 0) := formed_of (K := 1) (sm _ _ (by decide) (by decide) (by decide) (by decide)) (by decide) (by decide) (by decide)
theorem pal3 : addD ⟨false, 1, 0⟩ ⟨false, 3, 0⟩ = (⟨false, 4, 0⟩, 0) := add_of (K := 1) (sm _ _ (by decide) (by decide) (by decide) (by decide)) (by decide) (by decide) (by decide) (by decide)
theorem pal4 : addD ⟨false, 1, 1⟩ ⟨false, 1, 1⟩ = (⟨false, 1, 0⟩, 0) := add_of (K := 1) (sm _ _ (by decide) (by decide) (by decide) (by decide)) (by decide) (by decide) (by decide) (by decide)
theorem pal5 (b : Bool) : toD ⟨false, 4, 0⟩ ⟨false, 1, 0⟩ 3 b = (⟨false, 4, 0⟩, 0) := by
 cases b <;> exact formed_of (K := 3) (sm _ _ (by decide) (by decide) (by decide) (by decide)) (by decide) (by decide) (by decide)
theorem pal6 : toD ⟨false, 1, 0⟩ ⟨false, 3, 0⟩ 2 false = (⟨false, 1, 2⟩, 0) := formed_of (K := 2) (sm _ _ (by decide) (by decide) (by decide) (by decide)) (by decide) (by decide) (by decide)
theorem pal7 : toD ⟨false, 1, 0⟩ ⟨false, 3, 0⟩ 2 true = (⟨false, 1, 1⟩, 0) := formed_of (K := 2) (sm _ _ (by decide) (by decide) (by decide) (by decide)) (by decide) (by decide) (by decide)
theorem pal8 : liesD ⟨false, 4, 0⟩ ⟨false, 1, 0⟩ 2 6 := ⟨0, by decide, by decide, by decide, by decide⟩
end Ma
end Go.Proofs.YtbbnbgllgomolaaDoor
namespace Go.Proofs.YtbbnbgllgomolaaDoor
open Go.RowKit
section
variable {P : Program} {os : List Oper} {Q : Exit → Act → World → Prop} {md : Region.Mode} {S : World → Prop} {E : List Nat} {B : Act → World → Prop} {Lf : Array Bool} {m : Nat}
/-- A way that may end where B stands and Lf is listed. -/
def wpAnyC (B : Act → World → Prop) (Lf : Array Bool) (m : Nat) (P : Program) (md : Region.Mode) (ops : Array Oper) (Q : Exit → Act → World → Prop) (S : World → Prop) (E : List Nat) (n : Nat) (L : Array Bool) (a : Act) (w : World) : Prop :=
 (∀ a' w', B a' w' → wpAnyE P md ops Q S E m Lf a' w') → wpAnyE P md ops Q S E n L a w
theorem E_of_C {ops : Array Oper} (B : Act → Act → World → Prop) (Lf : Array Bool) (m : Nat) {k : Nat} {L : Array Bool} {a : Act} {w : World} (h : ∀ a' w', B a a' w' → wpAnyE P md ops Q S E m Lf a' w')
  (hg : wpAnyC (B a) Lf m P md ops Q S E k L a w) : wpAnyE P md ops Q S E k L a w := hg h
theorem leafC {ops : Array Oper} {a : Act} {w : World} (h : B a w) : wpAnyC B Lf m P md ops Q S E m Lf a w := fun hl => hl a w h
theorem pureC {i n : Nat} {oi : Oper} {v : Value} {listed L : Array Bool} {a : Act} {w : World} (hi : os[i]? = some oi) (hL : listed.setIfInBounds i true = L)
  (hs : Region.noSelect os.toArray = true) (hf : Region.free md os.toArray listed i = true) (hr : (Region.ready md os.toArray listed).contains i = true)
  (hQ : ∀ c a w, Q (.panic c) (a.put oi.dst v) w → Q (.panic c) a w) (hw : Region.wanted oi (yielded os.toArray a.tmps) = true) (hy : ∀ w, (execOp a.eval oi).run P w = .ok (.value v) w)
  (h : wpAnyC B Lf m P md os.toArray Q S E n L (a.put oi.dst v) w) : wpAnyC B Lf m P md os.toArray Q S E (n + 1) listed a w := fun hl => pureE hi hL hs hf hr hQ hw hy (h hl)
theorem zC (i : Nat) (L : Array Bool) (v : Value) {n : Nat} {oi : Oper} {listed : Array Bool} {a : Act} {w : World} (hi : os[i]? = some oi) (hy : ∀ w, (execOp a.eval oi).run P w = .ok (.value v) w)
  (h : wpAnyC B Lf m P md os.toArray Q S E n L (a.put oi.dst v) w) (hL : listed.setIfInBounds i true = L := by rfl)
  (hs : Region.noSelect os.toArray = true := by kernel_rfl) (hf : Region.free md os.toArray listed i = true := by kernel_rfl) (hr : (Region.ready md os.toArray listed).contains i = true := by kernel_rfl)
  (hQ : ∀ c a w, Q (.panic c) (a.put oi.dst v) w → Q (.panic c) a w := by exact fun _ _ _ h => h) (hw : Region.wanted oi (yielded os.toArray a.tmps) = true := by rfl) : wpAnyC B Lf m P md os.toArray Q S E (n + 1) listed a w := pureC hi hL hs hf hr hQ hw hy h
theorem stepC {i n : Nat} {oi : Oper} {listed L : Array Bool} {a : Act} {w : World} (hi : os[i]? = some oi) (hL : listed.setIfInBounds i true = L)
  (hr : Region.ready md os.toArray listed = [i]) (hw : Region.wanted oi (yielded os.toArray a.tmps) = true)
  (h : ∀ K' : Act → World → Prop, Shut (∀ a w', ((E.contains i = false → S w → S w') ∧ wpAnyC B Lf m P md os.toArray Q S E n L a w') → K' a w') → Oper.wp P oi a w K' Q) :
  wpAnyC B Lf m P md os.toArray Q S E (n + 1) listed a w := fun hl => stepK hi hL hr hw fun K' hK => h K' fun a w' hh => hK a w' ⟨hh.1, hh.2 hl⟩
theorem stepC2 {i j n : Nat} {oi oj : Oper} {listed Li Lj : Array Bool} {a : Act} {w : World} (hi : os[i]? = some oi) (hj : os[j]? = some oj) (hLi : listed.setIfInBounds i true = Li) (hLj : listed.setIfInBounds j true = Lj)
  (hr : Region.ready md os.toArray listed = [i, j]) (hwi : Region.wanted oi (yielded os.toArray a.tmps) = true) (hwj : Region.wanted oj (yielded os.toArray a.tmps) = true)
  (h : ∀ K' : Act → World → Prop, Shut (∀ a w', ((E.contains i = false → S w → S w') ∧ wpAnyC B Lf m P md os.toArray Q S E n Li a w') → K' a w') → Oper.wp P oi a w K' Q)
  (h' : ∀ K' : Act → World → Prop, Shut (∀ a w', ((E.contains j = false → S w → S w') ∧ wpAnyC B Lf m P md os.toArray Q S E n Lj a w') → K' a w') → Oper.wp P oj a w K' Q) :
  wpAnyC B Lf m P md os.toArray Q S E (n + 1) listed a w := fun hl => stepK2 hi hj hLi hLj hr hwi hwj (fun K' hK => h K' fun a w' hh => hK a w' ⟨hh.1, hh.2 hl⟩) (fun K' hK => h' K' fun a w' hh => hK a w' ⟨hh.1, hh.2 hl⟩)
theorem stepC3 {i j k n : Nat} {oi oj ok : Oper} {listed Li Lj Lk : Array Bool} {a : Act} {w : World} (hi : os[i]? = some oi) (hj : os[j]? = some oj) (hk : os[k]? = some ok) (hLi : listed.setIfInBounds i true = Li) (hLj : listed.setIfInBounds j true = Lj) (hLk : listed.setIfInBounds k true = Lk)
  (hr : Region.ready md os.toArray listed = [i, j, k]) (hwi : Region.wanted oi (yielded os.toArray a.tmps) = true) (hwj : Region.wanted oj (yielded os.toArray a.tmps) = true) (hwk : Region.wanted ok (yielded os.toArray a.tmps) = true)
  (h : ∀ K' : Act → World → Prop, Shut (∀ a w', ((E.contains i = false → S w → S w') ∧ wpAnyC B Lf m P md os.toArray Q S E n Li a w') → K' a w') → Oper.wp P oi a w K' Q)
  (h' : ∀ K' : Act → World → Prop, Shut (∀ a w', ((E.contains j = false → S w → S w') ∧ wpAnyC B Lf m P md os.toArray Q S E n Lj a w') → K' a w') → Oper.wp P oj a w K' Q)
  (h'' : ∀ K' : Act → World → Prop, Shut (∀ a w', ((E.contains k = false → S w → S w') ∧ wpAnyC B Lf m P md os.toArray Q S E n Lk a w') → K' a w') → Oper.wp P ok a w K' Q) :
  wpAnyC B Lf m P md os.toArray Q S E (n + 1) listed a w := fun hl => stepK3 hi hj hk hLi hLj hLk hr hwi hwj hwk (fun K' hK => h K' fun a w' hh => hK a w' ⟨hh.1, hh.2 hl⟩) (fun K' hK => h' K' fun a w' hh => hK a w' ⟨hh.1, hh.2 hl⟩) (fun K' hK => h'' K' fun a w' hh => hK a w' ⟨hh.1, hh.2 hl⟩)
end
end Go.Proofs.YtbbnbgllgomolaaDoor