/- What the law PastTells needs besides: sizes, and what stays where others are spoilt. -/
/- The chapter's example: parts of a value, plain laws. -/
/- headcountlaw20.part and alive: walks (printed by a program of mine). -/
/- What was frozen is never changed: the plain law; no program in sight. -/
/- Lists of parts, and lists that are copies of themselves. No function in sight. -/
/- The law PastStays: a walk (printed by a program of mine). -/
/- Parts, and lists of frozen parts, among the arguments. -/
import Derived.Test.YtbbnbgllgomolaaBz12
import Derived.Deep.CutRange
import Derived.Test.YtbbnbgllgomolaaBz11
import Derived.Test.YtbbnbgllgomolaaBz08
import Derived.Test.YtbbnbgllgomolaaBz10
namespace Go.Proofs.Ytbbnbgllgomolaa
open Go.RowKit
namespace Ma
open Dp Dy
/-- Small enough to be spoilt. -/
def SmallP (p : Pv) : Prop := (∀ x, x < 4 → (p.M.get x).n ≤ 1000000) ∧ p.n ≤ 1000000
def SmallF (fs : List Fv) : Prop := ∀ j (h : j < fs.length), (∀ x, x < 4 → (fs[j].P.M.get x).n ≤ 1000000) ∧ fs[j].P.n ≤ 1000000
theorem smallZ : SmallP ZPv := ⟨four (p := fun x => (ZPv.M.get x).n ≤ 1000000) (Nat.zero_le _) (Nat.zero_le _) (Nat.zero_le _) (Nat.zero_le _), Nat.zero_le _⟩
theorem small_frozen {k z : Int} {fs : List Fv} {p : Pv} (h : SmallF fs) (hp : SmallP p) : SmallF (frozenF k fs z p) := fun j hj => by
 unfold frozenF at hj ⊢
 split at hj
 · rename_i hk
   simp only [hk, if_true]
   by_cases e : j < fs.length
   · rw [List.getElem_append_left e]
     exact h j e
   · have e2 : j = fs.length := by simp at hj; omega
     subst e2
     rw [List.getElem_append_right (Nat.le_refl _)]
     simp only [Nat.sub_self, List.getElem_cons_zero]
     exact hp
 · exact absurd hj (by simp)
theorem OwnF.from {w w' : World} {base hi hi' n : Nat} {v : Value} {fs : List Fv} (h : OwnF w base v n fs) (hr : ∀ f ∈ fs, PRows w base hi' f.P) (hh : hi' ≤ w.heap.size) (hF : From hi w w') (hb : hi ≤ base) (hs : w.heap.size ≤ w'.heap.size) : OwnF w' base v n fs :=
 ⟨⟨h.own.1, h.own.2.imp id fun ⟨g, cap, cur, e, h1, hg, rest⟩ => ⟨g, cap, cur, e, h1, (hF g (Nat.le_trans hb h1) (lt_of_heap hg)).trans hg, rest⟩⟩, h.len, fun f hf => ((hr f hf).rng fun b h1 h2 => hF b (Nat.le_trans hb h1) (Nat.lt_of_lt_of_le h2 hh)).more (Nat.zero_le _) (Nat.le_trans hh hs), h.off⟩
end Ma
end Go.Proofs.Ytbbnbgllgomolaa
namespace Go.Proofs.Ytbbnbgllgomolaa
open Go.RowKit
namespace Ma
open Dp Dy
/-- A part of one value. -/
def PartOf (v : Nat) (q : Pv) : Prop := IsM (twoR ⟨false, v, 0⟩ ⟨false, 1, 0⟩) q.M ∧ q.h = true ∧ q.mn = (v : Int) ∧ q.mx = (v : Int) ∧ q.xs = [1, 2] ∧ SmallP q
theorem partOf_may {w : World} {lo hi v : Nat} {q : Pv} (hR : PRows w lo hi q) (h : PartOf v q) (h0 : v ≠ 0) (h1 : v < 16) : mayP q = true := by
 obtain ⟨a, b, c, d, e, _⟩ := h
 have hs : q.M.share := (share_is hR.M a (twoR_may (sm v 0 h0 h1 (by decide) (fun h => absurd h (by decide))) (sm 1 0 (by decide) (by decide) (by decide) (fun h => absurd h (by decide))))).2 ⟨rfl, fun h => absurd h (by simp [twoR])⟩
 have hE : mayE q.h q.mn q.mx = true := by
  rw [b, c, d, mayE_true]
  exact decide_eq_true (by omega)
 have hC : Least.checkCode q.xs = 0 := by rw [e]; rfl
 unfold mayP
 rw [badS_one.2 hs, hE, hC]
 rfl
theorem partOf_same {v : Nat} {q r : Pv} (h : PartOf v q) (k : PartOf v r) : sameP q r = true := by
 obtain ⟨a, b, c, d, e, _⟩ := h
 obtain ⟨a', b', c', d', e', _⟩ := k
 have k : ∀ x, x < 4 → sameV (q.M.get x) (r.M.get x) = true := fun x hx => by
  unfold sameV
  rw [(a x hx).1, (a x hx).2.1, (a x hx).2.2, (a' x hx).1, (a' x hx).2.1, (a' x hx).2.2]
  exact Pa.Dy.same_refl _
 have k0 := k 0 (by decide)
 have k1 := k 1 (by decide)
 have k2 := k 2 (by decide)
 have k3 := k 3 (by decide)
 simp only [Mv.get] at k0 k1 k2 k3
 unfold sameP sameE sameM
 rw [k0, k1, k2, k3, b, c, d, e, b', c', d', e', Pa.Sm_refl]
 simp
theorem partOf_diff {v u : Nat} {q r : Pv} (h : PartOf v q) (k : PartOf u r) (hne : v ≠ u) : sameP q r = false := by
 have e : decide (q.mn = r.mn) = false := decide_eq_false (by rw [h.2.2.1, k.2.2.1]; omega)
 unfold sameP sameE
 rw [e]
 simp
theorem frozenF_zero (fs : List Fv) (z : Int) (p : Pv) : frozenF 0 fs z p = fs ++ [⟨z, p⟩] := if_pos rfl
theorem freezeF_list {n : Nat} {fs gs : List Fv} {z : Int} {p : Pv} (h : TwinF fs gs) : freezeF n gs z p = freezeF n fs z p := by
 unfold freezeF
 rw [askF_twin h, aheadF_twin h]
theorem twinF_snoc {gs hs : List Fv} {a b : Fv} (h : TwinF [a] gs) (k : TwinF (gs ++ [b]) hs) : TwinF [a, b] hs := by
 match gs, h with
 | [g], h =>
  have hl : hs.length = 2 := k.1
  have h0 := h.2 0 (by simp) (by simp)
  simp only [List.getElem_cons_zero] at h0
  refine ⟨hl, fun j h1 h2 => ?_⟩
  have hj : j = 0 ∨ j = 1 := by simp at h1; omega
  rcases hj with rfl | rfl
  · have k0 := k.2 0 (by simp) h2
    exact ⟨k0.1.trans h0.1, twinP_trans h0.2 k0.2⟩
  · exact k.2 1 (by simp) h2
 | [], h => exact absurd h.1 (by simp)
 | _ :: _ :: _, h => exact absurd h.1 (by simp)
section
variable {p q : Pv} (hp : mayP p = true) (hq : mayP q = true)
theorem al_mayF1 : mayF (-1) [⟨2, p⟩] = mayP p := by simp [mayF]
theorem al_mayF2 : mayF (-1) [⟨2, p⟩, ⟨5, q⟩] = (mayP p && mayP q) := by simp [mayF]
include hp in
theorem al_1 : freezeF 0 [] 2 p = 0 := by simp [freezeF, askF, checkF, mayF, aheadF, hp]
include hp in
theorem al_a1 (z : Int) (h0 : 0 ≤ z) (h1 : z ≤ 65535) : askF 1 [⟨2, p⟩] z = 0 := by
 have h : checkF 1 [⟨2, p⟩] = 0 := by simp [checkF, al_mayF1, hp]
 unfold askF
 rw [if_neg (by rw [h]; simp), if_neg (by omega)]
include hp hq in
theorem al_a2 (z : Int) (h0 : 0 ≤ z) (h1 : z ≤ 65535) : askF 2 [⟨2, p⟩, ⟨5, q⟩] z = 0 := by
 have h : checkF 2 [⟨2, p⟩, ⟨5, q⟩] = 0 := by simp [checkF, al_mayF2, hp, hq]
 unfold askF
 rw [if_neg (by rw [h]; simp), if_neg (by omega)]
include hp hq in
theorem al_2 : freezeF 1 [⟨2, p⟩] 5 q = 0 := by
 unfold freezeF
 rw [al_a1 hp 5 (by decide) (by decide)]
 simp [aheadF, hq]
include hp hq in
theorem al_3 {r : Pv} (hr : mayP r = true) : freezeF 2 [⟨2, p⟩, ⟨5, q⟩] 3 r = 12 := by
 unfold freezeF
 rw [al_a2 hp hq 3 (by decide) (by decide)]
 simp [aheadF, hr]
include hp hq in
theorem al_4 : getF 2 [⟨2, p⟩, ⟨5, q⟩] 3 = 6 := by
 unfold getF
 rw [al_a2 hp hq 3 (by decide) (by decide)]
 simp [aheadF]
include hp hq in
theorem al_5 : getF 2 [⟨2, p⟩, ⟨5, q⟩] 5 = 0 := by
 unfold getF
 rw [al_a2 hp hq 5 (by decide) (by decide)]
 simp [aheadF]
theorem al_6 : gotF 0 [⟨2, p⟩, ⟨5, q⟩] 5 = q := by simp [gotF, aheadF]
theorem al_7 : beforeF 0 [⟨2, p⟩, ⟨5, q⟩] 5 = [⟨2, p⟩] := by simp [beforeF, aheadF]
end
end Ma
end Go.Proofs.Ytbbnbgllgomolaa
namespace Go.Proofs.Ytbbnbgllgomolaa
open Go.RowKit
namespace Ma
open Dp Dy
theorem row_two {w : World} {g : Nat} {t : TypeId} (h : w.heap[g]? = some (.cells #[.int .u32 1, .int .u32 2] t (0, 0))) : Ints w g (g + 1) .u32 (some ⟨g, 0, none⟩) 2 [1, 2] := by
 refine ⟨rfl, fun y hy => ?_, by decide, fun _ => ⟨g, 0, rfl, Nat.le_refl _, Nat.lt_succ_self _, fun j hj => ?_⟩⟩
 · have hy' : y = 1 ∨ y = 2 := by simpa using hy
   rcases hy' with rfl | rfl <;> decide
 · have hj' : j = 0 ∨ j = 1 := by omega
   rcases hj' with rfl | rfl
   · exact ⟨cell_of_row w g 0 _ _ _ h, frozen_of_row w g 0 _ _ h⟩
   · exact ⟨cell_of_row w g 1 _ _ _ h, frozen_of_row w g 1 _ _ h⟩
set_option maxHeartbeats 6400000 in
set_option maxRecDepth 100000 in
/-- headcountlaw20.part. -/
theorem part20_any (w : World) (x : Int) (v : Nat) (hx : x = (v : Int)) (hv : v < 1000) :
  Calls Try.prog 85 #[.int .i64 x] w fun e w' => ∃ q : Pv, e = .returned (.agg #[.bool q.M.S.s, .slice q.M.S.A q.M.S.n q.M.S.c, .int .i64 q.M.S.e, .bool q.M.W.s, .slice q.M.W.A q.M.W.n q.M.W.c, .int .i64 q.M.W.e, .bool q.M.C.s, .slice q.M.C.A q.M.C.n q.M.C.c, .int .i64 q.M.C.e, .bool q.M.A.s, .slice q.M.A.A q.M.A.n q.M.A.c, .int .i64 q.M.A.e, .bool q.h, .int .i64 q.mn, .int .i64 q.mx, .slice q.A q.n q.c]) ∧ PartOf v q ∧ Below w.heap.size w w' ∧ PRows w' w.heap.size w'.heap.size q := by
 obtain ⟨w1, hw, bZ, j1, S1⟩ := alloc_zp w
 have lw1 := j1.size
 have HX := Lib.hid hx
 clear hx
 go_enter Try.func85, Try.ntmps85
 go_wp2_with fail
 refine (Of_any w1 x (by have := HX.out; omega) (by have := HX.out; omega) false v (decide_eq_false (by have := HX.out; omega)) (by have := HX.out; omega)).mono ?_
 rintro e' w2 ⟨A1, n1, rfl, j2, I1⟩
 go_wp2_with fail
 refine (Of_any w2 1 (by decide) (by decide) false 1 rfl rfl).mono ?_
 rintro e' w3 ⟨A2, n2, rfl, j3, I2⟩
 have s2 := j2.size
 have s3 := j3.size
 obtain ⟨w4, hw4⟩ : ∃ U, w3.alloc (.cells #[.int .u32 1, .int .u32 2] 70) = U := ⟨_, rfl⟩
 have j4 : Below w3.heap.size w3 w4 := by rw [← hw4]; exact (Below.refl _ _).alloc (Nat.le_refl _) _
 have s4 : w3.heap.size < w4.heap.size := by rw [← hw4]; simp
 have I3 : Ints w4 w3.heap.size (w3.heap.size + 1) .u32 (some ⟨w3.heap.size, 0, none⟩) 2 [1, 2] := by rw [← hw4]; exact row_two (heap_alloc_last _ _)
 have bz : PBox w4 w.heap.size ZPv := (j4.block _ (by omega)).trans ((j3.block _ (by omega)).trans ((j2.block _ S1).trans bZ))
 obtain ⟨U, hU, bU, hb, hf, l5, l6⟩ := part_into bz ⟨⟨⟨false, A1, n1, n1, 0, canon 4294967296 v⟩, ⟨false, A2, n2, n2, 0, canon 4294967296 1⟩, ZM.C, ZM.A⟩, true, x, x, some ⟨w3.heap.size, 0, none⟩, 2, 2, [1, 2]⟩
 have th := bz.there
 replace hU : w4.setCells w.heap.size 0 (#[.bool false, .slice A1 n1 n1, .int .i64 0, .bool false, .slice A2 n2 n2, .int .i64 0, .bool false, .slice none 0 0, .int .i64 0, .bool false, .slice none 0 0, .int .i64 0, .bool true, .int .i64 x, .int .i64 x, .slice (some ⟨w3.heap.size, 0, none⟩) 2 2] : Array Value).toList = U := hU
 have HU := Lib.hid hU
 clear hU
 have fin := hb _ _ (((j1.trans (j2.mono lw1)).trans (j3.mono (by omega))).trans (j4.mono (by omega))) (Nat.le_refl _)
 obtain ⟨Q, hQ⟩ : ∃ q : Pv, q = ⟨⟨⟨false, A1, n1, n1, 0, canon 4294967296 v⟩, ⟨false, A2, n2, n2, 0, canon 4294967296 1⟩, ZM.C, ZM.A⟩, true, x, x, some ⟨w3.heap.size, 0, none⟩, 2, 2, [1, 2]⟩ := ⟨_, rfl⟩
 rw [← hQ] at bU
 have RQ : PRows w4 (w.heap.size + 1) w4.heap.size Q := by
  rw [hQ]
  exact ⟨⟨((I1.below j3 (Nat.le_refl _)).below j4 (by omega)).more (by omega) (by omega), (I2.below j4 (Nat.le_refl _)).more (by omega) (by omega), Ints.nil_ .., Ints.nil_ ..⟩, I3.more (by omega) (by omega)⟩
 have l1 : n1 ≤ 1000000 := by
  have := I1.len
  have := canon_len_le (M := v) (k := 1) (by rw [Nat.pow_one]; omega)
  omega
 have l2 : n2 ≤ 1000000 := by
  have := I2.len
  have := canon_len_le (M := 1) (k := 1) (by decide)
  omega
 have PO : PartOf v Q := by
  rw [hQ]
  exact ⟨twoR_is ⟨rfl, rfl, rfl⟩ ⟨rfl, rfl, rfl⟩, rfl, HX.out, HX.out, rfl, ⟨four (p := fun y => (Mv.get ⟨⟨false, A1, n1, n1, 0, canon 4294967296 v⟩, ⟨false, A2, n2, n2, 0, canon 4294967296 1⟩, ZM.C, ZM.A⟩ y).n ≤ 1000000) l1 l2 (Nat.zero_le _) (Nat.zero_le _), (show 2 ≤ 1000000 by decide)⟩⟩
 have RU := (prows_far RQ (offP_of RQ (.inl (Nat.lt_succ_self _))) hf).more (lo' := w.heap.size) (hi' := U.heap.size) (Nat.le_succ _) l6
 clear I1 I2 I3 hQ RQ bz
 go_wp2_with (first
  | ((refine wpList_store_mid rfl 31 (.tmp 2) (.tmp 11) rfl w.heap.size 0 #[.bool false, .slice A1 n1 n1, .int .i64 0, .bool false, .slice A2 n2 n2, .int .i64 0, .bool false, .slice none 0 0, .int .i64 0, .bool false, .slice none 0 0, .int .i64 0, .bool true, .int .i64 x, .int .i64 x, .slice (some ⟨w3.heap.size, 0, none⟩) 2 2] rfl rfl th (by kernel_rfl) (all_oneCell_toArray (cells16_one ⟨⟨⟨false, A1, n1, n1, 0, canon 4294967296 v⟩, ⟨false, A2, n2, n2, 0, canon 4294967296 1⟩, ZM.C, ZM.A⟩, true, x, x, some ⟨w3.heap.size, 0, none⟩, 2, 2, [1, 2]⟩)) ?_); rw [HU.out]))
 exact bodyPost_ret (results_cell_row Try.results85 _ _ w.heap.size 31 #[.bool Q.M.S.s, .slice Q.M.S.A Q.M.S.n Q.M.S.c, .int .i64 Q.M.S.e, .bool Q.M.W.s, .slice Q.M.W.A Q.M.W.n Q.M.W.c, .int .i64 Q.M.W.e, .bool Q.M.C.s, .slice Q.M.C.A Q.M.C.n Q.M.C.c, .int .i64 Q.M.C.e, .bool Q.M.A.s, .slice Q.M.A.A Q.M.A.n Q.M.A.c, .int .i64 Q.M.A.e, .bool Q.h, .int .i64 Q.mn, .int .i64 Q.mx, .slice Q.A Q.n Q.c] (0, 0) _ rfl bU Try.underlying31 rfl (by kernel_rfl)) rfl ⟨Q, rfl, PO, fin, RU⟩
set_option maxHeartbeats 51200000 in
set_option maxRecDepth 100000 in
/-- headcountlaw20.alive. -/
theorem alive20_any (w : World) : Calls Try.prog 44 #[] w fun e w' => e = .returned (.bool true) ∧ Below w.heap.size w w' := by
 have j0 : Below w.heap.size w w := Below.refl _ _
 have n28 : 1 ≤ 1028 := by decide
 go_enter Try.func44, Try.ntmps44
 go_wp2_with fail
 refine (part20_any w 7 7 rfl (by decide)).mono ?_
 rintro e' v1 ⟨q7, rfl, Pq7, j2, Rq7⟩
 try clear hw
 replace Pq7 := Lib.hid Pq7
 have Mq7 : Hid (mayP q7 = true) := Lib.hid (partOf_may Rq7 Pq7.out (by decide) (by decide))
 have hRq7 := Rq7.more (Nat.zero_le _) (Nat.le_refl _)
 go_wp2_with fail
 refine (Freeze_any v1 none 0 0 [] (LFs.nil_ _ _ _ _) 2 q7 hRq7 (by decide) (fun _ h => absurd h (Nat.not_lt_zero _)) Pq7.out.2.2.2.2.2 0 (al_1 Mq7.out)).mono ?_
 rintro e' v3 ⟨Aa, na, ca, ga, rfl, ta, j4, Oa, ra⟩
 try clear hw
 replace ta : Hid (TwinF [⟨2, q7⟩] ga) := Lib.hid (by rw [frozenF_zero] at ta; exact ta)
 obtain rfl : na = 1 := Oa.len.symm.trans ta.out.1
 have LA := Oa.lfs
 have SA : Hid (SmallF ga) := Lib.hid (twinF_small ta.out (by rw [← List.nil_append [(⟨2, q7⟩ : Fv)], ← frozenF_zero]; exact small_frozen (fun _ h => absurd h (Nat.not_lt_zero _)) Pq7.out.2.2.2.2.2))
 go_wp2_with fail
 refine (part20_any v3 9 9 rfl (by decide)).mono ?_
 rintro e' v5 ⟨q9, rfl, Pq9, j6, Rq9⟩
 try clear hw
 replace Pq9 := Lib.hid Pq9
 have Mq9 : Hid (mayP q9 = true) := Lib.hid (partOf_may Rq9 Pq9.out (by decide) (by decide))
 have hRq9 := Rq9.more (Nat.zero_le _) (Nat.le_refl _)
 go_wp2_with fail
 refine (Freeze_any v5 Aa 1 ca ga (LFs.on LA j6) 5 q9 hRq9 n28 SA.out Pq9.out.2.2.2.2.2 0 ((freezeF_list ta.out).trans (al_2 Mq7.out Mq9.out))).mono ?_
 rintro e' v7 ⟨Ab, nb, cb, gb, rfl, tb, j8, Ob, rb⟩
 try clear hw
 have SB : Hid (SmallF gb) := Lib.hid (twinF_small tb (small_frozen SA.out Pq9.out.2.2.2.2.2))
 replace tb : Hid (TwinF [⟨2, q7⟩, ⟨5, q9⟩] gb) := Lib.hid (by rw [frozenF_zero] at tb; exact twinF_snoc ta.out tb)
 obtain rfl : nb = 2 := Ob.len.symm.trans tb.out.1
 have LB := Ob.lfs
 have hcap : 2 ≤ cb := by
  obtain ⟨A', c', e, h1, _⟩ := Ob.shape
  injection e with _ _ e3
  omega
 go_wp2_with fail
 refine (part20_any v7 8 8 rfl (by decide)).mono ?_
 rintro e' v9 ⟨q8, rfl, Pq8, j10, Rq8⟩
 try clear hw
 replace Pq8 := Lib.hid Pq8
 have Mq8 : Hid (mayP q8 = true) := Lib.hid (partOf_may Rq8 Pq8.out (by decide) (by decide))
 have hRq8 := Rq8.more (Nat.zero_le _) (Nat.le_refl _)
 go_wp2_with fail
 refine (Freeze_any v9 Ab 2 cb gb (LFs.on LB j10) 3 q8 hRq8 (by decide) SB.out Pq8.out.2.2.2.2.2 12 ((freezeF_list tb.out).trans (al_3 Mq7.out Mq9.out Mq8.out))).mono ?_
 rintro e' v11 ⟨Ac, nc, cc, gc, rfl, tc, j12, Oc, rc⟩
 try clear hw
 clear tc Oc rc
 go_wp2_with fail
 refine (Get_any v11 Ab 2 cb gb (LFs.on LB (later j10 j12)) 3 SB.out 6 ((getF_twin tb.out).trans (al_4 Mq7.out Mq9.out))).mono ?_
 rintro e' v13 ⟨qX, rfl, tX, j14, RX⟩
 try clear hw
 replace tX := Lib.hid tX
 obtain ⟨uX, hu_, b4, jX, sX⟩ := alloc_p v13 qX
 go_upto_region 5 with (first
  | (refine wpList_store_new rfl 31 (.tmp 7) (.tmp 33) rfl _ #[.bool qX.M.S.s, .slice qX.M.S.A qX.M.S.n qX.M.S.c, .int .i64 qX.M.S.e, .bool qX.M.W.s, .slice qX.M.W.A qX.M.W.n qX.M.W.c, .int .i64 qX.M.W.e, .bool qX.M.C.s, .slice qX.M.C.A qX.M.C.n qX.M.C.c, .int .i64 qX.M.C.e, .bool qX.M.A.s, .slice qX.M.A.A qX.M.A.n qX.M.A.c, .int .i64 qX.M.A.e, .bool qX.h, .int .i64 qX.mn, .int .i64 qX.mx, .slice qX.A qX.n qX.c] rfl rfl (by kernel_rfl) rfl (all_oneCell_toArray (cells16_one qX)) ?_))
 try rw [hu_]
 try clear hu_
 have hRX : PRows uX 0 uX.heap.size qX := (RX.below jX (Nat.le_refl _)).more (Nat.zero_le _) (Below.size jX)
 go_wp2_with fail
 refine (Get_any uX Ab 2 cb gb (LFs.on LB (later j10 (later j12 (later j14 jX)))) 5 SB.out 0 ((getF_twin tb.out).trans (al_5 Mq7.out Mq9.out))).mono ?_
 rintro e' v15 ⟨qY, rfl, tY, j16, RY⟩
 try clear hw
 replace tY := Lib.hid tY
 obtain ⟨uY, hu_, b5, jY, sY⟩ := alloc_p v15 qY
 go_upto_region 6 with (first
  | (refine wpList_store_new rfl 31 (.tmp 9) (.tmp 38) rfl _ #[.bool qY.M.S.s, .slice qY.M.S.A qY.M.S.n qY.M.S.c, .int .i64 qY.M.S.e, .bool qY.M.W.s, .slice qY.M.W.A qY.M.W.n qY.M.W.c, .int .i64 qY.M.W.e, .bool qY.M.C.s, .slice qY.M.C.A qY.M.C.n qY.M.C.c, .int .i64 qY.M.C.e, .bool qY.M.A.s, .slice qY.M.A.A qY.M.A.n qY.M.A.c, .int .i64 qY.M.A.e, .bool qY.h, .int .i64 qY.mn, .int .i64 qY.mx, .slice qY.A qY.n qY.c] rfl rfl (by kernel_rfl) rfl (all_oneCell_toArray (cells16_one qY)) ?_))
 try rw [hu_]
 try clear hu_
 have hRY : PRows uY 0 uY.heap.size qY := (RY.below jY (Nat.le_refl _)).more (Nat.zero_le _) (Below.size jY)
 have tY2 : Hid (TwinP q9 qY) := Lib.hid (by
  have h := twinP_trans (gotF_twin (k := 0) (z := 5) tb.out) tY.out
  rw [al_6] at h
  exact h)
 go_wp2_with fail
 refine (Before_any uY Ab 2 cb gb (LFs.on LB (later j10 (later j12 (later j14 (later jX (later j16 jY)))))) hcap 5 SB.out 0 ((askF_twin tb.out).trans (al_a2 Mq7.out Mq9.out 5 (by decide) (by decide)))).mono ?_
 rintro e' v17 ⟨Ad, nd, cd, gd, rfl, td, j18, Od, rd⟩
 try clear hw
 replace td : Hid (TwinF [⟨2, q7⟩] gd) := Lib.hid (by
  have h := twinF_trans (beforeF_twin (k := 0) (z := 5) tb.out) td
  rw [al_7] at h
  exact h)
 obtain rfl : nd = 1 := Od.len.symm.trans td.out.1
 have LD := Od.lfs
 obtain ⟨bd, od, hAd, _, lbd, hcd⟩ := LD.row (by decide)
 have hld : 0 < gd.length := by rw [td.out.1]; simp
 have hcd0 := Lib.hid (hcd 0 hld).1
 have hed : gd[0].e = 2 := (td.out.2 0 (by simp) hld).1
 rw [hed, Nat.zero_mul, Nat.add_zero] at hcd0
 have e1 := Lib.hid (sameF_two td.out ta.out)
 clear hcd hed
 subst hAd
 go_upto_region 7 with fail
 try clear hw
 refine region_E (Keeps v17) [] (m := 56) (L := #[zF,zF,zF,zF,zF,zF,zF,zF,zF,zF,zF,zF,zF,zF,zF,zF,zF,zF,zF,zF,zF,zF,zF,zF,zF,zF,zF,zF,zF,zF,zF,zF,zF,zF,zF,zF,zF,zF,zF,zF,zF,zF,zF,zF,zF,zF,zF,zF,zF,zF,zF,zF,zF,zF,zF,zF]) (by kernel_rfl) (by rfl) (by rfl) ?_
 have j20 : Below v17.heap.size v17 v17.drew := (Below.refl _ _).drew
 generalize v17.drew = v19 at *
 refine zE 0 #[zT,zF,zF,zF,zF,zF,zF,zF,zF,zF,zF,zF,zF,zF,zF,zF,zF,zF,zF,zF,zF,zF,zF,zF,zF,zF,zF,zF,zF,zF,zF,zF,zF,zF,zF,zF,zF,zF,zF,zF,zF,zF,zF,zF,zF,zF,zF,zF,zF,zF,zF,zF,zF,zF,zF,zF] ?_ rfl ?hy1 ?rest1
 case hy1 => intro w; go_simp; (try with_reducible rfl)
 try simp only [Act.put, zp]
 refine zE 1 #[zT,zT,zF,zF,zF,zF,zF,zF,zF,zF,zF,zF,zF,zF,zF,zF,zF,zF,zF,zF,zF,zF,zF,zF,zF,zF,zF,zF,zF,zF,zF,zF,zF,zF,zF,zF,zF,zF,zF,zF,zF,zF,zF,zF,zF,zF,zF,zF,zF,zF,zF,zF,zF,zF,zF,zF] ?_ rfl ?hy2 ?rest2
 case hy2 => intro w; go_simp; (try with_reducible rfl)
 try simp only [Act.put, zp]
 refine zE 2 #[zT,zT,zT,zF,zF,zF,zF,zF,zF,zF,zF,zF,zF,zF,zF,zF,zF,zF,zF,zF,zF,zF,zF,zF,zF,zF,zF,zF,zF,zF,zF,zF,zF,zF,zF,zF,zF,zF,zF,zF,zF,zF,zF,zF,zF,zF,zF,zF,zF,zF,zF,zF,zF,zF,zF,zF] ?_ rfl ?hy3 ?rest3
 case hy3 => intro w; go_simp; (try with_reducible rfl)
 try simp only [Act.put, zp]
 refine zE 3 #[zT,zT,zT,zT,zF,zF,zF,zF,zF,zF,zF,zF,zF,zF,zF,zF,zF,zF,zF,zF,zF,zF,zF,zF,zF,zF,zF,zF,zF,zF,zF,zF,zF,zF,zF,zF,zF,zF,zF,zF,zF,zF,zF,zF,zF,zF,zF,zF,zF,zF,zF,zF,zF,zF,zF,zF] ?_ rfl ?hy4 ?rest4
 case hy4 => intro w; go_simp; (try with_reducible rfl)
 try simp only [Act.put, zp]
 refine zE 4 #[zT,zT,zT,zT,zT,zF,zF,zF,zF,zF,zF,zF,zF,zF,zF,zF,zF,zF,zF,zF,zF,zF,zF,zF,zF,zF,zF,zF,zF,zF,zF,zF,zF,zF,zF,zF,zF,zF,zF,zF,zF,zF,zF,zF,zF,zF,zF,zF,zF,zF,zF,zF,zF,zF,zF,zF] ?_ rfl ?hy5 ?rest5
 case hy5 => intro w; go_simp; (try with_reducible rfl)
 try simp only [Act.put, zp]
 refine zE 5 #[zT,zT,zT,zT,zT,zT,zF,zF,zF,zF,zF,zF,zF,zF,zF,zF,zF,zF,zF,zF,zF,zF,zF,zF,zF,zF,zF,zF,zF,zF,zF,zF,zF,zF,zF,zF,zF,zF,zF,zF,zF,zF,zF,zF,zF,zF,zF,zF,zF,zF,zF,zF,zF,zF,zF,zF] ?_ rfl ?hy6 ?rest6
 case hy6 => intro w; go_simp; (try with_reducible rfl)
 try simp only [Act.put, zp]
 refine zE 6 #[zT,zT,zT,zT,zT,zT,zT,zF,zF,zF,zF,zF,zF,zF,zF,zF,zF,zF,zF,zF,zF,zF,zF,zF,zF,zF,zF,zF,zF,zF,zF,zF,zF,zF,zF,zF,zF,zF,zF,zF,zF,zF,zF,zF,zF,zF,zF,zF,zF,zF,zF,zF,zF,zF,zF,zF] ?_ rfl ?hy7 ?rest7
 case hy7 => intro w; go_simp; (try with_reducible rfl)
 try simp only [Act.put, zp]
 refine zE 7 #[zT,zT,zT,zT,zT,zT,zT,zT,zF,zF,zF,zF,zF,zF,zF,zF,zF,zF,zF,zF,zF,zF,zF,zF,zF,zF,zF,zF,zF,zF,zF,zF,zF,zF,zF,zF,zF,zF,zF,zF,zF,zF,zF,zF,zF,zF,zF,zF,zF,zF,zF,zF,zF,zF,zF,zF] ?_ rfl ?hy8 ?rest8
 case hy8 => intro w; go_simp; (try with_reducible rfl)
 try simp only [Act.put, zp]
 refine zE 8 #[zT,zT,zT,zT,zT,zT,zT,zT,zT,zF,zF,zF,zF,zF,zF,zF,zF,zF,zF,zF,zF,zF,zF,zF,zF,zF,zF,zF,zF,zF,zF,zF,zF,zF,zF,zF,zF,zF,zF,zF,zF,zF,zF,zF,zF,zF,zF,zF,zF,zF,zF,zF,zF,zF,zF,zF] ?_ rfl ?hy9 ?rest9
 case hy9 => intro w; go_simp; (try with_reducible rfl)
 try simp only [Act.put, zp]
 refine zE 9 #[zT,zT,zT,zT,zT,zT,zT,zT,zT,zT,zF,zF,zF,zF,zF,zF,zF,zF,zF,zF,zF,zF,zF,zF,zF,zF,zF,zF,zF,zF,zF,zF,zF,zF,zF,zF,zF,zF,zF,zF,zF,zF,zF,zF,zF,zF,zF,zF,zF,zF,zF,zF,zF,zF,zF,zF] ?_ rfl ?hy10 ?rest10
 case hy10 => intro w; go_simp; (try with_reducible rfl)
 try simp only [Act.put, zp]
 refine zE 10 #[zT,zT,zT,zT,zT,zT,zT,zT,zT,zT,zT,zF,zF,zF,zF,zF,zF,zF,zF,zF,zF,zF,zF,zF,zF,zF,zF,zF,zF,zF,zF,zF,zF,zF,zF,zF,zF,zF,zF,zF,zF,zF,zF,zF,zF,zF,zF,zF,zF,zF,zF,zF,zF,zF,zF,zF] ?_ rfl ?hy11 ?rest11
 case hy11 => intro w; go_simp; (try with_reducible rfl)
 try simp only [Act.put, zp]
 refine zE 11 #[zT,zT,zT,zT,zT,zT,zT,zT,zT,zT,zT,zT,zF,zF,zF,zF,zF,zF,zF,zF,zF,zF,zF,zF,zF,zF,zF,zF,zF,zF,zF,zF,zF,zF,zF,zF,zF,zF,zF,zF,zF,zF,zF,zF,zF,zF,zF,zF,zF,zF,zF,zF,zF,zF,zF,zF] ?_ rfl ?hy12 ?rest12
 case hy12 => intro w; go_simp; (try with_reducible rfl)
 try simp only [Act.put, zp]
 refine zE 12 #[zT,zT,zT,zT,zT,zT,zT,zT,zT,zT,zT,zT,zT,zF,zF,zF,zF,zF,zF,zF,zF,zF,zF,zF,zF,zF,zF,zF,zF,zF,zF,zF,zF,zF,zF,zF,zF,zF,zF,zF,zF,zF,zF,zF,zF,zF,zF,zF,zF,zF,zF,zF,zF,zF,zF,zF] ?_ rfl ?hy13 ?rest13
 case hy13 => intro w; go_simp; (try with_reducible rfl)
 try simp only [Act.put, zp]
 refine zE 13 #[zT,zT,zT,zT,zT,zT,zT,zT,zT,zT,zT,zT,zT,zT,zF,zF,zF,zF,zF,zF,zF,zF,zF,zF,zF,zF,zF,zF,zF,zF,zF,zF,zF,zF,zF,zF,zF,zF,zF,zF,zF,zF,zF,zF,zF,zF,zF,zF,zF,zF,zF,zF,zF,zF,zF,zF] ?_ rfl ?hy14 ?rest14
 case hy14 => intro w; go_simp; (try with_reducible rfl)
 try simp only [Act.put, zp]
 refine zE 14 #[zT,zT,zT,zT,zT,zT,zT,zT,zT,zT,zT,zT,zT,zT,zT,zF,zF,zF,zF,zF,zF,zF,zF,zF,zF,zF,zF,zF,zF,zF,zF,zF,zF,zF,zF,zF,zF,zF,zF,zF,zF,zF,zF,zF,zF,zF,zF,zF,zF,zF,zF,zF,zF,zF,zF,zF] ?_ rfl ?hy15 ?rest15
 case hy15 => intro w; go_simp; (try with_reducible rfl)
 try simp only [Act.put, zp]
 refine zE 15 #[zT,zT,zT,zT,zT,zT,zT,zT,zT,zT,zT,zT,zT,zT,zT,zT,zF,zF,zF,zF,zF,zF,zF,zF,zF,zF,zF,zF,zF,zF,zF,zF,zF,zF,zF,zF,zF,zF,zF,zF,zF,zF,zF,zF,zF,zF,zF,zF,zF,zF,zF,zF,zF,zF,zF,zF] ?_ rfl ?hy16 ?rest16
 case hy16 => intro w; go_simp; (try with_reducible rfl)
 try simp only [Act.put, zp]
 refine zE 16 #[zT,zT,zT,zT,zT,zT,zT,zT,zT,zT,zT,zT,zT,zT,zT,zT,zT,zF,zF,zF,zF,zF,zF,zF,zF,zF,zF,zF,zF,zF,zF,zF,zF,zF,zF,zF,zF,zF,zF,zF,zF,zF,zF,zF,zF,zF,zF,zF,zF,zF,zF,zF,zF,zF,zF,zF] ?_ rfl ?hy17 ?rest17
 case hy17 => intro w; go_simp; (try with_reducible rfl)
 try simp only [Act.put, zp]
 refine zE 17 #[zT,zT,zT,zT,zT,zT,zT,zT,zT,zT,zT,zT,zT,zT,zT,zT,zT,zT,zF,zF,zF,zF,zF,zF,zF,zF,zF,zF,zF,zF,zF,zF,zF,zF,zF,zF,zF,zF,zF,zF,zF,zF,zF,zF,zF,zF,zF,zF,zF,zF,zF,zF,zF,zF,zF,zF] ?_ rfl ?hy18 ?rest18
 case hy18 => intro w; go_simp; (try with_reducible rfl)
 try simp only [Act.put, zp]
 refine zE 18 #[zT,zT,zT,zT,zT,zT,zT,zT,zT,zT,zT,zT,zT,zT,zT,zT,zT,zT,zT,zF,zF,zF,zF,zF,zF,zF,zF,zF,zF,zF,zF,zF,zF,zF,zF,zF,zF,zF,zF,zF,zF,zF,zF,zF,zF,zF,zF,zF,zF,zF,zF,zF,zF,zF,zF,zF] ?_ rfl ?hy19 ?rest19
 case hy19 => intro w; go_simp; (try with_reducible rfl)
 try simp only [Act.put, zp]
 have kpy21 : Keeps v17 v19 := fun p hp => Below.block j20 p hp
 refine readE (i := 19) (L := #[zT,zT,zT,zT,zT,zT,zT,zT,zT,zT,zT,zT,zT,zT,zT,zT,zT,zT,zT,zT,zF,zF,zF,zF,zF,zF,zF,zF,zF,zF,zF,zF,zF,zF,zF,zF,zF,zF,zF,zF,zF,zF,zF,zF,zF,zF,zF,zF,zF,zF,zF,zF,zF,zF,zF,zF]) (v := .agg #[.bool qY.M.S.s, .slice qY.M.S.A qY.M.S.n qY.M.S.c, .int .i64 qY.M.S.e, .bool qY.M.W.s, .slice qY.M.W.A qY.M.W.n qY.M.W.c, .int .i64 qY.M.W.e, .bool qY.M.C.s, .slice qY.M.C.A qY.M.C.n qY.M.C.c, .int .i64 qY.M.C.e, .bool qY.M.A.s, .slice qY.M.A.A qY.M.A.n qY.M.A.c, .int .i64 qY.M.A.e, .bool qY.h, .int .i64 qY.mn, .int .i64 qY.mx, .slice qY.A qY.n qY.c]) rfl (by rfl) (by kernel_rfl) (by kernel_rfl) (by kernel_rfl) (fun _ _ _ h => h) (by assumption) (by rfl) ?y21 ?z22
 case y21 =>
  intro w' h1
  exact run_load_op 31 (.tmp 9) rfl (v15.heap.size) 0 rfl (cells16 qY) _ (PBox.range ((h1 _ (Nat.lt_of_lt_of_le sY (Below.size j18))).trans (box_later b5 j18 sY))) Try.underlying31 rfl (by kernel_rfl)
 try simp only [Act.put, zp]
 refine stepK (i := 20) (L := #[zT,zT,zT,zT,zT,zT,zT,zT,zT,zT,zT,zT,zT,zT,zT,zT,zT,zT,zT,zT,zT,zF,zF,zF,zF,zF,zF,zF,zF,zF,zF,zF,zF,zF,zF,zF,zF,zF,zF,zF,zF,zF,zF,zF,zF,zF,zF,zF,zF,zF,zF,zF,zF,zF,zF,zF]) rfl (by rfl) (by kernel_rfl) (by rfl) (fun K hK => ?_)
 go_simp
 go_at_call 85
 refine (part20_any v19 9 9 rfl (by decide)).mono ?_
 rintro e' v23 ⟨r9, rfl, Pr9, j24, Rr9⟩
 replace Pr9 := Lib.hid Pr9
 have hRr9 := Rr9.more (Nat.zero_le _) (Nat.le_refl _)
 have e9 := Lib.hid ((twinP_left (r := r9) tY2.out).trans (partOf_same Pq9.out Pr9.out))
 refine hK _ _ ⟨fun _ _ => fun p hp => Below.block (later j20 j24) p hp, ?_⟩
 clear hK K
 try simp only []
 refine stepK (i := 21) (L := #[zT,zT,zT,zT,zT,zT,zT,zT,zT,zT,zT,zT,zT,zT,zT,zT,zT,zT,zT,zT,zT,zT,zF,zF,zF,zF,zF,zF,zF,zF,zF,zF,zF,zF,zF,zF,zF,zF,zF,zF,zF,zF,zF,zF,zF,zF,zF,zF,zF,zF,zF,zF,zF,zF,zF,zF]) rfl (by rfl) (by kernel_rfl) (by rfl) (fun K hK => ?_)
 go_simp
 go_at_call 21
 refine (SamePart_any v23 qY r9 (PRows.on hRY (later j18 (later j20 j24))) hRr9 true e9.out).mono ?_
 rintro e' v25 ⟨rfl, j26⟩
 refine hK _ _ ⟨fun _ _ => fun p hp => Below.block (later j20 (later j24 j26)) p hp, ?_⟩
 clear hK K
 try simp only []
 refine zE 22 #[zT,zT,zT,zT,zT,zT,zT,zT,zT,zT,zT,zT,zT,zT,zT,zT,zT,zT,zT,zT,zT,zT,zT,zF,zF,zF,zF,zF,zF,zF,zF,zF,zF,zF,zF,zF,zF,zF,zF,zF,zF,zF,zF,zF,zF,zF,zF,zF,zF,zF,zF,zF,zF,zF,zF,zF] ?_ rfl ?hy23 ?rest23
 case hy23 => intro w; go_simp; (try with_reducible rfl)
 try simp only [Act.put, zp]
 refine zE 23 #[zT,zT,zT,zT,zT,zT,zT,zT,zT,zT,zT,zT,zT,zT,zT,zT,zT,zT,zT,zT,zT,zT,zT,zT,zF,zF,zF,zF,zF,zF,zF,zF,zF,zF,zF,zF,zF,zF,zF,zF,zF,zF,zF,zF,zF,zF,zF,zF,zF,zF,zF,zF,zF,zF,zF,zF] ?_ rfl ?hy24 ?rest24
 case hy24 => intro w; go_simp; (try with_reducible rfl)
 try simp only [Act.put, zp]
 have kpy27 : Keeps v17 v25 := fun p hp => Below.block (later j20 (later j24 j26)) p hp
 refine readE (i := 24) (L := #[zT,zT,zT,zT,zT,zT,zT,zT,zT,zT,zT,zT,zT,zT,zT,zT,zT,zT,zT,zT,zT,zT,zT,zT,zT,zF,zF,zF,zF,zF,zF,zF,zF,zF,zF,zF,zF,zF,zF,zF,zF,zF,zF,zF,zF,zF,zF,zF,zF,zF,zF,zF,zF,zF,zF,zF]) (v := .agg #[.bool qY.M.S.s, .slice qY.M.S.A qY.M.S.n qY.M.S.c, .int .i64 qY.M.S.e, .bool qY.M.W.s, .slice qY.M.W.A qY.M.W.n qY.M.W.c, .int .i64 qY.M.W.e, .bool qY.M.C.s, .slice qY.M.C.A qY.M.C.n qY.M.C.c, .int .i64 qY.M.C.e, .bool qY.M.A.s, .slice qY.M.A.A qY.M.A.n qY.M.A.c, .int .i64 qY.M.A.e, .bool qY.h, .int .i64 qY.mn, .int .i64 qY.mx, .slice qY.A qY.n qY.c]) rfl (by rfl) (by kernel_rfl) (by kernel_rfl) (by kernel_rfl) (fun _ _ _ h => h) (by assumption) (by rfl) ?y27 ?z28
 case y27 =>
  intro w' h1
  exact run_load_op 31 (.tmp 9) rfl (v15.heap.size) 0 rfl (cells16 qY) _ (PBox.range ((h1 _ (Nat.lt_of_lt_of_le sY (Below.size j18))).trans (box_later b5 j18 sY))) Try.underlying31 rfl (by kernel_rfl)
 try simp only [Act.put, zp]
 refine stepK (i := 25) (L := #[zT,zT,zT,zT,zT,zT,zT,zT,zT,zT,zT,zT,zT,zT,zT,zT,zT,zT,zT,zT,zT,zT,zT,zT,zT,zT,zF,zF,zF,zF,zF,zF,zF,zF,zF,zF,zF,zF,zF,zF,zF,zF,zF,zF,zF,zF,zF,zF,zF,zF,zF,zF,zF,zF,zF,zF]) rfl (by rfl) (by kernel_rfl) (by rfl) (fun K hK => ?_)
 go_simp
 go_at_call 85
 refine (part20_any v25 7 7 rfl (by decide)).mono ?_
 rintro e' v29 ⟨r7, rfl, Pr7, j30, Rr7⟩
 replace Pr7 := Lib.hid Pr7
 have hRr7 := Rr7.more (Nat.zero_le _) (Nat.le_refl _)
 have e7 := Lib.hid ((twinP_left (r := r7) tY2.out).trans (partOf_diff Pq9.out Pr7.out (by decide)))
 refine hK _ _ ⟨fun _ _ => fun p hp => Below.block (later j20 (later j24 (later j26 j30))) p hp, ?_⟩
 clear hK K
 try simp only []
 refine stepK (i := 26) (L := #[zT,zT,zT,zT,zT,zT,zT,zT,zT,zT,zT,zT,zT,zT,zT,zT,zT,zT,zT,zT,zT,zT,zT,zT,zT,zT,zT,zF,zF,zF,zF,zF,zF,zF,zF,zF,zF,zF,zF,zF,zF,zF,zF,zF,zF,zF,zF,zF,zF,zF,zF,zF,zF,zF,zF,zF]) rfl (by rfl) (by kernel_rfl) (by rfl) (fun K hK => ?_)
 go_simp
 go_at_call 21
 refine (SamePart_any v29 qY r7 (PRows.on hRY (later j18 (later j20 (later j24 (later j26 j30))))) hRr7 false e7.out).mono ?_
 rintro e' v31 ⟨rfl, j32⟩
 refine hK _ _ ⟨fun _ _ => fun p hp => Below.block (later j20 (later j24 (later j26 (later j30 j32)))) p hp, ?_⟩
 clear hK K
 try simp only []
 refine zE 27 #[zT,zT,zT,zT,zT,zT,zT,zT,zT,zT,zT,zT,zT,zT,zT,zT,zT,zT,zT,zT,zT,zT,zT,zT,zT,zT,zT,zT,zF,zF,zF,zF,zF,zF,zF,zF,zF,zF,zF,zF,zF,zF,zF,zF,zF,zF,zF,zF,zF,zF,zF,zF,zF,zF,zF,zF] ?_ rfl ?hy28 ?rest28
 case hy28 => intro w; go_simp; (try with_reducible rfl)
 try simp only [Act.put, zp]
 refine zE 28 #[zT,zT,zT,zT,zT,zT,zT,zT,zT,zT,zT,zT,zT,zT,zT,zT,zT,zT,zT,zT,zT,zT,zT,zT,zT,zT,zT,zT,zT,zF,zF,zF,zF,zF,zF,zF,zF,zF,zF,zF,zF,zF,zF,zF,zF,zF,zF,zF,zF,zF,zF,zF,zF,zF,zF,zF] ?_ rfl ?hy29 ?rest29
 case hy29 => intro w; go_simp; (try with_reducible rfl)
 try simp only [Act.put, zp]
 refine zE 29 #[zT,zT,zT,zT,zT,zT,zT,zT,zT,zT,zT,zT,zT,zT,zT,zT,zT,zT,zT,zT,zT,zT,zT,zT,zT,zT,zT,zT,zT,zT,zF,zF,zF,zF,zF,zF,zF,zF,zF,zF,zF,zF,zF,zF,zF,zF,zF,zF,zF,zF,zF,zF,zF,zF,zF,zF] ?_ rfl ?hy30 ?rest30
 case hy30 => intro w; go_simp; (try with_reducible rfl)
 try simp only [Act.put, zp]
 refine zE 30 #[zT,zT,zT,zT,zT,zT,zT,zT,zT,zT,zT,zT,zT,zT,zT,zT,zT,zT,zT,zT,zT,zT,zT,zT,zT,zT,zT,zT,zT,zT,zT,zF,zF,zF,zF,zF,zF,zF,zF,zF,zF,zF,zF,zF,zF,zF,zF,zF,zF,zF,zF,zF,zF,zF,zF,zF] ?_ rfl ?hy31 ?rest31
 case hy31 => intro w; go_simp; (try with_reducible rfl)
 try simp only [Act.put, zp]
 refine zE 31 #[zT,zT,zT,zT,zT,zT,zT,zT,zT,zT,zT,zT,zT,zT,zT,zT,zT,zT,zT,zT,zT,zT,zT,zT,zT,zT,zT,zT,zT,zT,zT,zT,zF,zF,zF,zF,zF,zF,zF,zF,zF,zF,zF,zF,zF,zF,zF,zF,zF,zF,zF,zF,zF,zF,zF,zF] ?_ rfl ?hy32 ?rest32
 case hy32 => intro w; go_simp; (try with_reducible rfl)
 try simp only [Act.put, zp]
 refine zE 32 #[zT,zT,zT,zT,zT,zT,zT,zT,zT,zT,zT,zT,zT,zT,zT,zT,zT,zT,zT,zT,zT,zT,zT,zT,zT,zT,zT,zT,zT,zT,zT,zT,zT,zF,zF,zF,zF,zF,zF,zF,zF,zF,zF,zF,zF,zF,zF,zF,zF,zF,zF,zF,zF,zF,zF,zF] ?_ rfl ?hy33 ?rest33
 case hy33 => intro w; go_simp; (try with_reducible rfl)
 try simp only [Act.put, zp]
 refine zE 33 #[zT,zT,zT,zT,zT,zT,zT,zT,zT,zT,zT,zT,zT,zT,zT,zT,zT,zT,zT,zT,zT,zT,zT,zT,zT,zT,zT,zT,zT,zT,zT,zT,zT,zT,zF,zF,zF,zF,zF,zF,zF,zF,zF,zF,zF,zF,zF,zF,zF,zF,zF,zF,zF,zF,zF,zF] ?_ rfl ?hy34 ?rest34
 case hy34 => intro w; go_simp; (try with_reducible rfl)
 try simp only [Act.put, zp]
 refine zE 34 #[zT,zT,zT,zT,zT,zT,zT,zT,zT,zT,zT,zT,zT,zT,zT,zT,zT,zT,zT,zT,zT,zT,zT,zT,zT,zT,zT,zT,zT,zT,zT,zT,zT,zT,zT,zF,zF,zF,zF,zF,zF,zF,zF,zF,zF,zF,zF,zF,zF,zF,zF,zF,zF,zF,zF,zF] ?_ rfl ?hy35 ?rest35
 case hy35 => intro w; go_simp; (try with_reducible rfl)
 try simp only [Act.put, zp]
 refine zE 35 #[zT,zT,zT,zT,zT,zT,zT,zT,zT,zT,zT,zT,zT,zT,zT,zT,zT,zT,zT,zT,zT,zT,zT,zT,zT,zT,zT,zT,zT,zT,zT,zT,zT,zT,zT,zT,zF,zF,zF,zF,zF,zF,zF,zF,zF,zF,zF,zF,zF,zF,zF,zF,zF,zF,zF,zF] ?_ rfl ?hy36 ?rest36
 case hy36 => intro w; go_simp; (try with_reducible rfl)
 try simp only [Act.put, zp]
 refine zE 36 #[zT,zT,zT,zT,zT,zT,zT,zT,zT,zT,zT,zT,zT,zT,zT,zT,zT,zT,zT,zT,zT,zT,zT,zT,zT,zT,zT,zT,zT,zT,zT,zT,zT,zT,zT,zT,zT,zF,zF,zF,zF,zF,zF,zF,zF,zF,zF,zF,zF,zF,zF,zF,zF,zF,zF,zF] ?_ rfl ?hy37 ?rest37
 case hy37 => intro w; go_simp; (try with_reducible rfl)
 try simp only [Act.put, zp]
 refine zE 37 #[zT,zT,zT,zT,zT,zT,zT,zT,zT,zT,zT,zT,zT,zT,zT,zT,zT,zT,zT,zT,zT,zT,zT,zT,zT,zT,zT,zT,zT,zT,zT,zT,zT,zT,zT,zT,zT,zT,zF,zF,zF,zF,zF,zF,zF,zF,zF,zF,zF,zF,zF,zF,zF,zF,zF,zF] ?_ rfl ?hy38 ?rest38
 case hy38 => intro w; go_simp; (try with_reducible rfl)
 try simp only [Act.put, zp]
 refine zE 38 #[zT,zT,zT,zT,zT,zT,zT,zT,zT,zT,zT,zT,zT,zT,zT,zT,zT,zT,zT,zT,zT,zT,zT,zT,zT,zT,zT,zT,zT,zT,zT,zT,zT,zT,zT,zT,zT,zT,zT,zF,zF,zF,zF,zF,zF,zF,zF,zF,zF,zF,zF,zF,zF,zF,zF,zF] ?_ rfl ?hy39 ?rest39
 case hy39 => intro w; go_simp; (try with_reducible rfl)
 try simp only [Act.put, zp]
 refine zE 39 #[zT,zT,zT,zT,zT,zT,zT,zT,zT,zT,zT,zT,zT,zT,zT,zT,zT,zT,zT,zT,zT,zT,zT,zT,zT,zT,zT,zT,zT,zT,zT,zT,zT,zT,zT,zT,zT,zT,zT,zT,zF,zF,zF,zF,zF,zF,zF,zF,zF,zF,zF,zF,zF,zF,zF,zF] ?_ rfl ?hy40 ?rest40
 case hy40 => intro w; go_simp; (try with_reducible rfl)
 try simp only [Act.put, zp]
 refine zE 40 #[zT,zT,zT,zT,zT,zT,zT,zT,zT,zT,zT,zT,zT,zT,zT,zT,zT,zT,zT,zT,zT,zT,zT,zT,zT,zT,zT,zT,zT,zT,zT,zT,zT,zT,zT,zT,zT,zT,zT,zT,zT,zF,zF,zF,zF,zF,zF,zF,zF,zF,zF,zF,zF,zF,zF,zF] ?_ rfl ?hy41 ?rest41
 case hy41 => intro w; go_simp; (try with_reducible rfl)
 try simp only [Act.put, zp]
 refine zE 41 #[zT,zT,zT,zT,zT,zT,zT,zT,zT,zT,zT,zT,zT,zT,zT,zT,zT,zT,zT,zT,zT,zT,zT,zT,zT,zT,zT,zT,zT,zT,zT,zT,zT,zT,zT,zT,zT,zT,zT,zT,zT,zT,zF,zF,zF,zF,zF,zF,zF,zF,zF,zF,zF,zF,zF,zF] ?_ rfl ?hy42 ?rest42
 case hy42 => intro w; go_simp; (try with_reducible rfl)
 try simp only [Act.put, zp]
 have kpd_ : Keeps v17 v31 := fun p hp => Below.block (later j20 (later j24 (later j26 (later j30 j32)))) p hp
 refine readE (i := 42) (L := #[zT,zT,zT,zT,zT,zT,zT,zT,zT,zT,zT,zT,zT,zT,zT,zT,zT,zT,zT,zT,zT,zT,zT,zT,zT,zT,zT,zT,zT,zT,zT,zT,zT,zT,zT,zT,zT,zT,zT,zT,zT,zT,zT,zF,zF,zF,zF,zF,zF,zF,zF,zF,zF,zF,zF,zF]) (v := .int .i64 2) rfl (by rfl) (by kernel_rfl) (by kernel_rfl) (by kernel_rfl) (fun _ _ _ h => h) (by assumption) (by rfl) ?yd_ ?zd_
 case yd_ =>
  intro w' h1
  have k_ := (World.cell?_of_block (h1 _ lbd)).trans hcd0.out
  go_simp
 try simp only [Act.put, zp]
 refine zE 43 #[zT,zT,zT,zT,zT,zT,zT,zT,zT,zT,zT,zT,zT,zT,zT,zT,zT,zT,zT,zT,zT,zT,zT,zT,zT,zT,zT,zT,zT,zT,zT,zT,zT,zT,zT,zT,zT,zT,zT,zT,zT,zT,zT,zT,zF,zF,zF,zF,zF,zF,zF,zF,zF,zF,zF,zF] ?_ rfl ?hy44 ?rest44
 case hy44 => intro w; go_simp; (try with_reducible rfl)
 try simp only [Act.put, zp]
 refine zE 44 #[zT,zT,zT,zT,zT,zT,zT,zT,zT,zT,zT,zT,zT,zT,zT,zT,zT,zT,zT,zT,zT,zT,zT,zT,zT,zT,zT,zT,zT,zT,zT,zT,zT,zT,zT,zT,zT,zT,zT,zT,zT,zT,zT,zT,zT,zF,zF,zF,zF,zF,zF,zF,zF,zF,zF,zF] ?_ rfl ?hy45 ?rest45
 case hy45 => intro w; go_simp; (try with_reducible rfl)
 try simp only [Act.put, zp]
 refine zE 45 #[zT,zT,zT,zT,zT,zT,zT,zT,zT,zT,zT,zT,zT,zT,zT,zT,zT,zT,zT,zT,zT,zT,zT,zT,zT,zT,zT,zT,zT,zT,zT,zT,zT,zT,zT,zT,zT,zT,zT,zT,zT,zT,zT,zT,zT,zT,zF,zF,zF,zF,zF,zF,zF,zF,zF,zF] ?_ rfl ?hy46 ?rest46
 case hy46 => intro w; go_simp; (try with_reducible rfl)
 try simp only [Act.put, zp]
 refine zE 46 #[zT,zT,zT,zT,zT,zT,zT,zT,zT,zT,zT,zT,zT,zT,zT,zT,zT,zT,zT,zT,zT,zT,zT,zT,zT,zT,zT,zT,zT,zT,zT,zT,zT,zT,zT,zT,zT,zT,zT,zT,zT,zT,zT,zT,zT,zT,zT,zF,zF,zF,zF,zF,zF,zF,zF,zF] ?_ rfl ?hy47 ?rest47
 case hy47 => intro w; go_simp; (try with_reducible rfl)
 try simp only [Act.put, zp]
 refine zE 47 #[zT,zT,zT,zT,zT,zT,zT,zT,zT,zT,zT,zT,zT,zT,zT,zT,zT,zT,zT,zT,zT,zT,zT,zT,zT,zT,zT,zT,zT,zT,zT,zT,zT,zT,zT,zT,zT,zT,zT,zT,zT,zT,zT,zT,zT,zT,zT,zT,zF,zF,zF,zF,zF,zF,zF,zF] ?_ rfl ?hy48 ?rest48
 case hy48 => intro w; go_simp; (try with_reducible rfl)
 try simp only [Act.put, zp]
 refine stepK (i := 48) (L := #[zT,zT,zT,zT,zT,zT,zT,zT,zT,zT,zT,zT,zT,zT,zT,zT,zT,zT,zT,zT,zT,zT,zT,zT,zT,zT,zT,zT,zT,zT,zT,zT,zT,zT,zT,zT,zT,zT,zT,zT,zT,zT,zT,zT,zT,zT,zT,zT,zT,zF,zF,zF,zF,zF,zF,zF]) rfl (by rfl) (by kernel_rfl) (by rfl) (fun K hK => ?_)
 go_simp
 go_at_call 20
 refine (SameF_any v31 _ Aa 1 cd 1 ca gd ga (LFs.on LD (later j20 (later j24 (later j26 (later j30 j32))))) (LFs.on LA (later j6 (later j8 (later j10 (later j12 (later j14 (later jX (later j16 (later jY (later j18 (later j20 (later j24 (later j26 (later j30 j32)))))))))))))) true e1.out).mono ?_
 rintro e' v33 ⟨rfl, j34⟩
 refine hK _ _ ⟨fun _ _ => fun p hp => Below.block (later j20 (later j24 (later j26 (later j30 (later j32 j34))))) p hp, ?_⟩
 clear hK K
 try simp only []
 refine zE 49 #[zT,zT,zT,zT,zT,zT,zT,zT,zT,zT,zT,zT,zT,zT,zT,zT,zT,zT,zT,zT,zT,zT,zT,zT,zT,zT,zT,zT,zT,zT,zT,zT,zT,zT,zT,zT,zT,zT,zT,zT,zT,zT,zT,zT,zT,zT,zT,zT,zT,zT,zF,zF,zF,zF,zF,zF] ?_ rfl ?hy50 ?rest50
 case hy50 => intro w; go_simp; (try with_reducible rfl)
 try simp only [Act.put, zp]
 refine zE 50 #[zT,zT,zT,zT,zT,zT,zT,zT,zT,zT,zT,zT,zT,zT,zT,zT,zT,zT,zT,zT,zT,zT,zT,zT,zT,zT,zT,zT,zT,zT,zT,zT,zT,zT,zT,zT,zT,zT,zT,zT,zT,zT,zT,zT,zT,zT,zT,zT,zT,zT,zT,zF,zF,zF,zF,zF] ?_ rfl ?hy51 ?rest51
 case hy51 => intro w; go_simp; (try with_reducible rfl)
 try simp only [Act.put, zp]
 refine zE 51 #[zT,zT,zT,zT,zT,zT,zT,zT,zT,zT,zT,zT,zT,zT,zT,zT,zT,zT,zT,zT,zT,zT,zT,zT,zT,zT,zT,zT,zT,zT,zT,zT,zT,zT,zT,zT,zT,zT,zT,zT,zT,zT,zT,zT,zT,zT,zT,zT,zT,zT,zT,zT,zF,zF,zF,zF] ?_ rfl ?hy52 ?rest52
 case hy52 => intro w; go_simp; (try with_reducible rfl)
 try simp only [Act.put, zp]
 refine zE 52 #[zT,zT,zT,zT,zT,zT,zT,zT,zT,zT,zT,zT,zT,zT,zT,zT,zT,zT,zT,zT,zT,zT,zT,zT,zT,zT,zT,zT,zT,zT,zT,zT,zT,zT,zT,zT,zT,zT,zT,zT,zT,zT,zT,zT,zT,zT,zT,zT,zT,zT,zT,zT,zT,zF,zF,zF] ?_ rfl ?hy53 ?rest53
 case hy53 => intro w; go_simp; (try with_reducible rfl)
 try simp only [Act.put, zp]
 refine zE 53 #[zT,zT,zT,zT,zT,zT,zT,zT,zT,zT,zT,zT,zT,zT,zT,zT,zT,zT,zT,zT,zT,zT,zT,zT,zT,zT,zT,zT,zT,zT,zT,zT,zT,zT,zT,zT,zT,zT,zT,zT,zT,zT,zT,zT,zT,zT,zT,zT,zT,zT,zT,zT,zT,zT,zF,zF] ?_ rfl ?hy54 ?rest54
 case hy54 => intro w; go_simp; (try with_reducible rfl)
 try simp only [Act.put, zp]
 refine zE 54 #[zT,zT,zT,zT,zT,zT,zT,zT,zT,zT,zT,zT,zT,zT,zT,zT,zT,zT,zT,zT,zT,zT,zT,zT,zT,zT,zT,zT,zT,zT,zT,zT,zT,zT,zT,zT,zT,zT,zT,zT,zT,zT,zT,zT,zT,zT,zT,zT,zT,zT,zT,zT,zT,zT,zT,zF] ?_ rfl ?hy55 ?rest55
 case hy55 => intro w; go_simp; (try with_reducible rfl)
 try simp only [Act.put, zp]
 refine zE 55 #[zT,zT,zT,zT,zT,zT,zT,zT,zT,zT,zT,zT,zT,zT,zT,zT,zT,zT,zT,zT,zT,zT,zT,zT,zT,zT,zT,zT,zT,zT,zT,zT,zT,zT,zT,zT,zT,zT,zT,zT,zT,zT,zT,zT,zT,zT,zT,zT,zT,zT,zT,zT,zT,zT,zT,zT] ?_ rfl ?hy56 ?rest56
 case hy56 => intro w; go_simp; (try with_reducible rfl)
 try simp only [Act.put, zp]
 refine doneE (by kernel_rfl) ?_ _
 go_wp2
 go_ret
 exact ⟨rfl, (later j2 (later j4 (later j6 (later j8 (later j10 (later j12 (later j14 (later jX (later j16 (later jY (later j18 (later j20 (later j24 (later j26 (later j30 (later j32 j34))))))))))))))))⟩
end Ma
end Go.Proofs.Ytbbnbgllgomolaa
namespace Go.Proofs.Ytbbnbgllgomolaa
open Go.RowKit
namespace Ma
open Dp Dy
theorem mayF_snoc : ∀ {os : List Fv} {a z : Int} {p : Pv}, mayF a os = true → a < z → (∀ j (h : j < os.length), os[j].e < z) → z ≤ 65535 → mayP p = true → mayF a (os ++ [⟨z, p⟩]) = true
 | [], a, z, p, _, h1, _, h3, h4 => by simp [mayF, h1, h3, h4]
 | f :: l, a, z, p, hm, h1, h2, h3, h4 => by
  simp only [mayF, Bool.and_eq_true, decide_eq_true_eq] at hm
  obtain ⟨⟨k1, k2⟩, k3, k4⟩ := hm
  have hf : f.e < z := h2 0 (by simp)
  have ih := mayF_snoc (p := p) k4 hf (fun j h => h2 (j + 1) (by simpa using h)) h3 h4
  show (decide (a < f.e ∧ f.e ≤ 65535) && (mayP f.P && mayF f.e (l ++ [⟨z, p⟩]))) = true
  rw [ih, k3, decide_eq_true ⟨k1, k2⟩]
  rfl
theorem mayF_take : ∀ {os : List Fv} {a : Int}, mayF a os = true → ∀ i, mayF a (os.take i) = true
 | [], _, _, i => by simp [mayF]
 | f :: l, a, hm, 0 => rfl
 | f :: l, a, hm, i + 1 => by
  simp only [mayF, Bool.and_eq_true, decide_eq_true_eq] at hm
  obtain ⟨⟨k1, k2⟩, k3, k4⟩ := hm
  have ih := mayF_take k4 i
  show (decide (a < f.e ∧ f.e ≤ 65535) && (mayP f.P && mayF f.e (l.take i))) = true
  rw [ih, k3, decide_eq_true ⟨k1, k2⟩]
  rfl
/-- Frozen parts that were there, and what has been frozen behind them. -/
structure Stay (n0 : Nat) (fs : List Fv) (n : Nat) (os : List Fv) : Prop where
 len : os.length = n
 len0 : fs.length = n0
 le : n0 ≤ n
 twin : TwinF fs (os.take n0)
 may : n = n0 ∨ (mayF (-1) os = true ∧ n ≤ 1024)
theorem Stay.begin {n0 : Nat} {fs : List Fv} (h : fs.length = n0) (t : TwinF fs fs) : Stay n0 fs n0 fs := ⟨h, h, Nat.le_refl _, by rw [List.take_of_length_le (Nat.le_of_eq h)]; exact t, .inl rfl⟩
/-- What a freezing says of the list behind it. -/
theorem froze {n : Nat} {os gs : List Fv} {z : Int} {p : Pv} (hl : os.length = n) (h : freezeF n os z p = 0) (t : TwinF (frozenF 0 os z p) gs) :
  TwinF (os ++ [⟨z, p⟩]) gs ∧ gs.length = n + 1 ∧ mayF (-1) gs = true ∧ n + 1 ≤ 1024 ∧ checkF (n + 1) gs = 0 ∧ getF (n + 1) gs z = 0 ∧ TwinP p (gotF 0 gs z) := by
 rw [frozenF_zero] at t
 unfold freezeF at h
 split at h
 · exact absurd h (by assumption)
 · rename_i ha
   have ha' : askF n os z = 0 := Classical.byContradiction fun e => ha e
   obtain ⟨q1, q2, q3, q4⟩ := askF_zero ha'
   split at h
   · omega
   · rename_i hp
     have hp' : mayP p = true := by simpa using hp
     split at h
     · omega
     · rename_i hn
       split at h
       · omega
       · rename_i hn2
         have hal : aheadF os z = n := by
          have := aheadF_le os z
          omega
         have hall : ∀ j (h : j < os.length), os[j].e < z := fun j hj => aheadF_lt j hj (by omega)
         have hm : mayF (-1) (os ++ [⟨z, p⟩]) = true := mayF_snoc q2 (by omega) hall q4 hp'
         have hgl : gs.length = n + 1 := by rw [t.1]; simp [hl]
         have hmg : mayF (-1) gs = true := by rw [mayF_twin t]; exact hm
         have hc : checkF (n + 1) gs = 0 := by
          unfold checkF
          rw [if_neg (by omega), if_pos hmg]
         have hask : askF (n + 1) gs z = 0 := by
          unfold askF
          rw [if_neg (by rw [hc]; simp), if_neg (by omega)]
         have hah : aheadF gs z = n := by
          rw [aheadF_twin t]
          refine aheadF_is hm n (by simp [hl]) (fun j hj h2 => ?_) (fun j hj h2 => ?_)
          · rw [List.getElem_append_left (by omega)]
            exact hall j (by omega)
          · have : j = n := by simp at hj; omega
            subst this
            rw [List.getElem_append_right (by omega)]
            simp [hl]
         have hng : n < gs.length := by omega
         have hna : n < (os ++ [(⟨z, p⟩ : Fv)]).length := by simp [hl]
         have tn := t.2 n hna hng
         rw [List.getElem_append_right (by omega)] at tn
         simp only [hl, Nat.sub_self, List.getElem_cons_zero] at tn
         refine ⟨t, hgl, hmg, by omega, hc, ?_, ?_⟩
         · unfold getF
           rw [if_neg (by rw [hask]; simp), hah, List.getElem?_eq_getElem hng]
           simp only
           rw [if_pos tn.1]
         · unfold gotF
           rw [if_pos rfl, hah, List.getElem?_eq_getElem hng]
           exact tn.2
theorem Stay.push {n0 n : Nat} {fs os gs : List Fv} {z : Int} {p : Pv} (h : Stay n0 fs n os) (hz : freezeF n os z p = 0) (t : TwinF (frozenF 0 os z p) gs) : Stay n0 fs (n + 1) gs := by
 obtain ⟨k1, k2, k3, k4, _⟩ := froze h.len hz t
 refine ⟨k2, h.len0, Nat.le_succ_of_le h.le, ?_, .inr ⟨k3, k4⟩⟩
 have e : (os ++ [(⟨z, p⟩ : Fv)]).take n0 = os.take n0 := List.take_append_of_le_length (by rw [h.len]; exact h.le)
 have t2 := twinF_take k1 n0
 rw [e] at t2
 exact twinF_trans h.twin t2
/-- What is told of the epochs that were there. -/
theorem Stay.told {n0 n : Nat} {fs os : List Fv} (h : Stay n0 fs n os) (z : Int) {kw kf kb kc : Int} (hw : getF n0 fs z = kw) (hf : getF n os z = kf) (hb : askF n os z = kb) (hc : askF n0 fs z = kc) :
  (kw = 0 → kf = 0 ∧ kb = 0 ∧ kc = 0 ∧ TwinP (gotF 0 fs z) (gotF 0 os z) ∧ TwinF (beforeF 0 fs z) (beforeF 0 os z)) ∧ (kw = 0 ∨ kw = 6 ∨ kf = kw) := by
 subst hw hf hb hc
 have hl0 := h.len0
 rcases h.may with e | ⟨hm, hn⟩
 · have hn : n = n0 := e
   subst hn
   have e2 : os.take n = os := List.take_of_length_le (Nat.le_of_eq h.len)
   have t := h.twin
   rw [e2] at t
   refine ⟨fun k => ⟨(getF_twin t).trans k, ?_, ?_, gotF_twin t, beforeF_twin t⟩, .inr (.inr (getF_twin t))⟩
   · rw [askF_twin t]
     exact Classical.byContradiction fun c => by
      unfold getF at k
      rw [if_pos c] at k
      exact c k
   · exact Classical.byContradiction fun c => by
       unfold getF at k
       rw [if_pos c] at k
       exact c k
 · have hT := mayF_take hm n0
   have hmf : mayF (-1) fs = true := by rw [← mayF_twin h.twin]; exact hT
   have c1 : checkF n os = 0 := by
    unfold checkF
    rw [if_neg (by omega), if_pos hm]
   have c2 : checkF n0 fs = 0 := by
    unfold checkF
    rw [if_neg (by have := h.le; omega), if_pos hmf]
   have hask : askF n os z = askF n0 fs z := by
    unfold askF
    rw [c1, c2]
   by_cases ha : askF n0 fs z = 0
   · have ha2 : askF n os z = 0 := hask.trans ha
     by_cases hj : ∃ h : aheadF fs z < fs.length, fs[aheadF fs z].e = z
     · obtain ⟨hj1, hj2⟩ := hj
       obtain ⟨j, hje⟩ : ∃ j, aheadF fs z = j := ⟨_, rfl⟩
       have hj3 : j < (os.take n0).length := by rw [h.twin.1, ← hje]; exact hj1
       have hj4 : j < os.length := by simp at hj3; omega
       have hj5 : j < fs.length := by rw [← hje]; exact hj1
       have tj := h.twin.2 j hj5 hj3
       rw [List.getElem_take] at tj
       have ej : fs[j].e = z := by simpa only [hje] using hj2
       have eo : os[j].e = z := tj.1.trans ej
       have hao : aheadF os z = j := by
        refine aheadF_is hm j (by omega) (fun i hi h2 => ?_) (fun i hi h2 => ?_)
        · rw [← eo]
          exact mayF_rise hm i j hi hj4 h2
        · rcases Nat.lt_or_ge j i with h3 | h3
          · have := mayF_rise hm j i hj4 hi h3
            omega
          · have : i = j := by omega
            subst this
            omega
       have hkf : getF n os z = 0 := by
        unfold getF
        rw [if_neg (by rw [ha2]; simp), hao, List.getElem?_eq_getElem hj4]
        simp only
        rw [if_pos eo]
       have hkw : getF n0 fs z = 0 := by
        unfold getF
        rw [if_neg (by rw [ha]; simp), hje, List.getElem?_eq_getElem hj5]
        simp only
        rw [if_pos ej]
       refine ⟨fun _ => ⟨hkf, ha2, ha, ?_, ?_⟩, .inl hkw⟩
       · unfold gotF
         rw [if_pos rfl, if_pos rfl, hje, hao, List.getElem?_eq_getElem hj5, List.getElem?_eq_getElem hj4]
         exact tj.2
       · unfold beforeF
         rw [if_pos rfl, if_pos rfl, hje, hao]
         have t2 := twinF_take h.twin j
         rw [List.take_take, Nat.min_eq_left (by omega)] at t2
         exact t2
     · have hkw : getF n0 fs z = 6 := by
         unfold getF
         rw [if_neg (by rw [ha]; simp)]
         split
         · rename_i f hf
           obtain ⟨q1, q2⟩ := List.getElem?_eq_some_iff.1 hf
           rw [if_neg fun e => hj ⟨q1, by rw [q2]; exact e⟩]
         · rfl
       exact ⟨fun k => absurd (hkw.symm.trans k) (by decide), .inr (.inl hkw)⟩
   · have hkw : getF n0 fs z = askF n0 fs z := by
       unfold getF
       rw [if_pos ha]
     have hkf : getF n os z = askF n0 fs z := by
      unfold getF
      rw [if_pos (by rw [hask]; exact ha), hask]
     exact ⟨fun k => absurd (hkw.symm.trans k) ha, .inr (.inr (hkf.trans hkw.symm))⟩
end Ma
end Go.Proofs.Ytbbnbgllgomolaa
namespace Go.Proofs.Ytbbnbgllgomolaa
open Go.RowKit
namespace Ma
open Dp Dy
theorem PCells.range {w : World} {b o : Nat} {p : Pv} (h : PCells w b o p) : w.rangeAt b o (cells16 p) := fun j v hj => by
 obtain ⟨k0, k1, k2, k3, k4, k5, k6, k7, k8, k9, k10, k11, k12, k13, k14, k15⟩ := h
 have hl : j < 16 := by
  rcases Nat.lt_or_ge j 16 with h' | h'
  · exact h'
  · rw [List.getElem?_eq_none (by simpa [cells16] using h')] at hj
    cases hj
 have hc : j = 0 ∨ j = 1 ∨ j = 2 ∨ j = 3 ∨ j = 4 ∨ j = 5 ∨ j = 6 ∨ j = 7 ∨ j = 8 ∨ j = 9 ∨ j = 10 ∨ j = 11 ∨ j = 12 ∨ j = 13 ∨ j = 14 ∨ j = 15 := by omega
 rcases hc with rfl | rfl | rfl | rfl | rfl | rfl | rfl | rfl | rfl | rfl | rfl | rfl | rfl | rfl | rfl | rfl <;> (simp [cells16] at hj; subst hj; assumption)
theorem pcells_of {w : World} {b o : Nat} {p : Pv} (h : ∀ k, k < 16 → w.cell? ⟨b, o + k, none⟩ = (cells16 p)[k]?) : PCells w b o p :=
 ⟨h 0 (by decide), h 1 (by decide), h 2 (by decide), h 3 (by decide), h 4 (by decide), h 5 (by decide), h 6 (by decide), h 7 (by decide), h 8 (by decide), h 9 (by decide), h 10 (by decide), h 11 (by decide), h 12 (by decide), h 13 (by decide), h 14 (by decide), h 15 (by decide)⟩
/-- Parts in a row. -/
structure LPs (w : World) (lo hi : Nat) (A : Option Addr) (n : Nat) (ps : List Pv) : Prop where
 len : ps.length = n
 big : n ≤ 9223372036854775807
 row : 0 < n → ∃ b off, A = some ⟨b, off, none⟩ ∧ lo ≤ b ∧ b < hi ∧ ∀ j (h : j < ps.length), PCells w b (off + j * 16) ps[j]
 rows : ∀ j (h : j < ps.length), PRows w lo hi ps[j]
theorem LPs.below {w w' : World} {lo hi B : Nat} {A : Option Addr} {n : Nat} {ps : List Pv} (h : LPs w lo hi A n ps) (hb : Below B w w') (hB : hi ≤ B) : LPs w' lo hi A n ps :=
 ⟨h.len, h.big, fun h0 => by
  obtain ⟨b, off, e, h1, h2, hc⟩ := h.row h0
  exact ⟨b, off, e, h1, h2, fun j hj => (hc j hj).blk (hb.block b (by omega))⟩, fun j hj => (h.rows j hj).below hb hB⟩
theorem twinF_refl {fs : List Fv} (h : ∀ f ∈ fs, ∀ x, x < 4 → (f.P.M.get x).n ≤ (f.P.M.get x).c) : TwinF fs fs :=
 ⟨rfl, fun _j h1 _ => ⟨rfl, fun x hx => ⟨rfl, rfl, rfl, rfl, h _ (List.getElem_mem h1) x hx⟩, rfl, rfl, rfl, rfl, rfl⟩⟩
end Ma
end Go.Proofs.Ytbbnbgllgomolaa
namespace Go.Proofs.Ytbbnbgllgomolaa
open Go.RowKit
namespace Ma
open Dp Dy
set_option maxHeartbeats 102400000 in
set_option maxRecDepth 100000 in
theorem pstays_walk (w : World) (A0 : Option Addr) (n0 c0 : Nat) (fs : List Fv) (La : LFs w 0 w.heap.size A0 n0 fs) (hnc : n0 ≤ c0) (_ : c0 ≤ maxLen) (hcp : ∀ f ∈ fs, ∀ x, x < 4 → (f.P.M.get x).n ≤ (f.P.M.get x).c)
  (A1 : Option Addr) (n1 c1 : Nat) (xs : List Int) (hE : Ints w 0 w.heap.size .i64 A1 n1 xs) (A2 : Option Addr) (n2 c2 : Nat) (ps : List Pv) (hP : LPs w 0 w.heap.size A2 n2 ps) (z : Int) :
  Calls Try.prog 7 #[.slice A0 n0 c0, .slice A1 n1 c1, .slice A2 n2 c2, .int .i64 z] w fun e w' => e = .returned (.bool true) ∧ Below w.heap.size w w' := by
 have j0 : Below w.heap.size w w := Below.refl _ _
 have HL := Lib.hid La.len
 have HPL := Lib.hid hP.len
 have hbig := La.big
 have hbigE := hE.big
 have hbigP := hP.big
 have HT := Lib.hid (twinF_refl hcp)
 obtain ⟨g1, hg1⟩ : ∃ g, greatF n0 fs = g := ⟨_, rfl⟩
 obtain ⟨kw, hkw⟩ : ∃ k, getF n0 fs z = k := ⟨_, rfl⟩
 obtain ⟨kc, hkc⟩ : ∃ k, askF n0 fs z = k := ⟨_, rfl⟩
 have G1 := Lib.hid hg1
 have KW := Lib.hid hkw
 have KC := Lib.hid hkc
 clear hg1 hkw hkc hcp
 go_enter Try.func7, Try.ntmps7
 go_wp2_with fail
 refine (alive20_any w).mono ?_
 rintro e' v1 ⟨rfl, j2⟩
 try clear hw
 go_wp2_with fail
 refine (GreatF_any v1 A0 n0 c0 fs (LFs.on La j2) g1 G1.out).mono ?_
 rintro e' v3 ⟨rfl, j4⟩
 try clear hw
 cases g1
 rotate_left
 · skip
   go_wp2
   go_ret
   exact ⟨rfl, (later j2 j4)⟩
 · skip
   have SL : Hid (SmallF fs) := Lib.hid (small_list La G1.out)
   clear G1
   by_cases h40 : 40 < n0
   · skip
     have q40 : (40 : Int) < (n0 : Int) := by omega
     go_wp2
     go_ret
     exact ⟨rfl, (later j2 j4)⟩
   · skip
     have d40 : decide ((40 : Int) < (n0 : Int)) = false := decide_eq_false (by omega)
     by_cases h20 : 20 < n1
     · skip
       have q20 : (20 : Int) < (n1 : Int) := by omega
       go_wp2
       go_ret
       exact ⟨rfl, (later j2 j4)⟩
     · skip
       have d20 : decide ((20 : Int) < (n1 : Int)) = false := decide_eq_false (by omega)
       go_wp2_with fail
       refine (Get_any v3 A0 n0 c0 fs (LFs.on La (later j2 j4)) z SL.out kw KW.out).mono ?_
       rintro e' v5 ⟨qW, rfl, tW, j6, RW⟩
       try clear hw
       replace tW := Lib.hid tW
       obtain ⟨uW, hu_, b10, jW, sW⟩ := alloc_p v5 qW
       go_upto_region 5 with (first
        | (refine wpList_store_new rfl 31 (.tmp 10) (.tmp 46) rfl _ #[.bool qW.M.S.s, .slice qW.M.S.A qW.M.S.n qW.M.S.c, .int .i64 qW.M.S.e, .bool qW.M.W.s, .slice qW.M.W.A qW.M.W.n qW.M.W.c, .int .i64 qW.M.W.e, .bool qW.M.C.s, .slice qW.M.C.A qW.M.C.n qW.M.C.c, .int .i64 qW.M.C.e, .bool qW.M.A.s, .slice qW.M.A.A qW.M.A.n qW.M.A.c, .int .i64 qW.M.A.e, .bool qW.h, .int .i64 qW.mn, .int .i64 qW.mx, .slice qW.A qW.n qW.c] rfl rfl (by kernel_rfl) rfl (all_oneCell_toArray (cells16_one qW)) ?_))
       try rw [hu_]
       try clear hu_
       have hRW : PRows uW 0 uW.heap.size qW := (RW.below jW (Nat.le_refl _)).more (Nat.zero_le _) (Below.size jW)
       have hw0 := (later j2 (later j4 (later j6 jW)))
       have lV := Below.size hw0
       have LaV := (LFs.on La (later j2 (later j4 (later j6 jW))))
       have ST := Lib.hid (Stay.begin HL.out HT.out)
       go_wp2
       go_loopw [12, 13] (fun nv iv wr => ∃ (i n c : Nat) (A : Option Addr) (os : List Fv), nv = .slice A n c ∧ iv = .int .i64 i ∧ i ≤ n1 ∧ n ≤ n0 + i ∧ n ≤ c ∧ LFs wr 0 wr.heap.size A n os ∧ Below uW.heap.size uW wr ∧ Hid (Stay n0 fs n os) ∧ Hid (SmallF os)) (fun _ iv _ => n1 - (intOf iv).toNat)
       case atStart => exact ⟨0, n0, c0, A0, fs, rfl, rfl, Nat.zero_le _, Nat.le_refl _, hnc, LaV, Below.refl _ _, ST, SL⟩
       case round =>
        clear ST
        obtain ⟨i, n, c, A, os, rfl, rfl, hi1, hn, hc, LN, jr, ST, SN⟩ := hrel
        have hn28 : n ≤ 1028 := by omega
        have HLN := Lib.hid LN.len
        go_upto_region 7 with fail
        go_cut [58] from 49 to 57 (fun s58 wx => (∃ b : Bool, s58 = .bool b ∧ Hid (b = decide (i < n1 ∧ i < n2))) ∧ Hid (wx = wr))
        case first =>
         by_cases a1 : i < n1
         · by_cases a2 : i < n2
           · have b1 : (i : Int) < (n1 : Int) := by omega
             have b2 : (i : Int) < (n2 : Int) := by omega
             go_wp2_with fail
             go_meet
             exact ⟨⟨true, rfl, Lib.hid (by simp [a1, a2])⟩, Lib.hid rfl⟩
           · have b1 : (i : Int) < (n1 : Int) := by omega
             have b2 : decide ((i : Int) < (n2 : Int)) = false := decide_eq_false (by omega)
             go_wp2_with fail
             go_meet
             exact ⟨⟨false, by first | rfl | (congr 1; exact decide_eq_false (by omega)), Lib.hid (by simp [a2])⟩, Lib.hid rfl⟩
         · have b1 : decide ((i : Int) < (n1 : Int)) = false := decide_eq_false (by omega)
           go_wp2_with fail
           go_meet
           exact ⟨⟨false, by first | rfl | (congr 1; exact decide_eq_false (by omega)), Lib.hid (by simp [a1])⟩, Lib.hid rfl⟩
        case rest =>
         obtain ⟨⟨b, rfl, hbc⟩, hwx⟩ := hcut
         obtain rfl : wr = wc := hwx.out.symm
         cases b
         · skip
           clear hbc
           obtain ⟨kf, hkf⟩ : ∃ k, getF n os z = k := ⟨_, rfl⟩
           obtain ⟨kb, hkb⟩ : ∃ k, askF n os z = k := ⟨_, rfl⟩
           have KF := Lib.hid hkf
           have KB := Lib.hid hkb
           have TD := Lib.hid (ST.out.told z KW.out hkf hkb KC.out)
           clear hkf hkb
           go_wp2_with fail
           refine (Get_any wr A n c os LN z SN.out kf KF.out).mono ?_
           rintro e' v7 ⟨qI, rfl, tI, j8, RI⟩
           try clear hw
           replace tI := Lib.hid tI
           obtain ⟨uI, hu_, b18, jI, sI⟩ := alloc_p v7 qI
           go_upto_region 18 with (first
            | (refine wpList_store_new rfl 31 (.tmp 18) (.tmp 112) rfl _ #[.bool qI.M.S.s, .slice qI.M.S.A qI.M.S.n qI.M.S.c, .int .i64 qI.M.S.e, .bool qI.M.W.s, .slice qI.M.W.A qI.M.W.n qI.M.W.c, .int .i64 qI.M.W.e, .bool qI.M.C.s, .slice qI.M.C.A qI.M.C.n qI.M.C.c, .int .i64 qI.M.C.e, .bool qI.M.A.s, .slice qI.M.A.A qI.M.A.n qI.M.A.c, .int .i64 qI.M.A.e, .bool qI.h, .int .i64 qI.mn, .int .i64 qI.mx, .slice qI.A qI.n qI.c] rfl rfl (by kernel_rfl) rfl (all_oneCell_toArray (cells16_one qI)) ?_))
           try rw [hu_]
           try clear hu_
           have hRI : PRows uI 0 uI.heap.size qI := (RI.below jI (Nat.le_refl _)).more (Nat.zero_le _) (Below.size jI)
           go_wp2_with fail
           refine (Before_any uI A n c os (LFs.on LN (later j8 jI)) hc z SN.out kb KB.out).mono ?_
           rintro e' v9 ⟨Ab, nb, cb, gb, rfl, tb, j10, Ob, rb⟩
           try clear hw
           replace tb := Lib.hid tb
           have LB := Ob.lfs
           go_wp2_with fail
           refine (Before_any v9 A0 n0 c0 fs (LFs.on La (later j2 (later j4 (later j6 (later jW (later jr (later j8 (later jI j10)))))))) hnc z SL.out kc KC.out).mono ?_
           rintro e' v11 ⟨Ac, nc, cc, gc, rfl, tc, j12, Oc, rc⟩
           try clear hw
           replace tc := Lib.hid tc
           have LC := Oc.lfs
           go_upto_region 20 with fail
           by_cases hk : kw = 0
           rotate_left
           · skip
             have e0 : (kw == 0) = false := by simpa using hk
             have OR := TD.out.2.resolve_left hk
             by_cases h6 : kw = 6
             · skip
               have e6 : (kw == 6) = true := by simpa using h6
               clear OR TD h6 hk
               go_wp2
               go_ret
               exact ⟨rfl, (later j2 (later j4 (later j6 (later jW (later jr (later j8 (later jI (later j10 j12))))))))⟩
             · skip
               have e6 : (kw == 6) = false := by simpa using h6
               have e7 : (kf == kw) = true := by simpa using OR.resolve_left h6
               clear OR TD h6 hk
               go_wp2
               go_ret
               exact ⟨rfl, (later j2 (later j4 (later j6 (later jW (later jr (later j8 (later jI (later j10 j12))))))))⟩
           · skip
             subst hk
             obtain ⟨k1, k2, k3, t1, t2⟩ := TD.out.1 rfl
             subst k1 k2 k3
             have e1 := Lib.hid (sameP_two tW.out (twinP_trans t1 tI.out))
             have e2 := Lib.hid (sameF_two (twinF_trans t2 tb.out) tc.out)
             clear TD t1 t2
             have rgw_ : v11.rangeAt (v5.heap.size) 0 [.bool qW.M.S.s, .slice qW.M.S.A qW.M.S.n qW.M.S.c, .int .i64 qW.M.S.e, .bool qW.M.W.s, .slice qW.M.W.A qW.M.W.n qW.M.W.c, .int .i64 qW.M.W.e, .bool qW.M.C.s, .slice qW.M.C.A qW.M.C.n qW.M.C.c, .int .i64 qW.M.C.e, .bool qW.M.A.s, .slice qW.M.A.A qW.M.A.n qW.M.A.c, .int .i64 qW.M.A.e, .bool qW.h, .int .i64 qW.mn, .int .i64 qW.mx, .slice qW.A qW.n qW.c] := PBox.range (box_later b10 (later jr (later j8 (later jI (later j10 j12)))) sW)
             have rgi_ : v11.rangeAt (v7.heap.size) 0 [.bool qI.M.S.s, .slice qI.M.S.A qI.M.S.n qI.M.S.c, .int .i64 qI.M.S.e, .bool qI.M.W.s, .slice qI.M.W.A qI.M.W.n qI.M.W.c, .int .i64 qI.M.W.e, .bool qI.M.C.s, .slice qI.M.C.A qI.M.C.n qI.M.C.c, .int .i64 qI.M.C.e, .bool qI.M.A.s, .slice qI.M.A.A qI.M.A.n qI.M.A.c, .int .i64 qI.M.A.e, .bool qI.h, .int .i64 qI.mn, .int .i64 qI.mx, .slice qI.A qI.n qI.c] := PBox.range (box_later b18 (later j10 j12) sI)
             go_wp2_with (first
              | (refine wpList_load_midG (by rfl) 31 (.tmp 10) rfl (v5.heap.size) 0 rfl [.bool qW.M.S.s, .slice qW.M.S.A qW.M.S.n qW.M.S.c, .int .i64 qW.M.S.e, .bool qW.M.W.s, .slice qW.M.W.A qW.M.W.n qW.M.W.c, .int .i64 qW.M.W.e, .bool qW.M.C.s, .slice qW.M.C.A qW.M.C.n qW.M.C.c, .int .i64 qW.M.C.e, .bool qW.M.A.s, .slice qW.M.A.A qW.M.A.n qW.M.A.c, .int .i64 qW.M.A.e, .bool qW.h, .int .i64 qW.mn, .int .i64 qW.mx, .slice qW.A qW.n qW.c] _ rgw_ Try.underlying31 rfl (by kernel_rfl) ?_)
              | (refine wpList_load_midG (by rfl) 31 (.tmp 18) rfl (v7.heap.size) 0 rfl [.bool qI.M.S.s, .slice qI.M.S.A qI.M.S.n qI.M.S.c, .int .i64 qI.M.S.e, .bool qI.M.W.s, .slice qI.M.W.A qI.M.W.n qI.M.W.c, .int .i64 qI.M.W.e, .bool qI.M.C.s, .slice qI.M.C.A qI.M.C.n qI.M.C.c, .int .i64 qI.M.C.e, .bool qI.M.A.s, .slice qI.M.A.A qI.M.A.n qI.M.A.c, .int .i64 qI.M.A.e, .bool qI.h, .int .i64 qI.mn, .int .i64 qI.mx, .slice qI.A qI.n qI.c] _ rgi_ Try.underlying31 rfl (by kernel_rfl) ?_))
             refine (SamePart_any v11 qW qI (PRows.on hRW (later jr (later j8 (later jI (later j10 j12))))) (PRows.on hRI (later j10 j12)) true e1.out).mono ?_
             rintro e' v13 ⟨rfl, j14⟩
             try clear hw
             clear rgw_ rgi_
             go_wp2_with fail
             refine (SameF_any v13 Ab Ac nb cb nc cc gb gc (LFs.on LB (later j12 j14)) (LFs.on LC j14) true e2.out).mono ?_
             rintro e' v15 ⟨rfl, j16⟩
             try clear hw
             go_wp2
             go_ret
             exact ⟨rfl, (later j2 (later j4 (later j6 (later jW (later jr (later j8 (later jI (later j10 (later j12 (later j14 j16))))))))))⟩
         · skip
           obtain ⟨a1, a2⟩ := of_decide_eq_true hbc.out.symm
           have hwrj : IntKind.i64.wrap ((i : Int) + 1) = ((i + 1 : Nat) : Int) := by rw [IntKind.wrap_i64]; omega
           have hps : i < ps.length := by rw [HPL.out]; exact a2
           obtain ⟨b2, o2, hA2, _, lb2, hc2⟩ := hP.row (by omega)
           obtain ⟨b1, o1, hA1, _, lb1, hc1⟩ := hE.row (by omega)
           have hci := Lib.hid (hc2 i hps)
           have hri := hP.rows i hps
           have hxi := Lib.hid (hc1 i a1).1
           obtain ⟨p, hp⟩ : ∃ p, ps[i] = p := ⟨_, rfl⟩
           obtain ⟨x, hx⟩ : ∃ x, xs[i]?.getD 0 = x := ⟨_, rfl⟩
           rw [hp] at hci hri
           rw [hx] at hxi
           clear hbc hc2 hc1 hp hx
           subst hA2 hA1
           obtain ⟨gp, hgp⟩ : ∃ g, greatP p = g := ⟨_, rfl⟩
           have GP := Lib.hid hgp
           clear hgp
           have rg_ : wr.rangeAt b2 (o2 + i * 16) [.bool p.M.S.s, .slice p.M.S.A p.M.S.n p.M.S.c, .int .i64 p.M.S.e, .bool p.M.W.s, .slice p.M.W.A p.M.W.n p.M.W.c, .int .i64 p.M.W.e, .bool p.M.C.s, .slice p.M.C.A p.M.C.n p.M.C.c, .int .i64 p.M.C.e, .bool p.M.A.s, .slice p.M.A.A p.M.A.n p.M.A.c, .int .i64 p.M.A.e, .bool p.h, .int .i64 p.mn, .int .i64 p.mx, .slice p.A p.n p.c] := (hci.out.blk (Below.block (later j2 (later j4 (later j6 (later jW jr)))) b2 lb2)).range
           go_wp2_with (first
            | (refine wpList_load_mid rfl 31 (.tmp 63) rfl b2 (o2 + i * 16) rfl [.bool p.M.S.s, .slice p.M.S.A p.M.S.n p.M.S.c, .int .i64 p.M.S.e, .bool p.M.W.s, .slice p.M.W.A p.M.W.n p.M.W.c, .int .i64 p.M.W.e, .bool p.M.C.s, .slice p.M.C.A p.M.C.n p.M.C.c, .int .i64 p.M.C.e, .bool p.M.A.s, .slice p.M.A.A p.M.A.n p.M.A.c, .int .i64 p.M.A.e, .bool p.h, .int .i64 p.mn, .int .i64 p.mx, .slice p.A p.n p.c] _ rg_ Try.underlying31 rfl (by kernel_rfl) ?_))
           refine (GreatPart_any wr p (PRows.on hri (later j2 (later j4 (later j6 (later jW jr))))) gp GP.out).mono ?_
           rintro e' v17 ⟨rfl, j18⟩
           try clear hw
           clear rg_
           cases gp
           rotate_left
           · skip
             go_wp2
             go_ret
             exact ⟨rfl, (later j2 (later j4 (later j6 (later jW (later jr j18)))))⟩
           · skip
             have SP : Hid (SmallP p) := Lib.hid (small_part hri GP.out)
             obtain ⟨kf, hkf⟩ : ∃ k, freezeF n os x p = k := ⟨_, rfl⟩
             have KF := Lib.hid hkf
             clear hkf GP
             go_upto_region 11 with fail
             go_cut [14, 15] from 67 to 79 (fun s14 s15 wx => ∃ (A' : Option Addr) (n' c' : Nat) (gs : List Fv), s14 = .slice A' n' c' ∧ s15 = .int .i64 kf ∧ Below v17.heap.size v17 wx ∧ Hid (TwinF (frozenF kf os x p) gs) ∧ LFs wx 0 wx.heap.size A' n' gs ∧ n' ≤ c')
             case first =>
              try clear hw
              refine region_E (Keeps v17) [] (m := 15) (L := #[zF,zF,zF,zF,zF,zF,zF,zF,zF,zF,zF,zF,zF,zF,zF]) (by kernel_rfl) (by rfl) (by rfl) ?_
              have j20 : Below v17.heap.size v17 v17.drew := (Below.refl _ _).drew
              generalize v17.drew = v19 at *
              refine zE 0 #[zT,zF,zF,zF,zF,zF,zF,zF,zF,zF,zF,zF,zF,zF,zF] ?_ rfl ?hy57 ?rest57
              case hy57 => intro w; go_simp; (try with_reducible rfl)
              try simp only [Act.put, zp]
              refine zE 1 #[zT,zT,zF,zF,zF,zF,zF,zF,zF,zF,zF,zF,zF,zF,zF] ?_ rfl ?hy58 ?rest58
              case hy58 => intro w; go_simp; (try with_reducible rfl)
              try simp only [Act.put, zp]
              refine zE 2 #[zT,zT,zT,zF,zF,zF,zF,zF,zF,zF,zF,zF,zF,zF,zF] ?_ rfl ?hy59 ?rest59
              case hy59 => intro w; go_simp; (try with_reducible rfl)
              try simp only [Act.put, zp]
              refine zE 3 #[zT,zT,zT,zT,zF,zF,zF,zF,zF,zF,zF,zF,zF,zF,zF] ?_ rfl ?hy60 ?rest60
              case hy60 => intro w; go_simp; (try with_reducible rfl)
              try simp only [Act.put, zp]
              have kpy21 : Keeps v17 v19 := fun p hp => Below.block j20 p hp
              refine readE (i := 4) (L := #[zT,zT,zT,zT,zT,zF,zF,zF,zF,zF,zF,zF,zF,zF,zF]) (v := .int .i64 x) rfl (by rfl) (by kernel_rfl) (by kernel_rfl) (by kernel_rfl) (fun _ _ _ h => h) (by assumption) (by rfl) ?y21 ?z22
              case y21 =>
               intro w' h1
               have k_ := (World.cell?_of_block ((h1 b1 (Nat.lt_of_lt_of_le lb1 (Below.size (later j2 (later j4 (later j6 (later jW (later jr j18)))))))).trans (Below.block (later j2 (later j4 (later j6 (later jW (later jr j18))))) b1 lb1))).trans hxi.out
               go_simp
              try simp only [Act.put, zp]
              refine zE 5 #[zT,zT,zT,zT,zT,zT,zF,zF,zF,zF,zF,zF,zF,zF,zF] ?_ rfl ?hy62 ?rest62
              case hy62 => intro w; go_simp; (try with_reducible rfl)
              try simp only [Act.put, zp]
              refine zE 6 #[zT,zT,zT,zT,zT,zT,zT,zF,zF,zF,zF,zF,zF,zF,zF] ?_ rfl ?hy63 ?rest63
              case hy63 => intro w; go_simp; (try with_reducible rfl)
              try simp only [Act.put, zp]
              refine zE 7 #[zT,zT,zT,zT,zT,zT,zT,zT,zF,zF,zF,zF,zF,zF,zF] ?_ rfl ?hy64 ?rest64
              case hy64 => intro w; go_simp; (try with_reducible rfl)
              try simp only [Act.put, zp]
              have kpy23 : Keeps v17 v19 := fun p hp => Below.block j20 p hp
              refine readE (i := 8) (L := #[zT,zT,zT,zT,zT,zT,zT,zT,zT,zF,zF,zF,zF,zF,zF]) (v := .agg #[.bool p.M.S.s, .slice p.M.S.A p.M.S.n p.M.S.c, .int .i64 p.M.S.e, .bool p.M.W.s, .slice p.M.W.A p.M.W.n p.M.W.c, .int .i64 p.M.W.e, .bool p.M.C.s, .slice p.M.C.A p.M.C.n p.M.C.c, .int .i64 p.M.C.e, .bool p.M.A.s, .slice p.M.A.A p.M.A.n p.M.A.c, .int .i64 p.M.A.e, .bool p.h, .int .i64 p.mn, .int .i64 p.mx, .slice p.A p.n p.c]) rfl (by rfl) (by kernel_rfl) (by kernel_rfl) (by kernel_rfl) (fun _ _ _ h => h) (by assumption) (by rfl) ?y23 ?z24
              case y23 =>
               intro w' h1
               exact run_load_op 31 (.tmp 75) rfl b2 (o2 + i * 16) rfl (cells16 p) _ (hci.out.blk ((h1 b2 (Nat.lt_of_lt_of_le lb2 (Below.size (later j2 (later j4 (later j6 (later jW (later jr j18)))))))).trans (Below.block (later j2 (later j4 (later j6 (later jW (later jr j18))))) b2 lb2))).range Try.underlying31 rfl (by kernel_rfl)
              try simp only [Act.put, zp]
              refine stepK (i := 9) (L := #[zT,zT,zT,zT,zT,zT,zT,zT,zT,zT,zF,zF,zF,zF,zF]) rfl (by rfl) (by kernel_rfl) (by rfl) (fun K hK => ?_)
              go_simp
              go_at_call 24
              refine (Freeze_any v19 A n c os (LFs.on LN (later j18 j20)) x p (PRows.on hri (later j2 (later j4 (later j6 (later jW (later jr (later j18 j20))))))) hn28 SN.out SP.out kf KF.out).mono ?_
              rintro e' v25 ⟨A9, n9, c9, gs, rfl, t9, j26, O9, r9⟩
              refine hK _ _ ⟨fun _ _ => fun p hp => Below.block (later j20 j26) p hp, ?_⟩
              clear hK K
              try simp only [Act.put, zp]
              refine zE 10 #[zT,zT,zT,zT,zT,zT,zT,zT,zT,zT,zT,zF,zF,zF,zF] ?_ rfl ?hy67 ?rest67
              case hy67 => intro w; go_simp; (try with_reducible rfl)
              try simp only [Act.put, zp]
              refine zE 11 #[zT,zT,zT,zT,zT,zT,zT,zT,zT,zT,zT,zT,zF,zF,zF] ?_ rfl ?hy68 ?rest68
              case hy68 => intro w; go_simp; (try with_reducible rfl)
              try simp only [Act.put, zp]
              refine zE 12 #[zT,zT,zT,zT,zT,zT,zT,zT,zT,zT,zT,zT,zT,zF,zF] ?_ rfl ?hy69 ?rest69
              case hy69 => intro w; go_simp; (try with_reducible rfl)
              try simp only [Act.put, zp]
              refine zE 13 #[zT,zT,zT,zT,zT,zT,zT,zT,zT,zT,zT,zT,zT,zT,zF] ?_ rfl ?hy70 ?rest70
              case hy70 => intro w; go_simp; (try with_reducible rfl)
              try simp only [Act.put, zp]
              refine zE 14 #[zT,zT,zT,zT,zT,zT,zT,zT,zT,zT,zT,zT,zT,zT,zT] ?_ rfl ?hy71 ?rest71
              case hy71 => intro w; go_simp; (try with_reducible rfl)
              try simp only [Act.put, zp]
              refine doneE (by kernel_rfl) ?_ _
              have hc9 : n9 ≤ c9 := by
               obtain ⟨A', c', e, h1, _⟩ := O9.shape
               injection e with _ _ e3
               omega
              go_wp2_with fail
              go_meet
              exact ⟨A9, n9, c9, gs, rfl, rfl, (later j20 j26), Lib.hid t9, O9.lfs, hc9⟩
             case rest =>
              obtain ⟨A9, n9, c9, gs, rfl, rfl, jf, t9, L9, hc9⟩ := hcut
              obtain ⟨xf, hwc⟩ : ∃ W : World, W = wc := ⟨_, rfl⟩
              subst hwc
              by_cases h0 : kf = 0
              rotate_left
              · skip
                have n0b : (kf != 0) = true := by simpa using h0
                clear KF t9 L9
                have LN2 := (LFs.on LN (later j18 jf))
                have jr2 := (later jr (later j18 jf))
                go_wp2
                go_roundw
                case rel => exact ⟨i + 1, n, c, A, os, rfl, by first | rfl | (congr 1; omega) | go_num, by omega, by omega, hc, LN2, jr2, ST, SN⟩
                case measure => first | (simp [intOf]; done) | (simp [intOf]; omega)
              · skip
                subst h0
                have FZ := Lib.hid (froze HLN.out KF.out t9.out)
                have ST2 := Lib.hid (ST.out.push KF.out t9.out)
                obtain rfl : n9 = n + 1 := L9.len.symm.trans FZ.out.2.1
                have SG : Hid (SmallF gs) := Lib.hid (twinF_small t9.out (small_frozen SN.out SP.out))
                clear KF t9
                have kx_ := (World.cell?_of_block (Below.block (later j2 (later j4 (later j6 (later jW (later jr (later j18 jf)))))) b1 lb1)).trans hxi.out
                go_wp2_with fail
                refine (Get_any xf A9 (n + 1) c9 gs L9 x SG.out 0 FZ.out.2.2.2.2.2.1).mono ?_
                rintro e' v27 ⟨q, rfl, tq, j28, Rq⟩
                try clear hw
                clear kx_
                replace tq := Lib.hid (twinP_trans FZ.out.2.2.2.2.2.2 tq)
                obtain ⟨uq, hu_, bq, jq, sq⟩ := alloc_p v27 q
                go_upto_region 14 with (first
                 | (refine wpList_store_new rfl 31 (.tmp 16) (.tmp 89) rfl _ #[.bool q.M.S.s, .slice q.M.S.A q.M.S.n q.M.S.c, .int .i64 q.M.S.e, .bool q.M.W.s, .slice q.M.W.A q.M.W.n q.M.W.c, .int .i64 q.M.W.e, .bool q.M.C.s, .slice q.M.C.A q.M.C.n q.M.C.c, .int .i64 q.M.C.e, .bool q.M.A.s, .slice q.M.A.A q.M.A.n q.M.A.c, .int .i64 q.M.A.e, .bool q.h, .int .i64 q.mn, .int .i64 q.mx, .slice q.A q.n q.c] rfl rfl (by kernel_rfl) rfl (all_oneCell_toArray (cells16_one q)) ?_))
                try rw [hu_]
                try clear hu_
                have hRq : PRows uq 0 uq.heap.size q := (Rq.below jq (Nat.le_refl _)).more (Nat.zero_le _) (Below.size jq)
                have e1 := Lib.hid (twinP_same tq.out)
                go_cut [106] from 91 to 105 (fun s_ wx => s_ = .bool false ∧ Below uq.heap.size uq wx)
                case first =>
                 try clear hw
                 refine region_E (Keeps uq) [] (m := 16) (L := #[zF,zF,zF,zF,zF,zF,zF,zF,zF,zF,zF,zF,zF,zF,zF,zF]) (by kernel_rfl) (by rfl) (by rfl) ?_
                 have j30 : Below uq.heap.size uq uq.drew := (Below.refl _ _).drew
                 generalize uq.drew = v29 at *
                 refine zE 0 #[zT,zF,zF,zF,zF,zF,zF,zF,zF,zF,zF,zF,zF,zF,zF,zF] ?_ rfl ?hy72 ?rest72
                 case hy72 => intro w; go_simp; (try with_reducible rfl)
                 try simp only [Act.put, zp]
                 refine zE 1 #[zT,zT,zF,zF,zF,zF,zF,zF,zF,zF,zF,zF,zF,zF,zF,zF] ?_ rfl ?hy73 ?rest73
                 case hy73 => intro w; go_simp; (try with_reducible rfl)
                 try simp only [Act.put, zp]
                 refine zE 2 #[zT,zT,zT,zF,zF,zF,zF,zF,zF,zF,zF,zF,zF,zF,zF,zF] ?_ rfl ?hy74 ?rest74
                 case hy74 => intro w; go_simp; (try with_reducible rfl)
                 try simp only [Act.put, zp]
                 have kpy31 : Keeps uq v29 := fun p hp => Below.block j30 p hp
                 refine readE (i := 3) (L := #[zT,zT,zT,zT,zF,zF,zF,zF,zF,zF,zF,zF,zF,zF,zF,zF]) (v := .agg #[.bool q.M.S.s, .slice q.M.S.A q.M.S.n q.M.S.c, .int .i64 q.M.S.e, .bool q.M.W.s, .slice q.M.W.A q.M.W.n q.M.W.c, .int .i64 q.M.W.e, .bool q.M.C.s, .slice q.M.C.A q.M.C.n q.M.C.c, .int .i64 q.M.C.e, .bool q.M.A.s, .slice q.M.A.A q.M.A.n q.M.A.c, .int .i64 q.M.A.e, .bool q.h, .int .i64 q.mn, .int .i64 q.mx, .slice q.A q.n q.c]) rfl (by rfl) (by kernel_rfl) (by kernel_rfl) (by kernel_rfl) (fun _ _ _ h => h) (by assumption) (by rfl) ?y31 ?z32
                 case y31 =>
                  intro w' h1
                  exact run_load_op 31 (.tmp 16) rfl (v27.heap.size) 0 rfl (cells16 q) _ (PBox.range ((h1 _ sq).trans bq)) Try.underlying31 rfl (by kernel_rfl)
                 try simp only [Act.put, zp]
                 refine zE 4 #[zT,zT,zT,zT,zT,zF,zF,zF,zF,zF,zF,zF,zF,zF,zF,zF] ?_ rfl ?hy76 ?rest76
                 case hy76 => intro w; go_simp; (try with_reducible rfl)
                 try simp only [Act.put, zp]
                 refine zE 5 #[zT,zT,zT,zT,zT,zT,zF,zF,zF,zF,zF,zF,zF,zF,zF,zF] ?_ rfl ?hy77 ?rest77
                 case hy77 => intro w; go_simp; (try with_reducible rfl)
                 try simp only [Act.put, zp]
                 refine zE 6 #[zT,zT,zT,zT,zT,zT,zT,zF,zF,zF,zF,zF,zF,zF,zF,zF] ?_ rfl ?hy78 ?rest78
                 case hy78 => intro w; go_simp; (try with_reducible rfl)
                 try simp only [Act.put, zp]
                 have kpy33 : Keeps uq v29 := fun p hp => Below.block j30 p hp
                 refine readE (i := 7) (L := #[zT,zT,zT,zT,zT,zT,zT,zT,zF,zF,zF,zF,zF,zF,zF,zF]) (v := .agg #[.bool p.M.S.s, .slice p.M.S.A p.M.S.n p.M.S.c, .int .i64 p.M.S.e, .bool p.M.W.s, .slice p.M.W.A p.M.W.n p.M.W.c, .int .i64 p.M.W.e, .bool p.M.C.s, .slice p.M.C.A p.M.C.n p.M.C.c, .int .i64 p.M.C.e, .bool p.M.A.s, .slice p.M.A.A p.M.A.n p.M.A.c, .int .i64 p.M.A.e, .bool p.h, .int .i64 p.mn, .int .i64 p.mx, .slice p.A p.n p.c]) rfl (by rfl) (by kernel_rfl) (by kernel_rfl) (by kernel_rfl) (fun _ _ _ h => h) (by assumption) (by rfl) ?y33 ?z34
                 case y33 =>
                  intro w' h1
                  exact run_load_op 31 (.tmp 97) rfl b2 (o2 + i * 16) rfl (cells16 p) _ (hci.out.blk ((h1 b2 (Nat.lt_of_lt_of_le lb2 (Below.size (later j2 (later j4 (later j6 (later jW (later jr (later j18 (later jf (later j28 jq))))))))))).trans (Below.block (later j2 (later j4 (later j6 (later jW (later jr (later j18 (later jf (later j28 jq)))))))) b2 lb2))).range Try.underlying31 rfl (by kernel_rfl)
                 try simp only [Act.put, zp]
                 refine stepK (i := 8) (L := #[zT,zT,zT,zT,zT,zT,zT,zT,zT,zF,zF,zF,zF,zF,zF,zF]) rfl (by rfl) (by kernel_rfl) (by rfl) (fun K hK => ?_)
                 go_simp
                 go_at_call 21
                 refine (SamePart_any v29 q p (PRows.on hRq j30) (PRows.on hri (later j2 (later j4 (later j6 (later jW (later jr (later j18 (later jf (later j28 (later jq j30)))))))))) true e1.out).mono ?_
                 rintro e' v35 ⟨rfl, j36⟩
                 refine hK _ _ ⟨fun _ _ => fun p hp => Below.block (later j30 j36) p hp, ?_⟩
                 clear hK K
                 try simp only [Act.put, zp]
                 refine zE 9 #[zT,zT,zT,zT,zT,zT,zT,zT,zT,zT,zF,zF,zF,zF,zF,zF] ?_ rfl ?hy81 ?rest81
                 case hy81 => intro w; go_simp; (try with_reducible rfl)
                 try simp only [Act.put, zp]
                 refine zE 10 #[zT,zT,zT,zT,zT,zT,zT,zT,zT,zT,zT,zF,zF,zF,zF,zF] ?_ rfl ?hy82 ?rest82
                 case hy82 => intro w; go_simp; (try with_reducible rfl)
                 try simp only [Act.put, zp]
                 refine zE 11 #[zT,zT,zT,zT,zT,zT,zT,zT,zT,zT,zT,zT,zF,zF,zF,zF] ?_ rfl ?hy83 ?rest83
                 case hy83 => intro w; go_simp; (try with_reducible rfl)
                 try simp only [Act.put, zp]
                 refine zE 12 #[zT,zT,zT,zT,zT,zT,zT,zT,zT,zT,zT,zT,zT,zF,zF,zF] ?_ rfl ?hy84 ?rest84
                 case hy84 => intro w; go_simp; (try with_reducible rfl)
                 try simp only [Act.put, zp]
                 refine stepK (i := 13) (L := #[zT,zT,zT,zT,zT,zT,zT,zT,zT,zT,zT,zT,zT,zT,zF,zF]) rfl (by rfl) (by kernel_rfl) (by rfl) (fun K hK => ?_)
                 go_simp
                 go_at_call 30
                 refine (CheckF_any v35 A9 (n + 1) c9 gs (LFs.on L9 (later j28 (later jq (later j30 j36)))) 0 FZ.out.2.2.2.2.1).mono ?_
                 rintro e' v37 ⟨rfl, j38⟩
                 refine hK _ _ ⟨fun _ _ => fun p hp => Below.block (later j30 (later j36 j38)) p hp, ?_⟩
                 clear hK K
                 try simp only [Act.put, zp]
                 refine zE 14 #[zT,zT,zT,zT,zT,zT,zT,zT,zT,zT,zT,zT,zT,zT,zT,zF] ?_ rfl ?hy86 ?rest86
                 case hy86 => intro w; go_simp; (try with_reducible rfl)
                 try simp only [Act.put, zp]
                 refine zE 15 #[zT,zT,zT,zT,zT,zT,zT,zT,zT,zT,zT,zT,zT,zT,zT,zT] ?_ rfl ?hy87 ?rest87
                 case hy87 => intro w; go_simp; (try with_reducible rfl)
                 try simp only [Act.put, zp]
                 refine doneE (by kernel_rfl) ?_ _
                 go_wp2_with fail
                 go_meet
                 exact ⟨rfl, (later j30 (later j36 j38))⟩
                case rest =>
                 obtain ⟨rfl, jz⟩ := hcut
                 obtain ⟨xz, hwc⟩ : ∃ W : World, W = wc := ⟨_, rfl⟩
                 subst hwc
                 have LN2 := (LFs.on L9 (later j28 (later jq jz)))
                 have jr2 := (later jr (later j18 (later jf (later j28 (later jq jz)))))
                 clear FZ tq e1
                 go_wp2
                 go_roundw
                 case rel => exact ⟨i + 1, n + 1, c9, A9, gs, by first | rfl | (congr 1; omega) | go_num, by first | rfl | (congr 1; omega) | go_num, by omega, by omega, hc9, LN2, jr2, ST2, SG⟩
                 case measure => first | (simp [intOf]; done) | (simp [intOf]; omega)
end Ma
end Go.Proofs.Ytbbnbgllgomolaa
namespace Go.Proofs.Ytbbnbgllgomolaa
open Go.ChangeShapes Go.WideShapes Go.ChangeAt Go.RowKit Go.Joins Go.Deep
section
variable {H : Type} {enc : TypeId × Value → H} {W : World}
set_option maxRecDepth 100000 in
theorem mass_trodP {fuel : Nat} {cs : List Value} {x : DataW H × List MemPlace}
  (h : DataW.trod enc Try.prog W 0 (fun _ => true) true fuel 27 cs = some x) (hfz : ∀ b off, MemPlace.cell b off ∈ x.2 → W.frozen? ⟨b, off, none⟩ = false) (hlt : ∀ q ∈ x.2, q.block < W.heap.size) :
  ∃ m : Ma.Mv, cs = [.bool m.S.s, .slice m.S.A m.S.n m.S.c, .int .i64 m.S.e, .bool m.W.s, .slice m.W.A m.W.n m.W.c, .int .i64 m.W.e, .bool m.C.s, .slice m.C.A m.C.n m.C.c, .int .i64 m.C.e, .bool m.A.s, .slice m.A.A m.A.n m.A.c, .int .i64 m.A.e] ∧
   Ma.MRows W 0 W.heap.size m ∧ ∀ x, x < 4 → (m.get x).n ≤ (m.get x).c := by
 obtain ⟨y0, y1, y2, y3, n, hx, hl, h0, h1, h2, h3⟩ := trod_struct4 Try.underlying27 h
 match cs, hl.trans (show Try.prog.cellsOf 27 = 12 by kernel_rfl) with
 | [c0, c1, c2, c3, c4, c5, c6, c7, c8, c9, c10, c11], _ =>
  have hx2 : x.2 = y0.2 ++ (y1.2 ++ (y2.2 ++ y3.2)) := by rw [hx]
  have hC3 : Try.prog.cellsOf 25 = 3 := by kernel_rfl
  simp only [hC3, List.drop_zero, List.take_succ_cons, List.take_zero, List.drop_succ_cons] at h0 h1 h2 h3
  obtain ⟨d0, rfl, rfl, rfl, e0, r0⟩ := dv_trod Try.underlying25 (by kernel_rfl) Try.underlying4 Try.underlying23 Try.underlying70 (by kernel_rfl) Try.underlying3 h0 (fun b off hm => hfz b off (by simp [hx2, hm])) (fun q hq => hlt q (by simp [hx2, hq]))
  obtain ⟨d1, rfl, rfl, rfl, e1, r1⟩ := dv_trod Try.underlying25 (by kernel_rfl) Try.underlying4 Try.underlying23 Try.underlying70 (by kernel_rfl) Try.underlying3 h1 (fun b off hm => hfz b off (by simp [hx2, hm])) (fun q hq => hlt q (by simp [hx2, hq]))
  obtain ⟨d2, rfl, rfl, rfl, e2, r2⟩ := dv_trod Try.underlying25 (by kernel_rfl) Try.underlying4 Try.underlying23 Try.underlying70 (by kernel_rfl) Try.underlying3 h2 (fun b off hm => hfz b off (by simp [hx2, hm])) (fun q hq => hlt q (by simp [hx2, hq]))
  obtain ⟨d3, rfl, rfl, rfl, e3, r3⟩ := dv_trod Try.underlying25 (by kernel_rfl) Try.underlying4 Try.underlying23 Try.underlying70 (by kernel_rfl) Try.underlying3 h3 (fun b off hm => hfz b off (by simp [hx2, hm])) (fun q hq => hlt q (by simp [hx2, hq]))
  exact ⟨⟨d0, d1, d2, d3⟩, rfl, ⟨r0, r1, r2, r3⟩, Ma.four (p := fun x => (Ma.Mv.get ⟨d0, d1, d2, d3⟩ x).n ≤ (Ma.Mv.get ⟨d0, d1, d2, d3⟩ x).c) e0 e1 e2 e3⟩
set_option maxRecDepth 100000 in
theorem edge_trod {fuel : Nat} {c0 c1 c2 : Value} {x : DataW H × List MemPlace}
  (h : DataW.trod enc Try.prog W 0 (fun _ => true) true fuel 29 [c0, c1, c2] = some x) : ∃ (b : Bool) (p q : Int), c0 = .bool b ∧ c1 = .int .i64 p ∧ c2 = .int .i64 q := by
 obtain ⟨y0, y1, y2, n, hx, _, h0, h1, h2⟩ := trod_struct3 Try.underlying29 h
 have C1 : Try.prog.cellsOf 4 = 1 := by kernel_rfl
 have C2 : Try.prog.cellsOf 3 = 1 := by kernel_rfl
 simp only [C1, C2, List.drop_zero, List.take_succ_cons, List.take_zero, List.drop_succ_cons] at h0 h1 h2
 obtain ⟨s, e0, _⟩ := DataW.trod_bool Try.underlying4 h0
 obtain ⟨z, e1, _, z1⟩ := DataW.trod_int Try.underlying3 h1
 obtain ⟨u, e2, _, z2⟩ := DataW.trod_int Try.underlying3 h2
 injection e0 with e0
 injection e1 with e1
 injection e2 with e2
 exact ⟨s, z, u, e0, e1, e2⟩
set_option maxRecDepth 100000 in
theorem part_trod {fuel : Nat} {cs : List Value} {x : DataW H × List MemPlace}
  (h : DataW.trod enc Try.prog W 0 (fun _ => true) true fuel 31 cs = some x) (hfz : ∀ b off, MemPlace.cell b off ∈ x.2 → W.frozen? ⟨b, off, none⟩ = false) (hlt : ∀ q ∈ x.2, q.block < W.heap.size) :
  ∃ p : Ma.Pv, cs = [.bool p.M.S.s, .slice p.M.S.A p.M.S.n p.M.S.c, .int .i64 p.M.S.e, .bool p.M.W.s, .slice p.M.W.A p.M.W.n p.M.W.c, .int .i64 p.M.W.e, .bool p.M.C.s, .slice p.M.C.A p.M.C.n p.M.C.c, .int .i64 p.M.C.e, .bool p.M.A.s, .slice p.M.A.A p.M.A.n p.M.A.c, .int .i64 p.M.A.e, .bool p.h, .int .i64 p.mn, .int .i64 p.mx, .slice p.A p.n p.c] ∧ Ma.PRows W 0 W.heap.size p ∧ ∀ x, x < 4 → (p.M.get x).n ≤ (p.M.get x).c := by
 obtain ⟨y0, y1, y2, n, hx, hl, h0, h1, h2⟩ := trod_struct3 Try.underlying31 h
 match cs, hl.trans (show Try.prog.cellsOf 31 = 16 by kernel_rfl) with
 | [c0, c1, c2, c3, c4, c5, c6, c7, c8, c9, c10, c11, c12, c13, c14, c15], _ =>
  have hx2 : x.2 = y0.2 ++ (y1.2 ++ y2.2) := by rw [hx]
  have C1 : Try.prog.cellsOf 27 = 12 := by kernel_rfl
  have C2 : Try.prog.cellsOf 29 = 3 := by kernel_rfl
  have C3 : Try.prog.cellsOf 23 = 1 := by kernel_rfl
  simp only [C1, C2, C3, List.drop_zero, List.take_succ_cons, List.take_zero, List.drop_succ_cons] at h0 h1 h2
  obtain ⟨m, em, rm, cm⟩ := mass_trodP h0 (fun b off hm => hfz b off (by simp [hx2, hm])) (fun q hq => hlt q (by simp [hx2, hq]))
  obtain ⟨b, z, u, rfl, rfl, rfl⟩ := edge_trod h1
  obtain ⟨A, n', c, xs, rfl, _, hI⟩ := ints_trod Try.underlying23 Try.underlying70 (by kernel_rfl) h2 (fun b off hm => hfz b off (by simp [hx2, hm])) (fun q hq => hlt q (by simp [hx2, hq]))
  simp only [List.cons.injEq, and_true] at em
  obtain ⟨rfl, rfl, rfl, rfl, rfl, rfl, rfl, rfl, rfl, rfl, rfl, rfl⟩ := em
  exact ⟨⟨m, b, z, u, A, n', c, xs⟩, rfl, ⟨rm, hI⟩, cm⟩
instance : Inhabited Ma.Fv := ⟨⟨0, ⟨⟨⟨false, none, 0, 0, 0, []⟩, ⟨false, none, 0, 0, 0, []⟩, ⟨false, none, 0, 0, 0, []⟩, ⟨false, none, 0, 0, 0, []⟩⟩, false, 0, 0, none, 0, 0, []⟩⟩⟩
set_option maxRecDepth 100000 in
theorem frozen_trod {fuel : Nat} {cs : List Value} {x : DataW H × List MemPlace}
  (h : DataW.trod enc Try.prog W 0 (fun _ => true) true fuel 68 cs = some x) (hfz : ∀ b off, MemPlace.cell b off ∈ x.2 → W.frozen? ⟨b, off, none⟩ = false) (hlt : ∀ q ∈ x.2, q.block < W.heap.size) :
  ∃ f : Ma.Fv, cs = Ma.cells17 f ∧ Ma.PRows W 0 W.heap.size f.P ∧ ∀ x, x < 4 → (f.P.M.get x).n ≤ (f.P.M.get x).c := by
 obtain ⟨y0, y1, n, hx, hl, h0, h1⟩ := trod_struct2 Try.underlying68 h
 match cs, hl.trans (show Try.prog.cellsOf 68 = 17 by kernel_rfl) with
 | [c0, c1, c2, c3, c4, c5, c6, c7, c8, c9, c10, c11, c12, c13, c14, c15, c16], _ =>
  have hx2 : x.2 = y0.2 ++ y1.2 := by rw [hx]
  have C1 : Try.prog.cellsOf 3 = 1 := by kernel_rfl
  have C2 : Try.prog.cellsOf 31 = 16 := by kernel_rfl
  simp only [C1, C2, List.drop_zero, List.take_succ_cons, List.take_zero, List.drop_succ_cons] at h0 h1
  obtain ⟨z, e1, _, z1⟩ := DataW.trod_int Try.underlying3 h0
  injection e1 with e1
  obtain ⟨p, ep, hR, hcp⟩ := part_trod h1 (fun b off hm => hfz b off (by simp [hx2, hm])) (fun q hq => hlt q (by simp [hx2, hq]))
  refine ⟨⟨z, p⟩, ?_, hR, hcp⟩
  rw [e1, ep]
  rfl
set_option maxRecDepth 100000 in
/-- A list of frozen parts among the arguments. -/
theorem frozens_openC {r : Reach} {b0 : Nat} {v : Value} {d : DataW H} {p : List MemPlace}
  (hval : Value.okWide Try.prog W r b0 22 v) (h : DataW.Trod enc Try.prog W 0 (fun _ => true) true 22 v d p) (hfz : ∀ b off, MemPlace.cell b off ∈ p → W.frozen? ⟨b, off, none⟩ = false) (hlt : ∀ q ∈ p, q.block < W.heap.size) :
  ∃ A n c fs, v = .slice A n c ∧ n ≤ c ∧ c ≤ maxLen ∧ Ma.LFs W 0 W.heap.size A n fs ∧ ∀ f ∈ fs, ∀ x, x < 4 → (f.P.M.get x).n ≤ (f.P.M.get x).c := by
 obtain ⟨A, n, c, rfl⟩ := okWide_slice Try.underlying22 hval
 obtain ⟨fuel, hf⟩ := h
 simp only [Value.cells] at hf
 generalize hx0 : (d, p) = x at hf
 have hp : p = x.2 := by rw [← hx0]
 rw [hp] at hfz hlt
 rcases open_slice Try.underlying22 hf with ⟨hcs, _⟩ | ⟨a, len, cap, m, k, D, Pl, hcs, _, hl, hm, hmm, hx, hi⟩
 · injection hcs with hcs
   exact ⟨none, 0, 0, [], hcs, Nat.le_refl _, by unfold maxLen; omega, ⟨rfl, by decide, fun h0 => absurd h0 (Nat.lt_irrefl 0), fun j hj => absurd hj (Nat.not_lt_zero _)⟩, fun _ h => absurd h (by simp)⟩
 · injection hcs with hcs
   simp only [if_true] at hmm
   subst hmm
   have hC : Try.prog.cellsOf 68 = 17 := by kernel_rfl
   have hx2 : x.2 = MemPlace.row a (m * 17) ++ (List.range m).flatMap Pl := by rw [hx, hC]
   have hmem : ∀ i, i < m → ∀ q ∈ Pl i, q ∈ x.2 := fun i hi' q hq => by
    rw [hx2]
    exact List.mem_append_right _ (List.mem_flatMap.2 ⟨i, List.mem_range.2 hi', hq⟩)
   have hV : ∀ i, i < m → ∃ q : Ma.Fv, (∀ k, k < 17 → W.cell? ((a.add (i * 17)).add k) = (Ma.cells17 q)[k]?) ∧ Ma.PRows W 0 W.heap.size q.P ∧ ∀ x, x < 4 → (q.P.M.get x).n ≤ (q.P.M.get x).c := fun i hi' => by
    obtain ⟨cs', h1, h2⟩ := hi i hi'
    rw [hC] at h1
    obtain ⟨_, _, hcell⟩ := World.cells?_some h1
    obtain ⟨q, e, hq, hcq⟩ := frozen_trod h2 (fun b off hm => hfz b off (hmem i hi' _ hm)) (fun q hq => hlt q (hmem i hi' q hq))
    subst e
    exact ⟨q, hcell, hq, hcq⟩
   obtain ⟨q, hq⟩ := choose_lt hV
   refine ⟨some a, len, m, (List.range len).map q, hcs, hl, hm, ⟨by simp, by unfold maxLen at hm; omega, fun h0 => ?_, fun j hj => ?_⟩, fun f hf => ?_⟩
   · obtain ⟨b, off, spot⟩ := a
     have hspot : spot = none := by
      have k := (hq 0 (by omega)).1 0 (by decide)
      have k2 := World.cell?_spot k
      simpa [Addr.add] using k2
     subst hspot
     have hb : b < W.heap.size := hlt _ (by
      rw [hx2]
      exact List.mem_append_left _ (MemPlace.mem_row.2 ⟨0, by omega, rfl⟩) : MemPlace.cell b (off + 0) ∈ x.2)
     refine ⟨b, off, rfl, Nat.zero_le _, hb, fun j hj => ?_⟩
     have hj' : j < len := by simpa using hj
     have e : ((List.range len).map q)[j] = q j := by simp
     rw [e]
     have g := (hq j (by omega)).1
     simp only [add_plain] at g
     exact Ma.fcells_of g
   · have e : ((List.range len).map q)[j] = q j := by simp
     rw [e]
     have hj' : j < len := by simpa using hj
     exact (hq j (by omega)).2.1
   · obtain ⟨j, hj, rfl⟩ := List.mem_map.1 hf
     have hj' : j < len := List.mem_range.1 hj
     exact (hq j (by omega)).2.2
end
end Go.Proofs.Ytbbnbgllgomolaa