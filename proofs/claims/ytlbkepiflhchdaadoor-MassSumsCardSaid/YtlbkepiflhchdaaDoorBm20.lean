/- RegionE: ways that meet: what stands behind so many operations is said once. No program in sight. -/
/- Laws for MassTells: walks (printed by a program of mine). -/
/- mean.pair, mean.middle: walks (printed by a program of mine). -/
/- mean.middle: walks (printed by a program of mine). -/
import Derived.Test.YtlbkepiflhchdaaDoorBm13
import Derived.Test.YtlbkepiflhchdaaDoorBm19
import Derived.Test.YtlbkepiflhchdaaDoorBm09
namespace Go.Proofs.YtlbkepiflhchdaaDoor
open Go.RowKit
section
variable {P : Program} {os : List Oper} {Q : Exit → Act → World → Prop} {md : Region.Mode} {S : World → Prop} {E : List Nat} {B : Array Bool → Act → World → Prop}
/-- As wpAnyE; behind n operations B stands. -/
def wpAnyG (B : Array Bool → Act → World → Prop) (P : Program) (md : Region.Mode) (ops : Array Oper) (Q : Exit → Act → World → Prop) (S : World → Prop) (E : List Nat) : Nat → Array Bool → Act → World → Prop
  | 0, L, a, w => B L a w
  | n + 1, L, a, w => (Region.ready md ops L = [] → Q .normal a w) ∧ ∀ i ∈ Region.ready md ops L, wpOp P ops Q i (fun a' w' => (E.contains i = false → S w → S w') ∧ wpAnyG B P md ops Q S E n (L.setIfInBounds i true) a' w') a w
theorem E_of_G' {ops : Array Oper} (m : Nat) (h : ∀ L a w, B L a w → wpAnyE P md ops Q S E m L a w) : ∀ (n : Nat) (L : Array Bool) (a : Act) (w : World), wpAnyG B P md ops Q S E n L a w → wpAnyE P md ops Q S E (n + m) L a w
  | 0, L, a, w, hg => by
    rw [Nat.zero_add]
    exact h L a w hg
  | n + 1, L, a, w, hg => by
    rw [Nat.add_right_comm]
    exact ⟨hg.1, fun i hi => wpOp_mono (fun a' w' h' => ⟨h'.1, E_of_G' m h n _ a' w' h'.2⟩) (hg.2 i hi)⟩
theorem E_of_G {ops : Array Oper} (n m : Nat) (B : Act → Array Bool → Act → World → Prop) {k : Nat} (hk : n + m = k) {L : Array Bool} {a : Act} {w : World} (hg : wpAnyG (B a) P md ops Q S E n L a w) (h : ∀ L' a' w', B a L' a' w' → wpAnyE P md ops Q S E m L' a' w') : wpAnyE P md ops Q S E k L a w := by
  subst hk
  exact E_of_G' m h n L a w hg
/-- The same, what follows under a name. -/
theorem stepG {i n : Nat} {oi : Oper} {listed L : Array Bool} {a : Act} {w : World} (hi : os[i]? = some oi) (hL : listed.setIfInBounds i true = L)
    (hr : Region.ready md os.toArray listed = [i]) (hw : Region.wanted oi (yielded os.toArray a.tmps) = true)
    (h : ∀ K' : Act → World → Prop, Shut (∀ a w', ((E.contains i = false → S w → S w') ∧ wpAnyG B P md os.toArray Q S E n L a w') → K' a w') → Oper.wp P oi a w K' Q) :
    wpAnyG B P md os.toArray Q S E (n + 1) listed a w := by
  subst hL
  refine ⟨fun h0 => (by rw [hr] at h0; cases h0), fun j hj => ?_⟩
  rw [hr] at hj
  obtain rfl := List.mem_singleton.1 hj
  refine wpOp_step (by simpa using hi) (fun K' hK => ?_)
  rw [if_pos hw]
  exact h K' hK
/-- Two may come up: whichever. -/
theorem stepG2 {i j n : Nat} {oi oj : Oper} {listed Li Lj : Array Bool} {a : Act} {w : World} (hi : os[i]? = some oi) (hj : os[j]? = some oj) (hLi : listed.setIfInBounds i true = Li) (hLj : listed.setIfInBounds j true = Lj)
    (hr : Region.ready md os.toArray listed = [i, j]) (hwi : Region.wanted oi (yielded os.toArray a.tmps) = true) (hwj : Region.wanted oj (yielded os.toArray a.tmps) = true)
    (h : ∀ K' : Act → World → Prop, Shut (∀ a w', ((E.contains i = false → S w → S w') ∧ wpAnyG B P md os.toArray Q S E n Li a w') → K' a w') → Oper.wp P oi a w K' Q)
    (h' : ∀ K' : Act → World → Prop, Shut (∀ a w', ((E.contains j = false → S w → S w') ∧ wpAnyG B P md os.toArray Q S E n Lj a w') → K' a w') → Oper.wp P oj a w K' Q) :
    wpAnyG B P md os.toArray Q S E (n + 1) listed a w := by
  subst hLi
  subst hLj
  refine ⟨fun h0 => (by rw [hr] at h0; cases h0), fun m hm => ?_⟩
  rw [hr] at hm
  simp only [List.mem_cons, List.not_mem_nil, or_false] at hm
  rcases hm with rfl | rfl
  · refine wpOp_step (by simpa using hi) (fun K' hK => ?_)
    rw [if_pos hwi]
    exact h K' hK
  · refine wpOp_step (by simpa using hj) (fun K' hK => ?_)
    rw [if_pos hwj]
    exact h' K' hK
/-- Three may come up: whichever. -/
theorem stepG3 {i j k n : Nat} {oi oj ok : Oper} {listed Li Lj Lk : Array Bool} {a : Act} {w : World} (hi : os[i]? = some oi) (hj : os[j]? = some oj) (hk : os[k]? = some ok) (hLi : listed.setIfInBounds i true = Li) (hLj : listed.setIfInBounds j true = Lj) (hLk : listed.setIfInBounds k true = Lk)
    (hr : Region.ready md os.toArray listed = [i, j, k]) (hwi : Region.wanted oi (yielded os.toArray a.tmps) = true) (hwj : Region.wanted oj (yielded os.toArray a.tmps) = true) (hwk : Region.wanted ok (yielded os.toArray a.tmps) = true)
    (h : ∀ K' : Act → World → Prop, Shut (∀ a w', ((E.contains i = false → S w → S w') ∧ wpAnyG B P md os.toArray Q S E n Li a w') → K' a w') → Oper.wp P oi a w K' Q)
    (h' : ∀ K' : Act → World → Prop, Shut (∀ a w', ((E.contains j = false → S w → S w') ∧ wpAnyG B P md os.toArray Q S E n Lj a w') → K' a w') → Oper.wp P oj a w K' Q)
    (h'' : ∀ K' : Act → World → Prop, Shut (∀ a w', ((E.contains k = false → S w → S w') ∧ wpAnyG B P md os.toArray Q S E n Lk a w') → K' a w') → Oper.wp P ok a w K' Q) :
    wpAnyG B P md os.toArray Q S E (n + 1) listed a w := by
  subst hLi
  subst hLj
  subst hLk
  refine ⟨fun h0 => (by rw [hr] at h0; cases h0), fun m hm => ?_⟩
  rw [hr] at hm
  simp only [List.mem_cons, List.not_mem_nil, or_false] at hm
  rcases hm with rfl | rfl | rfl
  · refine wpOp_step (by simpa using hi) (fun K' hK => ?_)
    rw [if_pos hwi]
    exact h K' hK
  · refine wpOp_step (by simpa using hj) (fun K' hK => ?_)
    rw [if_pos hwj]
    exact h' K' hK
  · refine wpOp_step (by simpa using hk) (fun K' hK => ?_)
    rw [if_pos hwk]
    exact h'' K' hK
end
end Go.Proofs.YtlbkepiflhchdaaDoor

namespace Go.Proofs.YtlbkepiflhchdaaDoor
open Go.RowKit
namespace Ma
open Dp Dy
theorem rows_spoilt {w w' : World} {lo hi l h : Nat} {m : Mv} (hI : MRows w l h m) (hb : Below lo w w') (hf : From hi w w') (hs : h ≤ w.heap.size) (hd : h ≤ lo ∨ hi ≤ l) : MRows w' l h m :=
  ⟨ints_spoilt hI.S hb hf hs hd, ints_spoilt hI.W hb hf hs hd, ints_spoilt hI.C hb hf hs hd, ints_spoilt hI.A hb hf hs hd⟩
/-- The rows lie in neither of two blocks. -/
def RowsOff (_w : World) (g g' : Nat) (m : Mv) : Prop := ∀ x, x < 4 → 0 < (m.get x).n → ∀ b off, (m.get x).A = some ⟨b, off, none⟩ → b ≠ g ∧ b ≠ g'
theorem rows_or {w : World} {lo hi g g' : Nat} {m : Mv} (h : MRows w lo hi m) (h1 : g < lo ∨ hi ≤ g) (h2 : g' < lo ∨ hi ≤ g') : RowsOff w g g' m := fun x _ h0 b off e => by
  obtain ⟨b', off', e', k1, k2, _⟩ := (h.get x).row h0
  rw [e] at e'
  injection e' with e'
  injection e' with e1 _ _
  subst e1
  exact ⟨by omega, by omega⟩
theorem ints_off {w w' : World} {lo hi g g' j : Nat} {d : Dv} (h : Ints w lo hi .u32 d.A d.n d.xs) (ho : 0 < d.n → ∀ b off, d.A = some ⟨b, off, none⟩ → b ≠ g ∧ b ≠ g') (hf : ∀ k, k ≠ j → w'.heap[k]? = w.heap[k]?) (hj : j = g ∨ j = g') : Ints w' lo hi .u32 d.A d.n d.xs :=
  ⟨h.len, h.wf, h.big, fun h0 => by
    obtain ⟨b, off, e, h1, h2, hc⟩ := h.row h0
    obtain ⟨n1, n2⟩ := ho h0 b off e
    have h3 := hf b (by rcases hj with rfl | rfl; exact n1; exact n2)
    exact ⟨b, off, e, h1, h2, fun i hi => ⟨by rw [World.cell?_of_block h3]; exact (hc i hi).1, by rw [World.frozen?_of_block h3]; exact (hc i hi).2⟩⟩⟩
theorem RowsOff.far {w w' : World} {g g' lo hi j : Nat} {m : Mv} (ho : RowsOff w g g' m) (h : MRows w lo hi m) (hf : ∀ k, k ≠ j → w'.heap[k]? = w.heap[k]?) (hj : j = g ∨ j = g') : MRows w' lo hi m :=
  ⟨ints_off h.S (ho 0 (by decide)) hf hj, ints_off h.W (ho 1 (by decide)) hf hj, ints_off h.C (ho 2 (by decide)) hf hj, ints_off h.A (ho 3 (by decide)) hf hj⟩
theorem RowsOff.on {w w' : World} {g g' j : Nat} {m : Mv} (ho : RowsOff w g g' m) (_hf : ∀ k, k ≠ j → w'.heap[k]? = w.heap[k]?) (_hj : j = g ∨ j = g') : RowsOff w' g g' m := ho
theorem amid_spoilt {w0 w w' : World} {lo : Nat} (h : Amid w0 w) (hb : Below lo w w') (h0 : w0.heap.size ≤ lo) (h1 : 0 < lo) : Amid w0 w' := ⟨h.below.trans (hb.mono h0), h.tab.below hb h1⟩
/-- Rows in a range of blocks that are there. -/
structure RB (w : World) (lo hi : Nat) (m : Mv) : Prop where
  rows : MRows w lo hi m
  le : hi ≤ w.heap.size
theorem RB.on {w w' : World} {lo hi : Nat} {m : Mv} (h : RB w lo hi m) (hb : Below w.heap.size w w') : RB w' lo hi m := ⟨h.rows.below hb h.le, Nat.le_trans h.le hb.size⟩
theorem RB.all {w : World} {lo hi : Nat} {m : Mv} (h : RB w lo hi m) : MRows w 0 w.heap.size m := h.rows.more (Nat.zero_le _) h.le
theorem RB.spoilt {w w' : World} {lo hi l k : Nat} {m : Mv} (h : RB w l k m) (hb : Below lo w w') (hf : From hi w w') (hd : k ≤ lo ∨ hi ≤ l) : RB w' l k m := ⟨rows_spoilt h.rows hb hf h.le hd, Nat.le_trans h.le hb.size⟩
theorem isM_n {w : World} {lo hi : Nat} {R : Nat → Dn} {m : Mv} (hR : MRows w lo hi m) (h : IsM R m) (hr : MayR R) : ∀ x, x < 4 → (m.get x).n ≤ 1000000 := fun x hx => by
  have h1 := (hR.get x).len
  have h2 : (m.get x).xs.length ≤ 40 := ((h x hx).may (hr x hx)).1.1
  omega
theorem twin_all {a u : Mv} (h : ∀ x, x < 4 → TwinV (a.get x) (u.get x)) (j : Nat) : TwinV (a.get j) (u.get j) := by
  have e : ∀ (m : Mv) (k : Nat), m.get (k + 4) = m.get 3 := fun _ _ => rfl
  by_cases hj : j < 4
  · exact h j hj
  · obtain ⟨k, rfl⟩ : ∃ k, j = k + 4 := ⟨j - 4, by omega⟩
    rw [e, e]
    exact h 3 (by decide)
theorem twin_may {a u : Mv} (h : ∀ x, x < 4 → TwinV (a.get x) (u.get x)) : u.may ↔ a.may := by
  have k : ∀ x, x < 4 → ((u.get x).may ↔ (a.get x).may) := fun x hx => by
    obtain ⟨h1, _, h3, h4, _⟩ := h x hx
    unfold Dv.may
    rw [h1, h3, h4]
  exact ⟨fun m x hx => (k x hx).1 (m x hx), fun m x hx => (k x hx).2 (m x hx)⟩
theorem twin_add {a b u v : Mv} (h : ∀ x, x < 4 → TwinV (a.get x) (u.get x)) (h' : ∀ x, x < 4 → TwinV (b.get x) (v.get x)) : addM u v = addM a b := by
  have e : ∀ j, xAdd u v j = xAdd a b j := fun j => by
    obtain ⟨h1, _, h3, h4, _⟩ := twin_all h j
    obtain ⟨k1, _, k3, k4, _⟩ := twin_all h' j
    unfold xAdd
    rw [h1, h3, h4, k1, k3, k4]
  have ef : xAdd u v = xAdd a b := funext e
  unfold addM
  rw [ef]
  by_cases hm : a.may ∧ b.may
  · rw [if_pos hm, if_pos (show u.may ∧ v.may from ⟨(twin_may h).2 hm.1, (twin_may h').2 hm.2⟩)]
  · rw [if_neg hm, if_neg (show ¬ (u.may ∧ v.may) from fun k => hm ⟨(twin_may h).1 k.1, (twin_may h').1 k.2⟩)]
theorem twin_sub {a b u v : Mv} (h : ∀ x, x < 4 → TwinV (a.get x) (u.get x)) (h' : ∀ x, x < 4 → TwinV (b.get x) (v.get x)) : subM u v = subM a b := by
  have e : ∀ j, xSub u v j = xSub a b j := fun j => by
    obtain ⟨h1, _, h3, h4, _⟩ := twin_all h j
    obtain ⟨k1, _, k3, k4, _⟩ := twin_all h' j
    unfold xSub
    rw [h1, h3, h4, k1, k3, k4]
  have ef : xSub u v = xSub a b := funext e
  unfold subM
  rw [ef]
  by_cases hm : a.may ∧ b.may
  · rw [if_pos hm, if_pos (show u.may ∧ v.may from ⟨(twin_may h).2 hm.1, (twin_may h').2 hm.2⟩)]
  · rw [if_neg hm, if_neg (show ¬ (u.may ∧ v.may) from fun k => hm ⟨(twin_may h).1 k.1, (twin_may h').1 k.2⟩)]
theorem twin_split {a u : Mv} (h : ∀ x, x < 4 → TwinV (a.get x) (u.get x)) : splitM u = splitM a := by
  obtain ⟨h1, _, h3, h4, _⟩ := h 0 (by decide)
  obtain ⟨k1, _, k3, k4, _⟩ := h 1 (by decide)
  have e : dnM u = dnM a := by
    funext j
    obtain ⟨g1, _, g3, g4, _⟩ := twin_all h j
    unfold dnM
    rw [g1, g3, g4]
  have s1 : u.S.s = a.S.s := h1
  have s3 : u.S.e = a.S.e := h3
  have s4 : u.S.xs = a.S.xs := h4
  have w1 : u.W.s = a.W.s := k1
  have w3 : u.W.e = a.W.e := k3
  have w4 : u.W.xs = a.W.xs := k4
  unfold splitM
  rw [s1, s3, s4, w1, w3, w4, e]
  by_cases hm : a.may
  · rw [if_pos hm, if_pos ((twin_may h).2 hm)]
  · rw [if_neg hm, if_neg fun k => hm ((twin_may h).1 k)]
theorem twin_chk {a u : Mv} (h : ∀ x, x < 4 → TwinV (a.get x) (u.get x)) : chkM u = chkM a := by
  by_cases hm : a.may
  · rw [chk_may hm, chk_may ((twin_may h).2 hm)]
  · rw [chk_not hm, chk_not fun k => hm ((twin_may h).1 k)]
theorem twin_sameV {d d' e e' : Dv} (h : TwinV d d') (h' : TwinV e e') : sameV d' e' = sameV d e := by
  unfold sameV
  rw [h.1, h.2.2.1, h.2.2.2.1, h'.1, h'.2.2.1, h'.2.2.2.1]
theorem twin_sameM {a b u v : Mv} (h : ∀ x, x < 4 → TwinV (a.get x) (u.get x)) (h' : ∀ x, x < 4 → TwinV (b.get x) (v.get x)) : sameM u v = sameM a b := by
  have k0 : sameV u.S v.S = sameV a.S b.S := twin_sameV (h 0 (by decide)) (h' 0 (by decide))
  have k1 : sameV u.W v.W = sameV a.W b.W := twin_sameV (h 1 (by decide)) (h' 1 (by decide))
  have k2 : sameV u.C v.C = sameV a.C b.C := twin_sameV (h 2 (by decide)) (h' 2 (by decide))
  have k3 : sameV u.A v.A = sameV a.A b.A := twin_sameV (h 3 (by decide)) (h' 3 (by decide))
  unfold sameM
  rw [k0, k1, k2, k3]
theorem sameM_refl (a : Mv) : sameM a a = true := by
  unfold sameM sameV
  simp [Pa.Dy.same_refl]
theorem twin_refl_n {a u : Mv} (h : ∀ x, x < 4 → TwinV (a.get x) (u.get x)) {k : Nat} (hn : ∀ x, x < 4 → (a.get x).n ≤ k) : ∀ x, x < 4 → (u.get x).n ≤ k := fun x hx => by rw [(h x hx).2.1]; exact hn x hx
theorem twin_twin {a u t : Mv} (h : ∀ x, x < 4 → TwinV (a.get x) (u.get x)) (h' : ∀ x, x < 4 → TwinV (u.get x) (t.get x)) : ∀ x, x < 4 → TwinV (a.get x) (t.get x) := fun x hx =>
  ⟨(h' x hx).1.trans (h x hx).1, (h' x hx).2.1.trans (h x hx).2.1, (h' x hx).2.2.1.trans (h x hx).2.2.1, (h' x hx).2.2.2.1.trans (h x hx).2.2.2.1, (h' x hx).2.2.2.2⟩
theorem twin_same {a u : Mv} (h : ∀ x, x < 4 → TwinV (a.get x) (u.get x)) : sameM u a = true := by
  unfold sameM
  have k : ∀ x, x < 4 → sameV (u.get x) (a.get x) = true := fun x hx => by
    unfold sameV
    rw [(h x hx).1, (h x hx).2.2.1, (h x hx).2.2.2.1]
    exact Pa.Dy.same_refl _
  have k0 := k 0 (by decide)
  have k1 := k 1 (by decide)
  have k2 := k 2 (by decide)
  have k3 := k 3 (by decide)
  simp only [Mv.get] at k0 k1 k2 k3
  rw [k0, k1, k2, k3]
  rfl
end Ma
end Go.Proofs.YtlbkepiflhchdaaDoor

namespace Go.Proofs.YtlbkepiflhchdaaDoor
open Go.RowKit
namespace Ma
open Dp Dy
set_option maxHeartbeats 3200000 in
set_option maxRecDepth 100000 in
theorem pair_any (w : World) (g : Nat) :
    Calls Tryd.prog 78 #[.pointer (some ⟨g, 0, none⟩)] w fun e w' => e = .returned (.agg #[.pointer (some ⟨g, 6, none⟩), .pointer (some ⟨g, 9, none⟩)]) ∧ Below w.heap.size w w' := by
  generalize hw : w.alloc (.cells #[.pointer none, .pointer none] 102) = w1
  have X1 : w1.heap[w.heap.size]? = some (.cells #[.pointer none, .pointer none] 102 (0, 0)) := by rw [← hw]; exact heap_alloc_last _ _
  have hb : Below w.heap.size w w1 := by rw [← hw]; exact (Below.refl _ w).alloc (Nat.le_refl _) _
  have l1 : w.heap.size < w1.heap.size := by rw [← hw]; simp
  go_enter Tryd.func78, Tryd.ntmps78
  go_wp2_with fail
  try clear hw
  refine region_E (Keeps w1) [7] (m := 8) (L := #[false, false, false, false, false, false, false, false]) (by kernel_rfl) (by rfl) (by rfl) ?_
  have kp_ : Keeps w1 w1.drew := fun _ _ => rfl
  have hb2 : Below w.heap.size w w1.drew := hb.drew
  have X2 : w1.drew.heap[w.heap.size]? = some (.cells #[.pointer none, .pointer none] 102 (0, 0)) := X1
  generalize w1.drew = w2 at *
  refine pureE (i := 0) (L := #[true, false, false, false, false, false, false, false]) (v := ?_) rfl (by rfl) (by kernel_rfl) (by kernel_rfl) (by kernel_rfl) (fun _ _ _ h => h) (by rfl) ?hy1 ?rest1
  case hy1 => intro w; go_simp; (try with_reducible rfl)
  try simp only [Act.put, List.setIfInBounds_toArray, List.set_cons_zero, List.set_cons_succ]
  refine pureE (i := 1) (L := #[true, true, false, false, false, false, false, false]) (v := ?_) rfl (by rfl) (by kernel_rfl) (by kernel_rfl) (by kernel_rfl) (fun _ _ _ h => h) (by rfl) ?hy2 ?rest2
  case hy2 => intro w; go_simp; (try with_reducible rfl)
  try simp only [Act.put, List.setIfInBounds_toArray, List.set_cons_zero, List.set_cons_succ]
  refine pureE (i := 2) (L := #[true, true, true, false, false, false, false, false]) (v := ?_) rfl (by rfl) (by kernel_rfl) (by kernel_rfl) (by kernel_rfl) (fun _ _ _ h => h) (by rfl) ?hy3 ?rest3
  case hy3 => intro w; go_simp; (try with_reducible rfl)
  try simp only [Act.put, List.setIfInBounds_toArray, List.set_cons_zero, List.set_cons_succ]
  refine pureE (i := 3) (L := #[true, true, true, true, false, false, false, false]) (v := ?_) rfl (by rfl) (by kernel_rfl) (by kernel_rfl) (by kernel_rfl) (fun _ _ _ h => h) (by rfl) ?hy4 ?rest4
  case hy4 => intro w; go_simp; (try with_reducible rfl)
  try simp only [Act.put, List.setIfInBounds_toArray, List.set_cons_zero, List.set_cons_succ]
  refine pureE (i := 4) (L := #[true, true, true, true, true, false, false, false]) (v := ?_) rfl (by rfl) (by kernel_rfl) (by kernel_rfl) (by kernel_rfl) (fun _ _ _ h => h) (by rfl) ?hy5 ?rest5
  case hy5 => intro w; go_simp; (try with_reducible rfl)
  try simp only [Act.put, List.setIfInBounds_toArray, List.set_cons_zero, List.set_cons_succ]
  refine pureE (i := 5) (L := #[true, true, true, true, true, true, false, false]) (v := ?_) rfl (by rfl) (by kernel_rfl) (by kernel_rfl) (by kernel_rfl) (fun _ _ _ h => h) (by rfl) ?hy6 ?rest6
  case hy6 => intro w; go_simp; (try with_reducible rfl)
  try simp only [Act.put, List.setIfInBounds_toArray, List.set_cons_zero, List.set_cons_succ]
  refine pureE (i := 6) (L := #[true, true, true, true, true, true, true, false]) (v := ?_) rfl (by rfl) (by kernel_rfl) (by kernel_rfl) (by kernel_rfl) (fun _ _ _ h => h) (by rfl) ?hy7 ?rest7
  case hy7 => intro w; go_simp; (try with_reducible rfl)
  try simp only [Act.put, List.setIfInBounds_toArray, List.set_cons_zero, List.set_cons_succ]
  have c0 := cell_of_row w2 w.heap.size 0 _ _ _ X2
  have c1 := cell_of_row w2 w.heap.size 1 _ _ _ X2
  have f0 := frozen_of_row w2 w.heap.size 0 _ _ X2
  have f1 := frozen_of_row w2 w.heap.size 1 _ _ X2
  refine stepK (i := 7) (L := #[true, true, true, true, true, true, true, true]) rfl (by rfl) (by kernel_rfl) (by rfl) (fun K hK => ?_)
  go_simp
  refine hK _ _ ⟨fun h => absurd h (by decide), ?_⟩
  clear hK K c0 c1 f0 f1
  try simp only [Act.put, List.setIfInBounds_toArray, List.set_cons_zero, List.set_cons_succ]
  have X3 : ((w2.setCell ⟨w.heap.size, 0, none⟩ (.pointer (some ⟨g, 6, none⟩))).setCell ⟨w.heap.size, 1, none⟩ (.pointer (some ⟨g, 9, none⟩))).heap[w.heap.size]? = some (.cells #[.pointer (some ⟨g, 6, none⟩), .pointer (some ⟨g, 9, none⟩)] 102 (0, 0)) := by
    simp [World.setCell, Array.getElem?_modify, X2]
  have hb3 : Below w.heap.size w ((w2.setCell ⟨w.heap.size, 0, none⟩ (.pointer (some ⟨g, 6, none⟩))).setCell ⟨w.heap.size, 1, none⟩ (.pointer (some ⟨g, 9, none⟩))) := (hb2.setCell (Nat.le_refl _) _).setCell (Nat.le_refl _) _
  generalize ((w2.setCell ⟨w.heap.size, 0, none⟩ (.pointer (some ⟨g, 6, none⟩))).setCell ⟨w.heap.size, 1, none⟩ (.pointer (some ⟨g, 9, none⟩))) = U at *
  refine doneE (by kernel_rfl) ?_ _
  go_wp2
  have c0 := cell_of_row U w.heap.size 0 _ _ _ X3
  have c1 := cell_of_row U w.heap.size 1 _ _ _ X3
  exact bodyPost_ret (v := .agg #[.pointer (some ⟨g, 6, none⟩), .pointer (some ⟨g, 9, none⟩)]) (by simp [results, Tryd.results78, go_sem, c0, c1]) rfl ⟨rfl, hb3⟩
/-- The middle, and what lacks. -/
def midD (a b : Dn) : (Dn × Dn) × Int :=
  if (addD a b).2 = 0 ∧ (halfD (addD a b).1).2 = 0 ∧ (subD (halfD (addD a b).1).1 a).2 = 0 then (((halfD (addD a b).1).1, (subD (halfD (addD a b).1).1 a).1), 0) else ((Dn.zero, Dn.zero), 10)
end Ma
end Go.Proofs.YtlbkepiflhchdaaDoor

namespace Go.Proofs.YtlbkepiflhchdaaDoor
open Go.RowKit
namespace Ma
open Dp Dy
theorem add_two {A B s : Dn} {q : Int} (h : addD A B = (s, q)) : q = 0 ∨ q = 10 := by
  rcases add_cases A B with k | k
  · rw [h] at k
    exact .inl k
  · rw [h] at k
    injection k with _ k
    exact .inr k
theorem half_two' {A s : Dn} {q : Int} (h : halfD A = (s, q)) : q = 0 ∨ q = 10 := by
  rcases half_cases A with k | k
  · rw [h] at k
    exact .inl k
  · rw [h] at k
    injection k with _ k
    exact .inr k
theorem sub_two {A B s : Dn} {q : Int} (h : subD A B = (s, q)) : q = 0 ∨ q = 10 := by
  rcases sub_cases A B with k | k
  · rw [h] at k
    exact .inl k
  · rw [h] at k
    injection k with _ k
    exact .inr k
set_option maxHeartbeats 12800000 in
set_option maxRecDepth 100000 in
theorem middle_any (w : World) (a b : Dv) (hA : Ints w 0 w.heap.size .u32 a.A a.n a.xs) (hB : Ints w 0 w.heap.size .u32 b.A b.n b.xs) (hT : Tab w) (A B : Dn) (ia : Is A a) (ib : Is B b) (ma : A.May) (mb : B.May) (r d : Dn) (code : Int) (hr : midD A B = ((r, d), code)) :
    Calls Tryd.prog 80 #[.agg #[.bool a.s, .slice a.A a.n a.c, .int .i64 a.e], .agg #[.bool b.s, .slice b.A b.n b.c, .int .i64 b.e]] w fun e w' => ∃ M D : Dv, e = .returned (.tuple #[.agg #[.bool M.s, .slice M.A M.n M.c, .int .i64 M.e], .agg #[.bool D.s, .slice D.A D.n D.c, .int .i64 D.e], .int .i64 code]) ∧ Below w.heap.size w w' ∧ Is r M ∧ Is d D ∧ Ints w' w.heap.size w'.heap.size .u32 M.A M.n M.xs ∧ Ints w' w.heap.size w'.heap.size .u32 D.A D.n D.xs := by
  obtain ⟨s1, q1, h1⟩ : ∃ s q, addD A B = (s, q) := ⟨_, _, rfl⟩
  obtain ⟨s2, q2, h2⟩ : ∃ s q, halfD s1 = (s, q) := ⟨_, _, rfl⟩
  obtain ⟨s3, q3, h3⟩ : ∃ s q, subD s2 A = (s, q) := ⟨_, _, rfl⟩
  have m1 : s1.May := by have := add_may A B; rw [h1] at this; exact this
  have m2 : s2.May := by have := half_may s1; rw [h2] at this; exact this
  have x1 : addX a.s a.xs a.e b.s b.xs b.e = (s1, q1) := (ia.add ib ma mb).trans h1
  have x2 : halfX s1.neg (canon 4294967296 s1.m) s1.e = (s2, q2) := (Is.half (d := ⟨s1.neg, none, 0, 0, s1.e, canon 4294967296 s1.m⟩) ⟨rfl, rfl, rfl⟩ m1).trans h2
  have x3 : subX s2.neg (canon 4294967296 s2.m) s2.e a.s a.xs a.e = (s3, q3) := (Is.sub (d := ⟨s2.neg, none, 0, 0, s2.e, canon 4294967296 s2.m⟩) ⟨rfl, rfl, rfl⟩ ia m2 ma).trans h3
  have X1 := Lib.hid x1
  have X2 := Lib.hid x2
  have X3 := Lib.hid x3
  have c1 := Lib.hid (add_two h1)
  have c2 := Lib.hid (half_two' h2)
  have c3 := Lib.hid (sub_two h3)
  have hmid : midD A B = if q1 = 0 ∧ q2 = 0 ∧ q3 = 0 then ((s2, s3), 0) else ((Dn.zero, Dn.zero), 10) := by
    unfold midD
    rw [h1, h2, h3]
  rw [hmid] at hr
  have HR := Lib.hid hr
  clear h1 h2 h3 x1 x2 x3 hmid hr
  generalize hw : (((w.alloc (.cells #[.bool a.s, .slice a.A a.n a.c, .int .i64 a.e] 24)).alloc (.cells #[.bool b.s, .slice b.A b.n b.c, .int .i64 b.e] 24)).alloc (.cells #[.bool false, .slice none 0 0, .int .i64 0] 24)).alloc (.cells #[.bool false, .slice none 0 0, .int .i64 0] 24) = w1
  obtain ⟨⟨Y1, Y2, Z1, Z2⟩, hb, lo1, hi1⟩ := boxes4 w _ _ _ _ hw
  have tT := hT.below hb hT.lt
  have g0 := hT.lt
  have Ia := hA.below hb (Nat.le_refl _)
  have Ib := hB.below hb (Nat.le_refl _)
  go_enter Tryd.func80, Tryd.ntmps80
  go_wp2_with fail
  apply wp_scope_jumps 0 (fun a' w' => ∃ u7 u8 u9 u10 u11 u12 u13 u14 u15 u16 u17 u18 u19 u20 u21 u22 u23 u24 u25 u26 u27 u28 u29 u30 u31 u32 u33 u34 : Value, a' = { tmps := #[.agg #[.bool a.s, .slice a.A a.n a.c, .int .i64 a.e], .agg #[.bool b.s, .slice b.A b.n b.c, .int .i64 b.e], .pointer (some ⟨w.heap.size, 0, none⟩), .pointer (some ⟨w.heap.size + 1, 0, none⟩), .pointer (some ⟨w.heap.size + 1 + 1, 0, none⟩), .pointer (some ⟨w.heap.size + 1 + 1 + 1, 0, none⟩), .int .i64 10, u7, u8, u9, u10, u11, u12, u13, u14, u15, u16, u17, u18, u19, u20, u21, u22, u23, u24, u25, u26, u27, u28, u29, u30, u31, u32, u33, u34], defers := [] } ∧ (∃ x y z, w'.heap[w.heap.size + 1 + 1]? = some (.cells #[x, y, z] 24 (0, 0))) ∧ (∃ x y z, w'.heap[w.heap.size + 1 + 1 + 1]? = some (.cells #[x, y, z] 24 (0, 0))) ∧ Below w.heap.size w w' ∧ (q1 = 10 ∨ q2 = 10 ∨ q3 = 10)) (fun _ _ => 0) rfl
  · obtain ⟨⟨p0, p1, p2⟩, p3, p4, p5⟩ := boxD Y1
    obtain ⟨⟨o0, o1, o2⟩, o3, o4, o5⟩ := boxD Y2
    go_wp2_with fail
    try clear hw
    refine (Add_all w1 a.s b.s a.A b.A a.n a.c b.n b.c a.xs b.xs a.e b.e (Ia.more (Nat.le_refl _) (by omega)) (Ib.more (Nat.le_refl _) (by omega)) tT s1 q1 X1.out).mono ?_
    rintro e w2 ⟨A1, n1, d1, rfl, hc1, hB, I1⟩
    clear p0 p1 p2 p3 p4 p5 o0 o1 o2 o3 o4 o5
    have lw2 : w1.heap.size ≤ w2.heap.size := hB.size
    replace Y1 := (hB.block _ (by omega)).trans Y1
    replace Z1 := (hB.block _ (by omega)).trans Z1
    replace Z2 := (hB.block _ (by omega)).trans Z2
    replace Ia := Ints.below Ia hB (by omega)
    replace hb := hb.trans (hB.mono (by omega))
    replace tT := tT.below hB tT.lt
    clear hB
    obtain ⟨⟨z0, z1, z2⟩, z3, z4, z5⟩ := boxD Z1
    obtain ⟨⟨z0, z1, z2⟩, z3, z4, z5⟩ := boxD Z1
    rcases c1.out with rfl | rfl
    rotate_left
    · go_wp2_with fail
      clear z0 z1 z2 z3 z4 z5
      have Z1_ := box_put Z1 (.bool s1.neg) (.slice A1 n1 d1) (.int .i64 s1.e)
      have hb_ := below_put hb (g := w.heap.size + 1 + 1) (by omega) (.bool s1.neg) (.slice A1 n1 d1) (.int .i64 s1.e)
      have hs_ := size_put (w := w2) (g := w.heap.size + 1 + 1) (.bool s1.neg) (.slice A1 n1 d1) (.int .i64 s1.e)
      have hf_ : ∀ k, k ≠ w.heap.size + 1 + 1 → (((w2.setCell ⟨w.heap.size + 1 + 1, 0, none⟩ (.bool s1.neg)).setCell ⟨w.heap.size + 1 + 1, 1, none⟩ (.slice A1 n1 d1)).setCell ⟨w.heap.size + 1 + 1, 2, none⟩ (.int .i64 s1.e)).heap[k]? = w2.heap[k]? := fun k hk => box_far (Ne.symm hk) _ _ _
      generalize ((w2.setCell ⟨w.heap.size + 1 + 1, 0, none⟩ (.bool s1.neg)).setCell ⟨w.heap.size + 1 + 1, 1, none⟩ (.slice A1 n1 d1)).setCell ⟨w.heap.size + 1 + 1, 2, none⟩ (.int .i64 s1.e) = w3 at *
      have lw3 : w2.heap.size ≤ w3.heap.size := Nat.le_of_eq hs_.symm
      have l2w3 : w3.heap.size ≤ w2.heap.size := Nat.le_of_eq hs_
      clear hs_ Z1
      have Z1 := Z1_
      replace hb := hb_
      clear Z1_ hb_
      replace tT := tT.keep (hf_ 0 (by omega))
      replace Y1 := (hf_ _ (by omega)).trans Y1
      replace Z2 := (hf_ _ (by omega)).trans Z2
      clear hf_
      refine wp_goto ?_
      simp only [Exit.then]
      try show Exit.jump _ _ _ _ _ _
      simp only [Exit.jump]
      skip
      exact ⟨trivial, _, _, _, _, _, _, _, _, _, _, _, _, _, _, _, _, _, _, _, _, _, _, _, _, _, _, _, _, rfl, ⟨_, _, _, Z1⟩, ⟨_, _, _, Z2⟩, hb, (by simp)⟩
    · skip
      have k1_ := box_put Z1 (.bool s1.neg) (.slice A1 n1 d1) (.int .i64 s1.e)
      obtain ⟨⟨m0, m1_, m2_⟩, m3, m4, m5⟩ := boxD k1_
      go_wp2_with fail
      clear m0 m1_ m2_ m3 m4 m5 k1_
      clear z0 z1 z2 z3 z4 z5
      have Z1_ := box_put Z1 (.bool s1.neg) (.slice A1 n1 d1) (.int .i64 s1.e)
      have hb_ := below_put hb (g := w.heap.size + 1 + 1) (by omega) (.bool s1.neg) (.slice A1 n1 d1) (.int .i64 s1.e)
      have hs_ := size_put (w := w2) (g := w.heap.size + 1 + 1) (.bool s1.neg) (.slice A1 n1 d1) (.int .i64 s1.e)
      have hf_ : ∀ k, k ≠ w.heap.size + 1 + 1 → (((w2.setCell ⟨w.heap.size + 1 + 1, 0, none⟩ (.bool s1.neg)).setCell ⟨w.heap.size + 1 + 1, 1, none⟩ (.slice A1 n1 d1)).setCell ⟨w.heap.size + 1 + 1, 2, none⟩ (.int .i64 s1.e)).heap[k]? = w2.heap[k]? := fun k hk => box_far (Ne.symm hk) _ _ _
      generalize ((w2.setCell ⟨w.heap.size + 1 + 1, 0, none⟩ (.bool s1.neg)).setCell ⟨w.heap.size + 1 + 1, 1, none⟩ (.slice A1 n1 d1)).setCell ⟨w.heap.size + 1 + 1, 2, none⟩ (.int .i64 s1.e) = w3 at *
      have lw3 : w2.heap.size ≤ w3.heap.size := Nat.le_of_eq hs_.symm
      have l2w3 : w3.heap.size ≤ w2.heap.size := Nat.le_of_eq hs_
      clear hs_ Z1
      have Z1 := Z1_
      replace hb := hb_
      clear Z1_ hb_
      replace tT := tT.keep (hf_ 0 (by omega))
      replace Y1 := (hf_ _ (by omega)).trans Y1
      replace Z2 := (hf_ _ (by omega)).trans Z2
      replace I1 := ints_rng I1 (w' := w3) (fun b h1 h2 => hf_ b (by omega))
      replace Ia := ints_rng Ia (w' := w3) (fun b h1 h2 => hf_ b (by omega))
      clear hf_
      refine (Half_all w3 s1.neg A1 n1 d1 (canon 4294967296 s1.m) s1.e (I1.more (Nat.zero_le _) (by omega)) tT s2 q2 X2.out).mono ?_
      rintro e w4 ⟨A2, n2, d2, rfl, hc2, hB, I2⟩
      clear I1
      have lw4 : w3.heap.size ≤ w4.heap.size := hB.size
      replace Y1 := (hB.block _ (by omega)).trans Y1
      replace Z1 := (hB.block _ (by omega)).trans Z1
      replace Z2 := (hB.block _ (by omega)).trans Z2
      replace Ia := Ints.below Ia hB (by omega)
      replace hb := hb.trans (hB.mono (by omega))
      replace tT := tT.below hB tT.lt
      clear hB
      obtain ⟨⟨z0, z1, z2⟩, z3, z4, z5⟩ := boxD Z1
      rcases c2.out with rfl | rfl
      rotate_left
      · go_wp2_with fail
        clear z0 z1 z2 z3 z4 z5
        have Z1_ := box_put Z1 (.bool s2.neg) (.slice A2 n2 d2) (.int .i64 s2.e)
        have hb_ := below_put hb (g := w.heap.size + 1 + 1) (by omega) (.bool s2.neg) (.slice A2 n2 d2) (.int .i64 s2.e)
        have hs_ := size_put (w := w4) (g := w.heap.size + 1 + 1) (.bool s2.neg) (.slice A2 n2 d2) (.int .i64 s2.e)
        have hf_ : ∀ k, k ≠ w.heap.size + 1 + 1 → (((w4.setCell ⟨w.heap.size + 1 + 1, 0, none⟩ (.bool s2.neg)).setCell ⟨w.heap.size + 1 + 1, 1, none⟩ (.slice A2 n2 d2)).setCell ⟨w.heap.size + 1 + 1, 2, none⟩ (.int .i64 s2.e)).heap[k]? = w4.heap[k]? := fun k hk => box_far (Ne.symm hk) _ _ _
        generalize ((w4.setCell ⟨w.heap.size + 1 + 1, 0, none⟩ (.bool s2.neg)).setCell ⟨w.heap.size + 1 + 1, 1, none⟩ (.slice A2 n2 d2)).setCell ⟨w.heap.size + 1 + 1, 2, none⟩ (.int .i64 s2.e) = w5 at *
        have lw5 : w4.heap.size ≤ w5.heap.size := Nat.le_of_eq hs_.symm
        have l2w5 : w5.heap.size ≤ w4.heap.size := Nat.le_of_eq hs_
        clear hs_ Z1
        have Z1 := Z1_
        replace hb := hb_
        clear Z1_ hb_
        replace tT := tT.keep (hf_ 0 (by omega))
        replace Y1 := (hf_ _ (by omega)).trans Y1
        replace Z2 := (hf_ _ (by omega)).trans Z2
        clear hf_
        refine wp_goto ?_
        simp only [Exit.then]
        try show Exit.jump _ _ _ _ _ _
        simp only [Exit.jump]
        skip
        exact ⟨trivial, _, _, _, _, _, _, _, _, _, _, _, _, _, _, _, _, _, _, _, _, _, _, _, _, _, _, _, _, rfl, ⟨_, _, _, Z1⟩, ⟨_, _, _, Z2⟩, hb, (by simp)⟩
      · skip
        have k1_ := box_put Z1 (.bool s2.neg) (.slice A2 n2 d2) (.int .i64 s2.e)
        obtain ⟨⟨m0, m1_, m2_⟩, m3, m4, m5⟩ := boxD k1_
        have ky_ := (box_far (w := w4) (g := w.heap.size + 1 + 1) (g' := w.heap.size) (by omega) (.bool s2.neg) (.slice A2 n2 d2) (.int .i64 s2.e)).trans Y1
        obtain ⟨⟨y0, y1_, y2_⟩, y3, y4, y5⟩ := boxD ky_
        go_wp2_with fail
        clear m0 m1_ m2_ m3 m4 m5 k1_ y0 y1_ y2_ y3 y4 y5 ky_
        clear z0 z1 z2 z3 z4 z5
        have Z1_ := box_put Z1 (.bool s2.neg) (.slice A2 n2 d2) (.int .i64 s2.e)
        have hb_ := below_put hb (g := w.heap.size + 1 + 1) (by omega) (.bool s2.neg) (.slice A2 n2 d2) (.int .i64 s2.e)
        have hs_ := size_put (w := w4) (g := w.heap.size + 1 + 1) (.bool s2.neg) (.slice A2 n2 d2) (.int .i64 s2.e)
        have hf_ : ∀ k, k ≠ w.heap.size + 1 + 1 → (((w4.setCell ⟨w.heap.size + 1 + 1, 0, none⟩ (.bool s2.neg)).setCell ⟨w.heap.size + 1 + 1, 1, none⟩ (.slice A2 n2 d2)).setCell ⟨w.heap.size + 1 + 1, 2, none⟩ (.int .i64 s2.e)).heap[k]? = w4.heap[k]? := fun k hk => box_far (Ne.symm hk) _ _ _
        generalize ((w4.setCell ⟨w.heap.size + 1 + 1, 0, none⟩ (.bool s2.neg)).setCell ⟨w.heap.size + 1 + 1, 1, none⟩ (.slice A2 n2 d2)).setCell ⟨w.heap.size + 1 + 1, 2, none⟩ (.int .i64 s2.e) = w5 at *
        have lw5 : w4.heap.size ≤ w5.heap.size := Nat.le_of_eq hs_.symm
        have l2w5 : w5.heap.size ≤ w4.heap.size := Nat.le_of_eq hs_
        clear hs_ Z1
        have Z1 := Z1_
        replace hb := hb_
        clear Z1_ hb_
        replace tT := tT.keep (hf_ 0 (by omega))
        replace Y1 := (hf_ _ (by omega)).trans Y1
        replace Z2 := (hf_ _ (by omega)).trans Z2
        replace I2 := ints_rng I2 (w' := w5) (fun b h1 h2 => hf_ b (by omega))
        replace Ia := ints_rng Ia (w' := w5) (fun b h1 h2 => hf_ b (by omega))
        clear hf_
        refine (Sub_all w5 s2.neg a.s A2 a.A n2 d2 a.n a.c (canon 4294967296 s2.m) a.xs s2.e a.e (I2.more (Nat.zero_le _) (by omega)) (Ia.more (Nat.zero_le _) (by omega)) tT s3 q3 X3.out).mono ?_
        rintro e w6 ⟨A3, n3, d3, rfl, hc3, hB, I3⟩
        have lw6 : w5.heap.size ≤ w6.heap.size := hB.size
        replace Y1 := (hB.block _ (by omega)).trans Y1
        replace Z1 := (hB.block _ (by omega)).trans Z1
        replace Z2 := (hB.block _ (by omega)).trans Z2
        replace I2 := Ints.below I2 hB (by omega)
        replace hb := hb.trans (hB.mono (by omega))
        replace tT := tT.below hB tT.lt
        clear hB
        obtain ⟨⟨z0, z1, z2⟩, z3, z4, z5⟩ := boxD Z2
        rcases c3.out with rfl | rfl
        rotate_left
        · go_wp2_with fail
          clear z0 z1 z2 z3 z4 z5
          have Z2_ := box_put Z2 (.bool s3.neg) (.slice A3 n3 d3) (.int .i64 s3.e)
          have hb_ := below_put hb (g := w.heap.size + 1 + 1 + 1) (by omega) (.bool s3.neg) (.slice A3 n3 d3) (.int .i64 s3.e)
          have hs_ := size_put (w := w6) (g := w.heap.size + 1 + 1 + 1) (.bool s3.neg) (.slice A3 n3 d3) (.int .i64 s3.e)
          have hf_ : ∀ k, k ≠ w.heap.size + 1 + 1 + 1 → (((w6.setCell ⟨w.heap.size + 1 + 1 + 1, 0, none⟩ (.bool s3.neg)).setCell ⟨w.heap.size + 1 + 1 + 1, 1, none⟩ (.slice A3 n3 d3)).setCell ⟨w.heap.size + 1 + 1 + 1, 2, none⟩ (.int .i64 s3.e)).heap[k]? = w6.heap[k]? := fun k hk => box_far (Ne.symm hk) _ _ _
          generalize ((w6.setCell ⟨w.heap.size + 1 + 1 + 1, 0, none⟩ (.bool s3.neg)).setCell ⟨w.heap.size + 1 + 1 + 1, 1, none⟩ (.slice A3 n3 d3)).setCell ⟨w.heap.size + 1 + 1 + 1, 2, none⟩ (.int .i64 s3.e) = w7 at *
          have lw7 : w6.heap.size ≤ w7.heap.size := Nat.le_of_eq hs_.symm
          have l2w7 : w7.heap.size ≤ w6.heap.size := Nat.le_of_eq hs_
          clear hs_ Z2
          have Z2 := Z2_
          replace hb := hb_
          clear Z2_ hb_
          replace tT := tT.keep (hf_ 0 (by omega))
          replace Y1 := (hf_ _ (by omega)).trans Y1
          replace Z1 := (hf_ _ (by omega)).trans Z1
          clear hf_
          refine wp_goto ?_
          simp only [Exit.then]
          try show Exit.jump _ _ _ _ _ _
          simp only [Exit.jump]
          skip
          exact ⟨trivial, _, _, _, _, _, _, _, _, _, _, _, _, _, _, _, _, _, _, _, _, _, _, _, _, _, _, _, _, rfl, ⟨_, _, _, Z1⟩, ⟨_, _, _, Z2⟩, hb, (by simp)⟩
        · skip
          go_wp2_with fail
          clear z0 z1 z2 z3 z4 z5
          have Z2_ := box_put Z2 (.bool s3.neg) (.slice A3 n3 d3) (.int .i64 s3.e)
          have hb_ := below_put hb (g := w.heap.size + 1 + 1 + 1) (by omega) (.bool s3.neg) (.slice A3 n3 d3) (.int .i64 s3.e)
          have hs_ := size_put (w := w6) (g := w.heap.size + 1 + 1 + 1) (.bool s3.neg) (.slice A3 n3 d3) (.int .i64 s3.e)
          have hf_ : ∀ k, k ≠ w.heap.size + 1 + 1 + 1 → (((w6.setCell ⟨w.heap.size + 1 + 1 + 1, 0, none⟩ (.bool s3.neg)).setCell ⟨w.heap.size + 1 + 1 + 1, 1, none⟩ (.slice A3 n3 d3)).setCell ⟨w.heap.size + 1 + 1 + 1, 2, none⟩ (.int .i64 s3.e)).heap[k]? = w6.heap[k]? := fun k hk => box_far (Ne.symm hk) _ _ _
          generalize ((w6.setCell ⟨w.heap.size + 1 + 1 + 1, 0, none⟩ (.bool s3.neg)).setCell ⟨w.heap.size + 1 + 1 + 1, 1, none⟩ (.slice A3 n3 d3)).setCell ⟨w.heap.size + 1 + 1 + 1, 2, none⟩ (.int .i64 s3.e) = w7 at *
          have lw7 : w6.heap.size ≤ w7.heap.size := Nat.le_of_eq hs_.symm
          have l2w7 : w7.heap.size ≤ w6.heap.size := Nat.le_of_eq hs_
          clear hs_ Z2
          have Z2 := Z2_
          replace hb := hb_
          clear Z2_ hb_
          replace tT := tT.keep (hf_ 0 (by omega))
          replace Y1 := (hf_ _ (by omega)).trans Y1
          replace Z1 := (hf_ _ (by omega)).trans Z1
          replace I2 := ints_rng I2 (w' := w7) (fun b h1 h2 => hf_ b (by omega))
          replace I3 := ints_rng I3 (w' := w7) (fun b h1 h2 => hf_ b (by omega))
          clear hf_
          refine region_E (fun W' : World => W'.heap[w.heap.size + 1 + 1]? = some (.cells #[.bool s2.neg, .slice A2 n2 d2, .int .i64 s2.e] 24 (0, 0)) ∧ W'.heap[w.heap.size + 1 + 1 + 1]? = some (.cells #[.bool s3.neg, .slice A3 n3 d3, .int .i64 s3.e] 24 (0, 0))) [] (m := 5) (L := #[false, false, false, false, false]) (by kernel_rfl) (by rfl) (by rfl) ?_
          have hS0 : w7.drew.heap[w.heap.size + 1 + 1]? = some (.cells #[.bool s2.neg, .slice A2 n2 d2, .int .i64 s2.e] 24 (0, 0)) ∧ w7.drew.heap[w.heap.size + 1 + 1 + 1]? = some (.cells #[.bool s3.neg, .slice A3 n3 d3, .int .i64 s3.e] 24 (0, 0)) := ⟨Z1, Z2⟩
          refine readE (i := 0) (L := #[true, false, false, false, false]) (v := .agg #[.bool s2.neg, .slice A2 n2 d2, .int .i64 s2.e]) rfl (by rfl) (by kernel_rfl) (by kernel_rfl) (by kernel_rfl) (fun _ _ _ h => h) (by assumption) (by rfl) ?yr0 ?zr0
          case yr0 =>
            intro w' h1
            obtain ⟨⟨e0, e1, e2⟩, _⟩ := boxD h1.1
            go_simp
          try simp only [Act.put, List.setIfInBounds_toArray, List.set_cons_zero, List.set_cons_succ]
          refine readE (i := 1) (L := #[true, true, false, false, false]) (v := .agg #[.bool s3.neg, .slice A3 n3 d3, .int .i64 s3.e]) rfl (by rfl) (by kernel_rfl) (by kernel_rfl) (by kernel_rfl) (fun _ _ _ h => h) (by assumption) (by rfl) ?yr1 ?zr1
          case yr1 =>
            intro w' h1
            obtain ⟨⟨e0, e1, e2⟩, _⟩ := boxD h1.2
            go_simp
          try simp only [Act.put, List.setIfInBounds_toArray, List.set_cons_zero, List.set_cons_succ]
          have hb8 : Below w.heap.size w w7.drew := hb.drew
          replace I2 : Ints w7.drew w3.heap.size w4.heap.size .u32 A2 n2 (canon 4294967296 s2.m) := Ints.drewN I2 1
          replace I3 : Ints w7.drew w5.heap.size w6.heap.size .u32 A3 n3 (canon 4294967296 s3.m) := Ints.drewN I3 1
          have l8 : w7.heap.size ≤ w7.drew.heap.size := Nat.le_refl _
          clear Z1 Z2 hb Y1 tT Ia
          generalize w7.drew = w8 at *
          obtain ⟨⟨z0, z1, z2⟩, z3, z4, z5⟩ := boxD hS0.1
          refine stepK (i := 2) (L := #[true, true, true, false, false]) rfl (by rfl) (by kernel_rfl) (by rfl) (fun K hK => ?_)
          go_simp
          refine hK _ _ ⟨fun _ h => ⟨box_put h.1 _ _ _, (box_far (by omega) _ _ _).trans h.2⟩, ?_⟩
          clear hK K
          clear z0 z1 z2 z3 z4 z5
          try simp only [Act.put, List.setIfInBounds_toArray, List.set_cons_zero, List.set_cons_succ]
          have hS9 : (((w8.setCell ⟨w.heap.size + 1 + 1, 0, none⟩ (.bool s2.neg)).setCell ⟨w.heap.size + 1 + 1, 1, none⟩ (.slice A2 n2 d2)).setCell ⟨w.heap.size + 1 + 1, 2, none⟩ (.int .i64 s2.e)).heap[w.heap.size + 1 + 1]? = some (.cells #[.bool s2.neg, .slice A2 n2 d2, .int .i64 s2.e] 24 (0, 0)) ∧ (((w8.setCell ⟨w.heap.size + 1 + 1, 0, none⟩ (.bool s2.neg)).setCell ⟨w.heap.size + 1 + 1, 1, none⟩ (.slice A2 n2 d2)).setCell ⟨w.heap.size + 1 + 1, 2, none⟩ (.int .i64 s2.e)).heap[w.heap.size + 1 + 1 + 1]? = some (.cells #[.bool s3.neg, .slice A3 n3 d3, .int .i64 s3.e] 24 (0, 0)) := ⟨box_put hS0.1 _ _ _, (box_far (by omega) _ _ _).trans hS0.2⟩
          have hb9 := below_put hb8 (g := w.heap.size + 1 + 1) (by omega) (.bool s2.neg) (.slice A2 n2 d2) (.int .i64 s2.e)
          have hs9 := size_put (w := w8) (g := w.heap.size + 1 + 1) (.bool s2.neg) (.slice A2 n2 d2) (.int .i64 s2.e)
          replace I2 := ints_put I2 (g := w.heap.size + 1 + 1) (.inl (by omega)) (.bool s2.neg) (.slice A2 n2 d2) (.int .i64 s2.e)
          replace I3 := ints_put I3 (g := w.heap.size + 1 + 1) (.inl (by omega)) (.bool s2.neg) (.slice A2 n2 d2) (.int .i64 s2.e)
          generalize ((w8.setCell ⟨w.heap.size + 1 + 1, 0, none⟩ (.bool s2.neg)).setCell ⟨w.heap.size + 1 + 1, 1, none⟩ (.slice A2 n2 d2)).setCell ⟨w.heap.size + 1 + 1, 2, none⟩ (.int .i64 s2.e) = w9 at *
          have l9 : w8.heap.size ≤ w9.heap.size := Nat.le_of_eq hs9.symm
          clear hs9
          obtain ⟨⟨z0, z1, z2⟩, z3, z4, z5⟩ := boxD hS9.2
          refine stepK (i := 3) (L := #[true, true, true, true, false]) rfl (by rfl) (by kernel_rfl) (by rfl) (fun K hK => ?_)
          go_simp
          refine hK _ _ ⟨fun _ h => ⟨(box_far (by omega) _ _ _).trans h.1, box_put h.2 _ _ _⟩, ?_⟩
          clear hK K
          clear z0 z1 z2 z3 z4 z5
          try simp only [Act.put, List.setIfInBounds_toArray, List.set_cons_zero, List.set_cons_succ]
          have hS10 : (((w9.setCell ⟨w.heap.size + 1 + 1 + 1, 0, none⟩ (.bool s3.neg)).setCell ⟨w.heap.size + 1 + 1 + 1, 1, none⟩ (.slice A3 n3 d3)).setCell ⟨w.heap.size + 1 + 1 + 1, 2, none⟩ (.int .i64 s3.e)).heap[w.heap.size + 1 + 1]? = some (.cells #[.bool s2.neg, .slice A2 n2 d2, .int .i64 s2.e] 24 (0, 0)) ∧ (((w9.setCell ⟨w.heap.size + 1 + 1 + 1, 0, none⟩ (.bool s3.neg)).setCell ⟨w.heap.size + 1 + 1 + 1, 1, none⟩ (.slice A3 n3 d3)).setCell ⟨w.heap.size + 1 + 1 + 1, 2, none⟩ (.int .i64 s3.e)).heap[w.heap.size + 1 + 1 + 1]? = some (.cells #[.bool s3.neg, .slice A3 n3 d3, .int .i64 s3.e] 24 (0, 0)) := ⟨(box_far (by omega) _ _ _).trans hS9.1, box_put hS9.2 _ _ _⟩
          have hb10 := below_put hb9 (g := w.heap.size + 1 + 1 + 1) (by omega) (.bool s3.neg) (.slice A3 n3 d3) (.int .i64 s3.e)
          have hs10 := size_put (w := w9) (g := w.heap.size + 1 + 1 + 1) (.bool s3.neg) (.slice A3 n3 d3) (.int .i64 s3.e)
          replace I2 := ints_put I2 (g := w.heap.size + 1 + 1 + 1) (.inl (by omega)) (.bool s3.neg) (.slice A3 n3 d3) (.int .i64 s3.e)
          replace I3 := ints_put I3 (g := w.heap.size + 1 + 1 + 1) (.inl (by omega)) (.bool s3.neg) (.slice A3 n3 d3) (.int .i64 s3.e)
          generalize ((w9.setCell ⟨w.heap.size + 1 + 1 + 1, 0, none⟩ (.bool s3.neg)).setCell ⟨w.heap.size + 1 + 1 + 1, 1, none⟩ (.slice A3 n3 d3)).setCell ⟨w.heap.size + 1 + 1 + 1, 2, none⟩ (.int .i64 s3.e) = w10 at *
          have l10 : w9.heap.size ≤ w10.heap.size := Nat.le_of_eq hs10.symm
          clear hs10
          refine pureE (i := 4) (L := #[true, true, true, true, true]) (v := ?_) rfl (by rfl) (by kernel_rfl) (by kernel_rfl) (by kernel_rfl) (fun _ _ _ h => h) (by rfl) ?hy13 ?rest13
          case hy13 => intro w; go_simp; (try with_reducible rfl)
          try simp only [Act.put, List.setIfInBounds_toArray, List.set_cons_zero, List.set_cons_succ]
          refine doneE (by kernel_rfl) ?_ _
          go_wp2_with fail
          simp only [Exit.jump]
          obtain ⟨⟨z0, z1, z2⟩, z3, z4, z5⟩ := boxD hS10.1
          obtain ⟨⟨k0, k1, k2⟩, k3, k4, k5⟩ := boxD hS10.2
          have hr := HR.out
          rw [if_pos (by simp)] at hr
          injection hr with h1 h2
          injection h1 with h1 h3
          subst h1 h2 h3
          exact bodyPost_ret (v := .tuple #[.agg #[.bool s2.neg, .slice A2 n2 d2, .int .i64 s2.e], .agg #[.bool s3.neg, .slice A3 n3 d3, .int .i64 s3.e], .int .i64 0]) (by simp [results, Tryd.results80, go_sem, z0, z1, z2, k0, k1, k2]) rfl ⟨⟨s2.neg, A2, n2, d2, s2.e, _⟩, ⟨s3.neg, A3, n3, d3, s3.e, _⟩, rfl, hb10, ⟨rfl, rfl, rfl⟩, ⟨rfl, rfl, rfl⟩, I2.more (by omega) (by omega), I3.more (by omega) (by omega)⟩
  · rintro a' w' ⟨u7, u8, u9, u10, u11, u12, u13, u14, u15, u16, u17, u18, u19, u20, u21, u22, u23, u24, u25, u26, u27, u28, u29, u30, u31, u32, u33, u34, rfl, ⟨x1, y1, v1, hz1⟩, ⟨x2, y2, v2, hz2⟩, hb, hq⟩
    obtain ⟨⟨z0, z1, z2⟩, z3, z4, z5⟩ := boxD hz1
    obtain ⟨⟨o0, o1, o2⟩, o3, o4, o5⟩ := boxD hz2
    go_wp2_with fail
    simp only [Exit.jump]
    have Z1 := box_put hz1 (.bool false) (.slice none 0 0) (.int .i64 0)
    have Z2 := box_put ((box_far (w := w') (g := w.heap.size + 1 + 1) (g' := w.heap.size + 1 + 1 + 1) (by omega) (.bool false) (.slice none 0 0) (.int .i64 0)).trans hz2) (.bool false) (.slice none 0 0) (.int .i64 0)
    have Z3 := (box_far (g := w.heap.size + 1 + 1 + 1) (g' := w.heap.size + 1 + 1) (by omega) (.bool false) (.slice none 0 0) (.int .i64 0)).trans Z1
    have hb2 := below_put (below_put hb (g := w.heap.size + 1 + 1) (by omega) (.bool false) (.slice none 0 0) (.int .i64 0)) (g := w.heap.size + 1 + 1 + 1) (by omega) (.bool false) (.slice none 0 0) (.int .i64 0)
    obtain ⟨⟨k0, k1, k2⟩, k3, k4, k5⟩ := boxD Z3
    obtain ⟨⟨j0, j1, j2⟩, j3, j4, j5⟩ := boxD Z2
    have hr := HR.out
    rw [if_neg (by omega)] at hr
    injection hr with h1 h2
    injection h1 with h1 h3
    subst h1 h2 h3
    exact bodyPost_ret (v := .tuple #[.agg #[.bool false, .slice none 0 0, .int .i64 0], .agg #[.bool false, .slice none 0 0, .int .i64 0], .int .i64 10]) (by simp [results, Tryd.results80, go_sem, k0, k1, k2, j0, j1, j2]) rfl ⟨⟨false, none, 0, 0, 0, []⟩, ⟨false, none, 0, 0, 0, []⟩, rfl, hb2, Is.zero, Is.zero, Ints.nil_ .., Ints.nil_ ..⟩

end Ma
end Go.Proofs.YtlbkepiflhchdaaDoor
