/- RegionE: ways that meet: what stands behind so many operations is said once. No program in sight. -/
/- Laws for MassTells: walks (printed by a program of mine). -/
import Derived.Test.YtlbkepiflhchdaaDoorBn13
import Derived.Test.YtlbkepiflhchdaaDoorBn29
import Derived.Test.YtlbkepiflhchdaaDoorBn30
import Derived.Test.YtlbkepiflhchdaaDoorBn31
import Derived.Test.YtlbkepiflhchdaaDoorBn27
import Derived.Test.YtlbkepiflhchdaaDoorBn09
namespace Go.Proofs.YtlbkepiflhchdaaDoor
open Go.RowKit
section
variable {P : Program} {os : List Oper} {Q : Exit → Act → World → Prop} {md : Region.Mode} {S : World → Prop} {E : List Nat} {B : Array Bool → Act → World → Prop}
/-- As wpAnyE; behind n operations B stands. -/
def wpAnyG (B : Array Bool → Act → World → Prop) (P : Program) (md : Region.Mode) (ops : Array Oper) (Q : Exit → Act → World → Prop) (S : World → Prop) (E : List Nat) : Nat → Array Bool → Act → World → Prop
  | 0, L, a, w => B L a w
  | n + 1, L, a, w => (Region.ready md ops L = [] → Q .normal a w) ∧ ∀ i ∈ Region.ready md ops L, wpOp P ops Q i (fun a' w' => (E.contains i = false → S w → S w') ∧ wpAnyG B P md ops Q S E n (L.setIfInBounds i true) a' w') a w
theorem E_of_G' {ops : Array Oper} (m : Nat) (h : ∀ L a w, B L a w → wpAnyE P md ops Q S E m L a w) : ∀ (n : Nat) (L : Array Bool) (a : Act) (w : World), wpAnyG B P md ops Q S E n L a w → wpAnyE P md ops Q S E (n + m) L a w
  | 0, L, a, w, hg => by
    rw [Nat.zero_add]
    exact h L a w hg
  | n + 1, L, a, w, hg => by
    rw [Nat.add_right_comm]
    exact ⟨hg.1, fun i hi => wpOp_mono (fun a' w' h' => ⟨h'.1, E_of_G' m h n _ a' w' h'.2⟩) (hg.2 i hi)⟩
theorem E_of_G {ops : Array Oper} (n m : Nat) (B : Act → Array Bool → Act → World → Prop) {k : Nat} (hk : n + m = k) {L : Array Bool} {a : Act} {w : World} (hg : wpAnyG (B a) P md ops Q S E n L a w) (h : ∀ L' a' w', B a L' a' w' → wpAnyE P md ops Q S E m L' a' w') : wpAnyE P md ops Q S E k L a w := by
  subst hk
  exact E_of_G' m h n L a w hg
/-- The same, what follows under a name. -/
theorem stepG {i n : Nat} {oi : Oper} {listed L : Array Bool} {a : Act} {w : World} (hi : os[i]? = some oi) (hL : listed.setIfInBounds i true = L)
    (hr : Region.ready md os.toArray listed = [i]) (hw : Region.wanted oi (yielded os.toArray a.tmps) = true)
    (h : ∀ K' : Act → World → Prop, Shut (∀ a w', ((E.contains i = false → S w → S w') ∧ wpAnyG B P md os.toArray Q S E n L a w') → K' a w') → Oper.wp P oi a w K' Q) :
    wpAnyG B P md os.toArray Q S E (n + 1) listed a w := by
  subst hL
  refine ⟨fun h0 => (by rw [hr] at h0; cases h0), fun j hj => ?_⟩
  rw [hr] at hj
  obtain rfl := List.mem_singleton.1 hj
  refine wpOp_step (by simpa using hi) (fun K' hK => ?_)
  rw [if_pos hw]
  exact h K' hK
/-- Two may come up: whichever. -/
theorem stepG2 {i j n : Nat} {oi oj : Oper} {listed Li Lj : Array Bool} {a : Act} {w : World} (hi : os[i]? = some oi) (hj : os[j]? = some oj) (hLi : listed.setIfInBounds i true = Li) (hLj : listed.setIfInBounds j true = Lj)
    (hr : Region.ready md os.toArray listed = [i, j]) (hwi : Region.wanted oi (yielded os.toArray a.tmps) = true) (hwj : Region.wanted oj (yielded os.toArray a.tmps) = true)
    (h : ∀ K' : Act → World → Prop, Shut (∀ a w', ((E.contains i = false → S w → S w') ∧ wpAnyG B P md os.toArray Q S E n Li a w') → K' a w') → Oper.wp P oi a w K' Q)
    (h' : ∀ K' : Act → World → Prop, Shut (∀ a w', ((E.contains j = false → S w → S w') ∧ wpAnyG B P md os.toArray Q S E n Lj a w') → K' a w') → Oper.wp P oj a w K' Q) :
    wpAnyG B P md os.toArray Q S E (n + 1) listed a w := by
  subst hLi
  subst hLj
  refine ⟨fun h0 => (by rw [hr] at h0; cases h0), fun m hm => ?_⟩
  rw [hr] at hm
  simp only [List.mem_cons, List.not_mem_nil, or_false] at hm
  rcases hm with rfl | rfl
  · refine wpOp_step (by simpa using hi) (fun K' hK => ?_)
    rw [if_pos hwi]
    exact h K' hK
  · refine wpOp_step (by simpa using hj) (fun K' hK => ?_)
    rw [if_pos hwj]
    exact h' K' hK
/-- Three may come up: whichever. -/
theorem stepG3 {i j k n : Nat} {oi oj ok : Oper} {listed Li Lj Lk : Array Bool} {a : Act} {w : World} (hi : os[i]? = some oi) (hj : os[j]? = some oj) (hk : os[k]? = some ok) (hLi : listed.setIfInBounds i true = Li) (hLj : listed.setIfInBounds j true = Lj) (hLk : listed.setIfInBounds k true = Lk)
    (hr : Region.ready md os.toArray listed = [i, j, k]) (hwi : Region.wanted oi (yielded os.toArray a.tmps) = true) (hwj : Region.wanted oj (yielded os.toArray a.tmps) = true) (hwk : Region.wanted ok (yielded os.toArray a.tmps) = true)
    (h : ∀ K' : Act → World → Prop, Shut (∀ a w', ((E.contains i = false → S w → S w') ∧ wpAnyG B P md os.toArray Q S E n Li a w') → K' a w') → Oper.wp P oi a w K' Q)
    (h' : ∀ K' : Act → World → Prop, Shut (∀ a w', ((E.contains j = false → S w → S w') ∧ wpAnyG B P md os.toArray Q S E n Lj a w') → K' a w') → Oper.wp P oj a w K' Q)
    (h'' : ∀ K' : Act → World → Prop, Shut (∀ a w', ((E.contains k = false → S w → S w') ∧ wpAnyG B P md os.toArray Q S E n Lk a w') → K' a w') → Oper.wp P ok a w K' Q) :
    wpAnyG B P md os.toArray Q S E (n + 1) listed a w := by
  subst hLi
  subst hLj
  subst hLk
  refine ⟨fun h0 => (by rw [hr] at h0; cases h0), fun m hm => ?_⟩
  rw [hr] at hm
  simp only [List.mem_cons, List.not_mem_nil, or_false] at hm
  rcases hm with rfl | rfl | rfl
  · refine wpOp_step (by simpa using hi) (fun K' hK => ?_)
    rw [if_pos hwi]
    exact h K' hK
  · refine wpOp_step (by simpa using hj) (fun K' hK => ?_)
    rw [if_pos hwj]
    exact h' K' hK
  · refine wpOp_step (by simpa using hk) (fun K' hK => ?_)
    rw [if_pos hwk]
    exact h'' K' hK
end
end Go.Proofs.YtlbkepiflhchdaaDoor

namespace Go.Proofs.YtlbkepiflhchdaaDoor
open Go.RowKit
namespace Ma
open Dp Dy
theorem rows_spoilt {w w' : World} {lo hi l h : Nat} {m : Mv} (hI : MRows w l h m) (hb : Below lo w w') (hf : From hi w w') (hs : h ≤ w.heap.size) (hd : h ≤ lo ∨ hi ≤ l) : MRows w' l h m :=
  ⟨ints_spoilt hI.S hb hf hs hd, ints_spoilt hI.W hb hf hs hd, ints_spoilt hI.C hb hf hs hd, ints_spoilt hI.A hb hf hs hd⟩
theorem two_spoilt {w w' : World} {lo hi l h l' h' : Nat} {m : Mv} (hI : TwoR w l h l' h' m) (hb : Below lo w w') (hf : From hi w w') (hs : h ≤ w.heap.size) (hd : h ≤ lo ∨ hi ≤ l) (hs' : h' ≤ w.heap.size) (hd' : h' ≤ lo ∨ hi ≤ l') : TwoR w' l h l' h' m :=
  fun x hx => (hI x hx).imp (fun k => ints_spoilt k hb hf hs hd) (fun k => ints_spoilt k hb hf hs' hd')
/-- The rows lie in neither of two blocks. -/
def RowsOff (_w : World) (g g' : Nat) (m : Mv) : Prop := ∀ x, x < 4 → 0 < (m.get x).n → ∀ b off, (m.get x).A = some ⟨b, off, none⟩ → b ≠ g ∧ b ≠ g'
theorem rows_or {w : World} {lo hi g g' : Nat} {m : Mv} (h : MRows w lo hi m) (h1 : g < lo ∨ hi ≤ g) (h2 : g' < lo ∨ hi ≤ g') : RowsOff w g g' m := fun x _ h0 b off e => by
  obtain ⟨b', off', e', k1, k2, _⟩ := (h.get x).row h0
  rw [e] at e'
  injection e' with e'
  injection e' with e1 _ _
  subst e1
  exact ⟨by omega, by omega⟩
theorem ints_off {w w' : World} {lo hi g g' j : Nat} {d : Dv} (h : Ints w lo hi .u32 d.A d.n d.xs) (ho : 0 < d.n → ∀ b off, d.A = some ⟨b, off, none⟩ → b ≠ g ∧ b ≠ g') (hf : ∀ k, k ≠ j → w'.heap[k]? = w.heap[k]?) (hj : j = g ∨ j = g') : Ints w' lo hi .u32 d.A d.n d.xs :=
  ⟨h.len, h.wf, h.big, fun h0 => by
    obtain ⟨b, off, e, h1, h2, hc⟩ := h.row h0
    obtain ⟨n1, n2⟩ := ho h0 b off e
    have h3 := hf b (by rcases hj with rfl | rfl; exact n1; exact n2)
    exact ⟨b, off, e, h1, h2, fun i hi => ⟨by rw [World.cell?_of_block h3]; exact (hc i hi).1, by rw [World.frozen?_of_block h3]; exact (hc i hi).2⟩⟩⟩
theorem RowsOff.far {w w' : World} {g g' lo hi j : Nat} {m : Mv} (ho : RowsOff w g g' m) (h : MRows w lo hi m) (hf : ∀ k, k ≠ j → w'.heap[k]? = w.heap[k]?) (hj : j = g ∨ j = g') : MRows w' lo hi m :=
  ⟨ints_off h.S (ho 0 (by decide)) hf hj, ints_off h.W (ho 1 (by decide)) hf hj, ints_off h.C (ho 2 (by decide)) hf hj, ints_off h.A (ho 3 (by decide)) hf hj⟩
theorem RowsOff.on {w w' : World} {g g' j : Nat} {m : Mv} (ho : RowsOff w g g' m) (_hf : ∀ k, k ≠ j → w'.heap[k]? = w.heap[k]?) (_hj : j = g ∨ j = g') : RowsOff w' g g' m := ho
theorem amid_spoilt {w0 w w' : World} {lo : Nat} (h : Amid w0 w) (hb : Below lo w w') (h0 : w0.heap.size ≤ lo) (h1 : 0 < lo) : Amid w0 w' := ⟨h.below.trans (hb.mono h0), h.tab.below hb h1⟩
/-- Rows in a range of blocks that are there. -/
structure RB (w : World) (lo hi : Nat) (m : Mv) : Prop where
  rows : MRows w lo hi m
  le : hi ≤ w.heap.size
theorem RB.on {w w' : World} {lo hi : Nat} {m : Mv} (h : RB w lo hi m) (hb : Below w.heap.size w w') : RB w' lo hi m := ⟨h.rows.below hb h.le, Nat.le_trans h.le hb.size⟩
theorem RB.all {w : World} {lo hi : Nat} {m : Mv} (h : RB w lo hi m) : MRows w 0 w.heap.size m := h.rows.more (Nat.zero_le _) h.le
theorem RB.spoilt {w w' : World} {lo hi l k : Nat} {m : Mv} (h : RB w l k m) (hb : Below lo w w') (hf : From hi w w') (hd : k ≤ lo ∨ hi ≤ l) : RB w' l k m := ⟨rows_spoilt h.rows hb hf h.le hd, Nat.le_trans h.le hb.size⟩
structure TB (w : World) (lo hi lo' hi' : Nat) (m : Mv) : Prop where
  rows : TwoR w lo hi lo' hi' m
  le : hi ≤ w.heap.size
  le' : hi' ≤ w.heap.size
theorem TB.on {w w' : World} {lo hi lo' hi' : Nat} {m : Mv} (h : TB w lo hi lo' hi' m) (hb : Below w.heap.size w w') : TB w' lo hi lo' hi' m := ⟨h.rows.below hb h.le h.le', Nat.le_trans h.le hb.size, Nat.le_trans h.le' hb.size⟩
theorem TB.all {w : World} {lo hi lo' hi' : Nat} {m : Mv} (h : TB w lo hi lo' hi' m) : MRows w 0 w.heap.size m := h.rows.rows h.le h.le'
theorem TB.spoilt {w w' : World} {lo hi l k l' k' : Nat} {m : Mv} (h : TB w l k l' k' m) (hb : Below lo w w') (hf : From hi w w') (hd : k ≤ lo ∨ hi ≤ l) (hd' : k' ≤ lo ∨ hi ≤ l') : TB w' l k l' k' m := ⟨two_spoilt h.rows hb hf h.le hd h.le' hd', Nat.le_trans h.le hb.size, Nat.le_trans h.le' hb.size⟩
theorem isM_n {w : World} {lo hi : Nat} {R : Nat → Dn} {m : Mv} (hR : MRows w lo hi m) (h : IsM R m) (hr : MayR R) : ∀ x, x < 4 → (m.get x).n ≤ 1000000 := fun x hx => by
  have h1 := (hR.get x).len
  have h2 : (m.get x).xs.length ≤ 40 := ((h x hx).may (hr x hx)).1.1
  omega
theorem twin_all {a u : Mv} (h : ∀ x, x < 4 → TwinV (a.get x) (u.get x)) (j : Nat) : TwinV (a.get j) (u.get j) := by
  have e : ∀ (m : Mv) (k : Nat), m.get (k + 4) = m.get 3 := fun _ _ => rfl
  by_cases hj : j < 4
  · exact h j hj
  · obtain ⟨k, rfl⟩ : ∃ k, j = k + 4 := ⟨j - 4, by omega⟩
    rw [e, e]
    exact h 3 (by decide)
theorem twin_may {a u : Mv} (h : ∀ x, x < 4 → TwinV (a.get x) (u.get x)) : u.may ↔ a.may := by
  have k : ∀ x, x < 4 → ((u.get x).may ↔ (a.get x).may) := fun x hx => by
    obtain ⟨h1, _, h3, h4, _⟩ := h x hx
    unfold Dv.may
    rw [h1, h3, h4]
  exact ⟨fun m x hx => (k x hx).1 (m x hx), fun m x hx => (k x hx).2 (m x hx)⟩
theorem twin_add {a b u v : Mv} (h : ∀ x, x < 4 → TwinV (a.get x) (u.get x)) (h' : ∀ x, x < 4 → TwinV (b.get x) (v.get x)) : addM u v = addM a b := by
  have e : ∀ j, xAdd u v j = xAdd a b j := fun j => by
    obtain ⟨h1, _, h3, h4, _⟩ := twin_all h j
    obtain ⟨k1, _, k3, k4, _⟩ := twin_all h' j
    unfold xAdd
    rw [h1, h3, h4, k1, k3, k4]
  have ef : xAdd u v = xAdd a b := funext e
  unfold addM
  rw [ef]
  by_cases hm : a.may ∧ b.may
  · rw [if_pos hm, if_pos (show u.may ∧ v.may from ⟨(twin_may h).2 hm.1, (twin_may h').2 hm.2⟩)]
  · rw [if_neg hm, if_neg (show ¬ (u.may ∧ v.may) from fun k => hm ⟨(twin_may h).1 k.1, (twin_may h').1 k.2⟩)]
theorem twin_sub {a b u v : Mv} (h : ∀ x, x < 4 → TwinV (a.get x) (u.get x)) (h' : ∀ x, x < 4 → TwinV (b.get x) (v.get x)) : subM u v = subM a b := by
  have e : ∀ j, xSub u v j = xSub a b j := fun j => by
    obtain ⟨h1, _, h3, h4, _⟩ := twin_all h j
    obtain ⟨k1, _, k3, k4, _⟩ := twin_all h' j
    unfold xSub
    rw [h1, h3, h4, k1, k3, k4]
  have ef : xSub u v = xSub a b := funext e
  unfold subM
  rw [ef]
  by_cases hm : a.may ∧ b.may
  · rw [if_pos hm, if_pos (show u.may ∧ v.may from ⟨(twin_may h).2 hm.1, (twin_may h').2 hm.2⟩)]
  · rw [if_neg hm, if_neg (show ¬ (u.may ∧ v.may) from fun k => hm ⟨(twin_may h).1 k.1, (twin_may h').1 k.2⟩)]
theorem twin_split {a u : Mv} (h : ∀ x, x < 4 → TwinV (a.get x) (u.get x)) : splitM u = splitM a := by
  obtain ⟨h1, _, h3, h4, _⟩ := h 0 (by decide)
  obtain ⟨k1, _, k3, k4, _⟩ := h 1 (by decide)
  have e : dnM u = dnM a := by
    funext j
    obtain ⟨g1, _, g3, g4, _⟩ := twin_all h j
    unfold dnM
    rw [g1, g3, g4]
  have s1 : u.S.s = a.S.s := h1
  have s3 : u.S.e = a.S.e := h3
  have s4 : u.S.xs = a.S.xs := h4
  have w1 : u.W.s = a.W.s := k1
  have w3 : u.W.e = a.W.e := k3
  have w4 : u.W.xs = a.W.xs := k4
  unfold splitM
  rw [s1, s3, s4, w1, w3, w4, e]
  by_cases hm : a.may
  · rw [if_pos hm, if_pos ((twin_may h).2 hm)]
  · rw [if_neg hm, if_neg fun k => hm ((twin_may h).1 k)]
theorem twin_chk {a u : Mv} (h : ∀ x, x < 4 → TwinV (a.get x) (u.get x)) : chkM u = chkM a := by
  by_cases hm : a.may
  · rw [chk_may hm, chk_may ((twin_may h).2 hm)]
  · rw [chk_not hm, chk_not fun k => hm ((twin_may h).1 k)]
theorem twin_sameV {d d' e e' : Dv} (h : TwinV d d') (h' : TwinV e e') : sameV d' e' = sameV d e := by
  unfold sameV
  rw [h.1, h.2.2.1, h.2.2.2.1, h'.1, h'.2.2.1, h'.2.2.2.1]
theorem twin_sameM {a b u v : Mv} (h : ∀ x, x < 4 → TwinV (a.get x) (u.get x)) (h' : ∀ x, x < 4 → TwinV (b.get x) (v.get x)) : sameM u v = sameM a b := by
  have k0 : sameV u.S v.S = sameV a.S b.S := twin_sameV (h 0 (by decide)) (h' 0 (by decide))
  have k1 : sameV u.W v.W = sameV a.W b.W := twin_sameV (h 1 (by decide)) (h' 1 (by decide))
  have k2 : sameV u.C v.C = sameV a.C b.C := twin_sameV (h 2 (by decide)) (h' 2 (by decide))
  have k3 : sameV u.A v.A = sameV a.A b.A := twin_sameV (h 3 (by decide)) (h' 3 (by decide))
  unfold sameM
  rw [k0, k1, k2, k3]
theorem sameM_refl (a : Mv) : sameM a a = true := by
  unfold sameM sameV
  simp [Pa.Dy.same_refl]
theorem twin_refl_n {a u : Mv} (h : ∀ x, x < 4 → TwinV (a.get x) (u.get x)) {k : Nat} (hn : ∀ x, x < 4 → (a.get x).n ≤ k) : ∀ x, x < 4 → (u.get x).n ≤ k := fun x hx => by rw [(h x hx).2.1]; exact hn x hx
theorem twin_twin {a u t : Mv} (h : ∀ x, x < 4 → TwinV (a.get x) (u.get x)) (h' : ∀ x, x < 4 → TwinV (u.get x) (t.get x)) : ∀ x, x < 4 → TwinV (a.get x) (t.get x) := fun x hx =>
  ⟨(h' x hx).1.trans (h x hx).1, (h' x hx).2.1.trans (h x hx).2.1, (h' x hx).2.2.1.trans (h x hx).2.2.1, (h' x hx).2.2.2.1.trans (h x hx).2.2.2.1, (h' x hx).2.2.2.2⟩
theorem twin_same {a u : Mv} (h : ∀ x, x < 4 → TwinV (a.get x) (u.get x)) : sameM u a = true := by
  unfold sameM
  have k : ∀ x, x < 4 → sameV (u.get x) (a.get x) = true := fun x hx => by
    unfold sameV
    rw [(h x hx).1, (h x hx).2.2.1, (h x hx).2.2.2.1]
    exact Pa.Dy.same_refl _
  have k0 := k 0 (by decide)
  have k1 := k 1 (by decide)
  have k2 := k 2 (by decide)
  have k3 := k 3 (by decide)
  simp only [Mv.get] at k0 k1 k2 k3
  rw [k0, k1, k2, k3]
  rfl
theorem splitM_mayR {m : Mv} {w : World} {lo hi : Nat} (hR : MRows w lo hi m) {kR sR : Nat → Dn} {code : Int} (h : splitM m = ((kR, sR), code)) : MayR kR ∧ MayR sR := splitM_may hR h
theorem seedM_may {x : Int} {first : Bool} {R : Nat → Dn} {code : Int} (h : seedM x first = (R, code)) : MayR R := by
  unfold seedM at h
  split at h
  · injection h with h1 h2
    subst h1
    exact zR_may
  · rename_i hx
    injection h with h1 h2
    subst h1
    have h32 : (2 : Nat) ^ 32 = 4294967296 := by decide
    have hm : ∀ z : Nat, z ≤ 2147483647 → ∀ s, (z = 0 → s = false) → Dn.May ⟨s, z, 0⟩ := fun z hz s hs =>
      ⟨capD_gt (k := 32) (show z < 2 ^ 32 by rw [h32]; omega) (by decide), Nat.zero_le _, fun h0 => ⟨rfl, hs h0⟩, fun h0 => absurd h0 (Nat.lt_irrefl 0)⟩
    refine four (hm _ (by omega) _ fun h0 => ?_) (hm 1 (by decide) _ fun _ => rfl) ?_ (hm _ (by omega) _ fun h0 => ?_)
    · simp; omega
    · show (if first then (⟨false, 1, 0⟩ : Dn) else Dn.zero).May
      split
      · exact hm 1 (by decide) _ fun _ => rfl
      · exact zero_may
    · simp; omega

end Ma
end Go.Proofs.YtlbkepiflhchdaaDoor
