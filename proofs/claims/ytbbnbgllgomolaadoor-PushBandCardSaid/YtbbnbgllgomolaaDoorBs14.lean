/- RegionE: ways that meet: what stands behind so many operations is said once. No program in sight. -/
/- Laws for MassTells: walks (printed by a program of mine). -/
/- mass.Sum: a walk (printed by a program of mine). -/
/- Lists of masses that a call owns: appended to, stored in; no function in sight (printed by a program of mine). -/
/- The plain law of MassGroup about sums of lists. No program in sight. -/
/- Lists of copies: no program in sight but in the contracts joined (printed by a program of mine). -/
/- What every statement's row asks beside its walk: arguments that read as data hold what our predicates say; behind the call they read as before. -/
/- Dyads among the arguments. -/
import Derived.Test.YtbbnbgllgomolaaDoorBs03
import Derived.Test.YtbbnbgllgomolaaDoorBs13
import Derived.Test.YtbbnbgllgomolaaDoorBs09
import Derived.Test.YtbbnbgllgomolaaDoorBs08
import Derived.Test.YtbbnbgllgomolaaDoorBs07
import Derived.ProofKit
import Derived.Test.YtbbnbgllgomolaaDoorBs01
import Derived.Lib.SmallJoins
import Derived.Deep.SlicePairs
namespace Go.Proofs.YtbbnbgllgomolaaDoor
open Go.RowKit
section
variable {P : Program} {os : List Oper} {Q : Exit → Act → World → Prop} {md : Region.Mode} {S : World → Prop} {E : List Nat} {B : Array Bool → Act → World → Prop}
/-- As wpAnyE; behind n operations B stands. -/
def wpAnyG (B : Array Bool → Act → World → Prop) (P : Program) (md : Region.Mode) (ops : Array Oper) (Q : Exit → Act → World → Prop) (S : World → Prop) (E : List Nat) : Nat → Array Bool → Act → World → Prop
 | 0, L, a, w => B L a w
 | n + 1, L, a, w => (Region.ready md ops L = [] → Q .normal a w) ∧ ∀ i ∈ Region.ready md ops L, wpOp P ops Q i (fun a' w' => (E.contains i = false → S w → S w') ∧ wpAnyG B P md ops Q S E n (L.setIfInBounds i true) a' w') a w
theorem E_of_G' {ops : Array Oper} (m : Nat) (h : ∀ L a w, B L a w → wpAnyE P md ops Q S E m L a w) : ∀ (n : Nat) (L : Array Bool) (a : Act) (w : World), wpAnyG B P md ops Q S E n L a w → wpAnyE P md ops Q S E (n + m) L a w
 | 0, L, a, w, hg => by
  rw [Nat.zero_add]
  exact h L a w hg
 | n + 1, L, a, w, hg => by
  rw [Nat.add_right_comm]
  exact ⟨hg.1, fun i hi => wpOp_mono (fun a' w' h' => ⟨h'.1, E_of_G' m h n _ a' w' h'.2⟩) (hg.2 i hi)⟩
theorem E_of_G {ops : Array Oper} (n m : Nat) (B : Act → Array Bool → Act → World → Prop) {k : Nat} (hk : n + m = k) {L : Array Bool} {a : Act} {w : World} (hg : wpAnyG (B a) P md ops Q S E n L a w) (h : ∀ L' a' w', B a L' a' w' → wpAnyE P md ops Q S E m L' a' w') : wpAnyE P md ops Q S E k L a w := by
 subst hk
 exact E_of_G' m h n L a w hg
/-- The same, what follows under a name. -/
theorem stepG {i n : Nat} {oi : Oper} {listed L : Array Bool} {a : Act} {w : World} (hi : os[i]? = some oi) (hL : listed.setIfInBounds i true = L)
  (hr : Region.ready md os.toArray listed = [i]) (hw : Region.wanted oi (yielded os.toArray a.tmps) = true)
  (h : ∀ K' : Act → World → Prop, Shut (∀ a w', ((E.contains i = false → S w → S w') ∧ wpAnyG B P md os.toArray Q S E n L a w') → K' a w') → Oper.wp P oi a w K' Q) :
  wpAnyG B P md os.toArray Q S E (n + 1) listed a w := by
 subst hL
 refine ⟨fun h0 => (by rw [hr] at h0; cases h0), fun j hj => ?_⟩
 rw [hr] at hj
 obtain rfl := List.mem_singleton.1 hj
 refine wpOp_step (by simpa using hi) (fun K' hK => ?_)
 rw [if_pos hw]
 exact h K' hK
/-- Two may come up: whichever. -/
theorem stepG2 {i j n : Nat} {oi oj : Oper} {listed Li Lj : Array Bool} {a : Act} {w : World} (hi : os[i]? = some oi) (hj : os[j]? = some oj) (hLi : listed.setIfInBounds i true = Li) (hLj : listed.setIfInBounds j true = Lj)
  (hr : Region.ready md os.toArray listed = [i, j]) (hwi : Region.wanted oi (yielded os.toArray a.tmps) = true) (hwj : Region.wanted oj (yielded os.toArray a.tmps) = true)
  (h : ∀ K' : Act → World → Prop, Shut (∀ a w', ((E.contains i = false → S w → S w') ∧ wpAnyG B P md os.toArray Q S E n Li a w') → K' a w') → Oper.wp P oi a w K' Q)
  (h' : ∀ K' : Act → World → Prop, Shut (∀ a w', ((E.contains j = false → S w → S w') ∧ wpAnyG B P md os.toArray Q S E n Lj a w') → K' a w') → Oper.wp P oj a w K' Q) :
  wpAnyG B P md os.toArray Q S E (n + 1) listed a w := by
 subst hLi
 subst hLj
 refine ⟨fun h0 => (by rw [hr] at h0; cases h0), fun m hm => ?_⟩
 rw [hr] at hm
 simp only [List.mem_cons, List.not_mem_nil, or_false] at hm
 rcases hm with rfl | rfl
 · refine wpOp_step (by simpa using hi) (fun K' hK => ?_)
   rw [if_pos hwi]
   exact h K' hK
 · refine wpOp_step (by simpa using hj) (fun K' hK => ?_)
   rw [if_pos hwj]
   exact h' K' hK
/-- Three may come up: whichever. -/
theorem stepG3 {i j k n : Nat} {oi oj ok : Oper} {listed Li Lj Lk : Array Bool} {a : Act} {w : World} (hi : os[i]? = some oi) (hj : os[j]? = some oj) (hk : os[k]? = some ok) (hLi : listed.setIfInBounds i true = Li) (hLj : listed.setIfInBounds j true = Lj) (hLk : listed.setIfInBounds k true = Lk)
  (hr : Region.ready md os.toArray listed = [i, j, k]) (hwi : Region.wanted oi (yielded os.toArray a.tmps) = true) (hwj : Region.wanted oj (yielded os.toArray a.tmps) = true) (hwk : Region.wanted ok (yielded os.toArray a.tmps) = true)
  (h : ∀ K' : Act → World → Prop, Shut (∀ a w', ((E.contains i = false → S w → S w') ∧ wpAnyG B P md os.toArray Q S E n Li a w') → K' a w') → Oper.wp P oi a w K' Q)
  (h' : ∀ K' : Act → World → Prop, Shut (∀ a w', ((E.contains j = false → S w → S w') ∧ wpAnyG B P md os.toArray Q S E n Lj a w') → K' a w') → Oper.wp P oj a w K' Q)
  (h'' : ∀ K' : Act → World → Prop, Shut (∀ a w', ((E.contains k = false → S w → S w') ∧ wpAnyG B P md os.toArray Q S E n Lk a w') → K' a w') → Oper.wp P ok a w K' Q) :
  wpAnyG B P md os.toArray Q S E (n + 1) listed a w := by
 subst hLi
 subst hLj
 subst hLk
 refine ⟨fun h0 => (by rw [hr] at h0; cases h0), fun m hm => ?_⟩
 rw [hr] at hm
 simp only [List.mem_cons, List.not_mem_nil, or_false] at hm
 rcases hm with rfl | rfl | rfl
 · refine wpOp_step (by simpa using hi) (fun K' hK => ?_)
   rw [if_pos hwi]
   exact h K' hK
 · refine wpOp_step (by simpa using hj) (fun K' hK => ?_)
   rw [if_pos hwj]
   exact h' K' hK
 · refine wpOp_step (by simpa using hk) (fun K' hK => ?_)
   rw [if_pos hwk]
   exact h'' K' hK
end
end Go.Proofs.YtbbnbgllgomolaaDoor
namespace Go.Proofs.YtbbnbgllgomolaaDoor
open Go.RowKit
namespace Ma
open Dp Dy
/-- The rows lie in neither of two blocks. -/
def RowsOff (_w : World) (g g' : Nat) (m : Mv) : Prop := ∀ x, x < 4 → 0 < (m.get x).n → ∀ b off, (m.get x).A = some ⟨b, off, none⟩ → b ≠ g ∧ b ≠ g'
theorem rows_or {w : World} {lo hi g g' : Nat} {m : Mv} (h : MRows w lo hi m) (h1 : g < lo ∨ hi ≤ g) (h2 : g' < lo ∨ hi ≤ g') : RowsOff w g g' m := fun x _ h0 b off e => by
 obtain ⟨b', off', e', k1, k2, _⟩ := (h.get x).row h0
 rw [e] at e'
 injection e' with e'
 injection e' with e1 _ _
 subst e1
 exact ⟨by omega, by omega⟩
theorem ints_off {w w' : World} {lo hi g g' j : Nat} {d : Dv} (h : Ints w lo hi .u32 d.A d.n d.xs) (ho : 0 < d.n → ∀ b off, d.A = some ⟨b, off, none⟩ → b ≠ g ∧ b ≠ g') (hf : ∀ k, k ≠ j → w'.heap[k]? = w.heap[k]?) (hj : j = g ∨ j = g') : Ints w' lo hi .u32 d.A d.n d.xs :=
 ⟨h.len, h.wf, h.big, fun h0 => by
  obtain ⟨b, off, e, h1, h2, hc⟩ := h.row h0
  obtain ⟨n1, n2⟩ := ho h0 b off e
  have h3 := hf b (by rcases hj with rfl | rfl; exact n1; exact n2)
  exact ⟨b, off, e, h1, h2, fun i hi => ⟨by rw [World.cell?_of_block h3]; exact (hc i hi).1, by rw [World.frozen?_of_block h3]; exact (hc i hi).2⟩⟩⟩
theorem RowsOff.far {w w' : World} {g g' lo hi j : Nat} {m : Mv} (ho : RowsOff w g g' m) (h : MRows w lo hi m) (hf : ∀ k, k ≠ j → w'.heap[k]? = w.heap[k]?) (hj : j = g ∨ j = g') : MRows w' lo hi m :=
 ⟨ints_off h.S (ho 0 (by decide)) hf hj, ints_off h.W (ho 1 (by decide)) hf hj, ints_off h.C (ho 2 (by decide)) hf hj, ints_off h.A (ho 3 (by decide)) hf hj⟩
theorem RowsOff.on {w w' : World} {g g' j : Nat} {m : Mv} (ho : RowsOff w g g' m) (_hf : ∀ k, k ≠ j → w'.heap[k]? = w.heap[k]?) (_hj : j = g ∨ j = g') : RowsOff w' g g' m := ho
/-- Rows in a range of blocks that are there. -/
structure RB (w : World) (lo hi : Nat) (m : Mv) : Prop where
 rows : MRows w lo hi m
 le : hi ≤ w.heap.size
theorem RB.on {w w' : World} {lo hi : Nat} {m : Mv} (h : RB w lo hi m) (hb : Below w.heap.size w w') : RB w' lo hi m := ⟨h.rows.below hb h.le, Nat.le_trans h.le hb.size⟩
theorem RB.all {w : World} {lo hi : Nat} {m : Mv} (h : RB w lo hi m) : MRows w 0 w.heap.size m := h.rows.more (Nat.zero_le _) h.le
structure TB (w : World) (lo hi lo' hi' : Nat) (m : Mv) : Prop where
 rows : TwoR w lo hi lo' hi' m
 le : hi ≤ w.heap.size
 le' : hi' ≤ w.heap.size
theorem TB.on {w w' : World} {lo hi lo' hi' : Nat} {m : Mv} (h : TB w lo hi lo' hi' m) (hb : Below w.heap.size w w') : TB w' lo hi lo' hi' m := ⟨h.rows.below hb h.le h.le', Nat.le_trans h.le hb.size, Nat.le_trans h.le' hb.size⟩
theorem TB.all {w : World} {lo hi lo' hi' : Nat} {m : Mv} (h : TB w lo hi lo' hi' m) : MRows w 0 w.heap.size m := h.rows.rows h.le h.le'
theorem isM_n {w : World} {lo hi : Nat} {R : Nat → Dn} {m : Mv} (hR : MRows w lo hi m) (h : IsM R m) (hr : MayR R) : ∀ x, x < 4 → (m.get x).n ≤ 1000000 := fun x hx => by
 have h1 := (hR.get x).len
 have h2 : (m.get x).xs.length ≤ 40 := ((h x hx).may (hr x hx)).1.1
 omega
theorem twin_all {a u : Mv} (h : ∀ x, x < 4 → TwinV (a.get x) (u.get x)) (j : Nat) : TwinV (a.get j) (u.get j) := by
 have e : ∀ (m : Mv) (k : Nat), m.get (k + 4) = m.get 3 := fun _ _ => rfl
 by_cases hj : j < 4
 · exact h j hj
 · obtain ⟨k, rfl⟩ : ∃ k, j = k + 4 := ⟨j - 4, by omega⟩
   rw [e, e]
   exact h 3 (by decide)
theorem twin_may {a u : Mv} (h : ∀ x, x < 4 → TwinV (a.get x) (u.get x)) : u.may ↔ a.may := by
 have k : ∀ x, x < 4 → ((u.get x).may ↔ (a.get x).may) := fun x hx => by
  obtain ⟨h1, _, h3, h4, _⟩ := h x hx
  unfold Dv.may
  rw [h1, h3, h4]
 exact ⟨fun m x hx => (k x hx).1 (m x hx), fun m x hx => (k x hx).2 (m x hx)⟩
end Ma
end Go.Proofs.YtbbnbgllgomolaaDoor
namespace Go.Proofs.YtbbnbgllgomolaaDoor
open Go.RowKit
namespace Ma
open Dp Dy
/-- A mass's twelve cells amid a row. -/
def MCells (w : World) (b o : Nat) (m : Mv) : Prop := w.cell? ⟨b, o, none⟩ = some (.bool m.S.s) ∧ w.cell? ⟨b, o + 1, none⟩ = some (.slice m.S.A m.S.n m.S.c) ∧ w.cell? ⟨b, o + 2, none⟩ = some (.int .i64 m.S.e) ∧ w.cell? ⟨b, o + 3, none⟩ = some (.bool m.W.s) ∧ w.cell? ⟨b, o + 4, none⟩ = some (.slice m.W.A m.W.n m.W.c) ∧ w.cell? ⟨b, o + 5, none⟩ = some (.int .i64 m.W.e) ∧ w.cell? ⟨b, o + 6, none⟩ = some (.bool m.C.s) ∧ w.cell? ⟨b, o + 7, none⟩ = some (.slice m.C.A m.C.n m.C.c) ∧ w.cell? ⟨b, o + 8, none⟩ = some (.int .i64 m.C.e) ∧ w.cell? ⟨b, o + 9, none⟩ = some (.bool m.A.s) ∧ w.cell? ⟨b, o + 10, none⟩ = some (.slice m.A.A m.A.n m.A.c) ∧ w.cell? ⟨b, o + 11, none⟩ = some (.int .i64 m.A.e)
/-- Masses in a row. -/
structure LMs (w : World) (lo hi : Nat) (A : Option Addr) (n : Nat) (ms : List Mv) : Prop where
 len : ms.length = n
 big : n ≤ 9223372036854775807
 row : 0 < n → ∃ b off, A = some ⟨b, off, none⟩ ∧ lo ≤ b ∧ b < hi ∧ ∀ j (h : j < ms.length), MCells w b (off + j * 12) ms[j]
 rows : ∀ j (h : j < ms.length), MRows w lo hi ms[j]
theorem infoM : (Tryd.prog.info? 26).map (fun i => (i.zero, i.size, i.bytes)) = some (some (.agg #[.bool false, .slice none 0 0, .int .i64 0, .bool false, .slice none 0 0, .int .i64 0, .bool false, .slice none 0 0, .int .i64 0, .bool false, .slice none 0 0, .int .i64 0]), 12, 160) := by kernel_rfl
theorem MCells.blk {w w' : World} {b o : Nat} {m : Mv} (h : MCells w b o m) (hk : w'.heap[b]? = w.heap[b]?) : MCells w' b o m := by
 obtain ⟨h0, h1, h2, h3, h4, h5, h6, h7, h8, h9, h10, h11⟩ := h
 exact ⟨by rw [World.cell?_of_block hk]; exact h0, by rw [World.cell?_of_block hk]; exact h1, by rw [World.cell?_of_block hk]; exact h2, by rw [World.cell?_of_block hk]; exact h3, by rw [World.cell?_of_block hk]; exact h4, by rw [World.cell?_of_block hk]; exact h5, by rw [World.cell?_of_block hk]; exact h6, by rw [World.cell?_of_block hk]; exact h7, by rw [World.cell?_of_block hk]; exact h8, by rw [World.cell?_of_block hk]; exact h9, by rw [World.cell?_of_block hk]; exact h10, by rw [World.cell?_of_block hk]; exact h11⟩
theorem LMs.below {w w' : World} {lo hi B : Nat} {A : Option Addr} {n : Nat} {ms : List Mv} (h : LMs w lo hi A n ms) (hb : Below B w w') (hB : hi ≤ B) : LMs w' lo hi A n ms :=
 ⟨h.len, h.big, fun h0 => by
  obtain ⟨b, off, e, h1, h2, hc⟩ := h.row h0
  exact ⟨b, off, e, h1, h2, fun j hj => (hc j hj).blk (hb.block b (by omega))⟩, fun j hj => (h.rows j hj).below hb hB⟩
theorem LMs.more {w : World} {lo hi lo' hi' : Nat} {A : Option Addr} {n : Nat} {ms : List Mv} (h : LMs w lo hi A n ms) (hl : lo' ≤ lo) (hh : hi ≤ hi') : LMs w lo' hi' A n ms :=
 ⟨h.len, h.big, fun h0 => by
  obtain ⟨b, off, e, h1, h2, hc⟩ := h.row h0
  exact ⟨b, off, e, by omega, by omega, hc⟩, fun j hj => (h.rows j hj).more hl hh⟩
open Classical in
noncomputable def foldM : (Nat → Dn) → List Mv → Option (Nat → Dn)
 | R, [] => some R
 | R, m :: l => if ∀ x, x < 4 → (addD (R x) (dnM m x)).2 = 0 then foldM (fun x => (addD (R x) (dnM m x)).1) l else none
open Classical in
/-- What the sum of all is. -/
noncomputable def sumM (ms : List Mv) : (Nat → Dn) × Int :=
 if 4096 < ms.length then (zR, 4) else if ∃ m ∈ ms, ¬ m.may then (zR, 8) else match foldM zR ms with
  | some R => (R, 0)
  | none => (zR, 10)
theorem add_step {w : World} {lo hi : Nat} {S d : Mv} {R R2 : Nat → Dn} {code : Int} (hd : MRows w lo hi d) (hm : d.may) (hS : IsM R S) (hR : MayR R) (h : addM S d = (R2, code)) :
  (code = 0 ∧ (∀ x, x < 4 → (addD (R x) (dnM d x)).2 = 0) ∧ ∀ x, x < 4 → R2 x = (addD (R x) (dnM d x)).1) ∨ (code = 10 ∧ (¬ ∀ x, x < 4 → (addD (R x) (dnM d x)).2 = 0) ∧ R2 = zR) := by
 have key : ∀ x, x < 4 → xAdd S d x = addD (R x) (dnM d x) := fun x hx => hS.add (IsM.of hd hm) hR (dnM_may hd hm) hx
 unfold addM at h
 rw [if_pos ⟨hS.may hR, hm⟩] at h
 by_cases hc : ∀ j, j < 4 → (xAdd S d j).2 = 0
 · rw [if_pos hc] at h
   injection h with h1 h2
   subst h1
   exact .inl ⟨h2.symm, fun x hx => by rw [← key x hx]; exact hc x hx, fun x hx => by rw [← key x hx]⟩
 · rw [if_neg hc] at h
   injection h with h1 h2
   exact .inr ⟨h2.symm, fun k => hc fun j hj => by rw [key j hj]; exact k j hj, h1.symm⟩
open Classical in
theorem foldM_cons (R : Nat → Dn) (m : Mv) (l : List Mv) : foldM R (m :: l) = if ∀ x, x < 4 → (addD (R x) (dnM m x)).2 = 0 then foldM (fun x => (addD (R x) (dnM m x)).1) l else none := rfl
set_option maxHeartbeats 6400000 in
set_option maxRecDepth 100000 in
/-- mass.Sum, of too many. -/
theorem MSum_many (w : World) (A : Option Addr) (n c : Nat) (hn : 4096 < n) :
  Calls Tryd.prog 31 #[.slice A n c] w fun e w' => e = .returned (.tuple #[.agg #[.bool false, .slice none 0 0, .int .i64 0, .bool false, .slice none 0 0, .int .i64 0, .bool false, .slice none 0 0, .int .i64 0, .bool false, .slice none 0 0, .int .i64 0], .int .i64 4]) ∧ Below w.heap.size w w' := by
 generalize hw : w.alloc (.cells #[.bool false, .slice none 0 0, .int .i64 0, .bool false, .slice none 0 0, .int .i64 0, .bool false, .slice none 0 0, .int .i64 0, .bool false, .slice none 0 0, .int .i64 0] 26) = u
 have hZ1 : MBox u w.heap.size ZM := by rw [← hw]; exact heap_alloc_last _ _
 have hb : Below w.heap.size w u := by rw [← hw]; exact (Below.refl _ w).alloc (Nat.le_refl _) _
 obtain ⟨⟨z0, z1, z2, z3, z4, z5, z6, z7, z8, z9, z10, z11⟩, zf⟩ := MBox.cells hZ1
 go_enter Tryd.func31, Tryd.ntmps31
 go_wp2
 try clear hw
 have hX : MBox ((((((((((((u.setCell ⟨w.heap.size, 0, none⟩ (.bool false)).setCell ⟨w.heap.size, 1, none⟩ (.slice none 0 0)).setCell ⟨w.heap.size, 2, none⟩ (.int .i64 0)).setCell ⟨w.heap.size, 3, none⟩ (.bool false)).setCell ⟨w.heap.size, 4, none⟩ (.slice none 0 0)).setCell ⟨w.heap.size, 5, none⟩ (.int .i64 0)).setCell ⟨w.heap.size, 6, none⟩ (.bool false)).setCell ⟨w.heap.size, 7, none⟩ (.slice none 0 0)).setCell ⟨w.heap.size, 8, none⟩ (.int .i64 0)).setCell ⟨w.heap.size, 9, none⟩ (.bool false)).setCell ⟨w.heap.size, 10, none⟩ (.slice none 0 0)).setCell ⟨w.heap.size, 11, none⟩ (.int .i64 0)) (w.heap.size) ZM := MBox.all hZ1 ZM
 have hY : Below w.heap.size w ((((((((((((u.setCell ⟨w.heap.size, 0, none⟩ (.bool false)).setCell ⟨w.heap.size, 1, none⟩ (.slice none 0 0)).setCell ⟨w.heap.size, 2, none⟩ (.int .i64 0)).setCell ⟨w.heap.size, 3, none⟩ (.bool false)).setCell ⟨w.heap.size, 4, none⟩ (.slice none 0 0)).setCell ⟨w.heap.size, 5, none⟩ (.int .i64 0)).setCell ⟨w.heap.size, 6, none⟩ (.bool false)).setCell ⟨w.heap.size, 7, none⟩ (.slice none 0 0)).setCell ⟨w.heap.size, 8, none⟩ (.int .i64 0)).setCell ⟨w.heap.size, 9, none⟩ (.bool false)).setCell ⟨w.heap.size, 10, none⟩ (.slice none 0 0)).setCell ⟨w.heap.size, 11, none⟩ (.int .i64 0)) := below_all hb (Nat.le_refl _) ZM
 clear z0 z1 z2 z3 z4 z5 z6 z7 z8 z9 z10 z11 zf
 generalize ((((((((((((u.setCell ⟨w.heap.size, 0, none⟩ (.bool false)).setCell ⟨w.heap.size, 1, none⟩ (.slice none 0 0)).setCell ⟨w.heap.size, 2, none⟩ (.int .i64 0)).setCell ⟨w.heap.size, 3, none⟩ (.bool false)).setCell ⟨w.heap.size, 4, none⟩ (.slice none 0 0)).setCell ⟨w.heap.size, 5, none⟩ (.int .i64 0)).setCell ⟨w.heap.size, 6, none⟩ (.bool false)).setCell ⟨w.heap.size, 7, none⟩ (.slice none 0 0)).setCell ⟨w.heap.size, 8, none⟩ (.int .i64 0)).setCell ⟨w.heap.size, 9, none⟩ (.bool false)).setCell ⟨w.heap.size, 10, none⟩ (.slice none 0 0)).setCell ⟨w.heap.size, 11, none⟩ (.int .i64 0)) = U at *
 obtain ⟨M, hMe⟩ : ∃ M : Mv, M = ZM := ⟨_, rfl⟩
 rw [← hMe] at hX
 obtain ⟨⟨k0, k1, k2, k3, k4, k5, k6, k7, k8, k9, k10, k11⟩, kf⟩ := MBox.cells hX
 refine bodyPost_ret (v := .tuple #[.agg #[.bool M.S.s, .slice M.S.A M.S.n M.S.c, .int .i64 M.S.e, .bool M.W.s, .slice M.W.A M.W.n M.W.c, .int .i64 M.W.e, .bool M.C.s, .slice M.C.A M.C.n M.C.c, .int .i64 M.C.e, .bool M.A.s, .slice M.A.A M.A.n M.A.c, .int .i64 M.A.e], .int .i64 4]) (by simp [results, Tryd.results31, go_sem, k0, k1, k2, k3, k4, k5, k6, k7, k8, k9, k10, k11]) rfl ⟨by rw [hMe]; rfl, hY⟩
set_option maxHeartbeats 12800000 in
set_option maxRecDepth 100000 in
/-- mass.Sum. -/
theorem MSum_any (w : World) (A : Option Addr) (n c : Nat) (ms : List Mv) (hL : LMs w 0 w.heap.size A n ms) (hn : n ≤ 4096) (hT : Tab w) (R : Nat → Dn) (code : Int) (h : sumM ms = (R, code)) :
  Calls Tryd.prog 31 #[.slice A n c] w fun e w' => ∃ m' : Mv, e = .returned (.tuple #[.agg #[.bool m'.S.s, .slice m'.S.A m'.S.n m'.S.c, .int .i64 m'.S.e, .bool m'.W.s, .slice m'.W.A m'.W.n m'.W.c, .int .i64 m'.W.e, .bool m'.C.s, .slice m'.C.A m'.C.n m'.C.c, .int .i64 m'.C.e, .bool m'.A.s, .slice m'.A.A m'.A.n m'.A.c, .int .i64 m'.A.e], .int .i64 code]) ∧ Below w.heap.size w w' ∧ IsM R m' ∧ MRows w' w.heap.size w'.heap.size m' := by
 have HL := Lib.hid hL.len
 unfold sumM at h
 rw [if_neg (by rw [HL.out]; omega)] at h
 have H := Lib.hid h
 clear h
 obtain ⟨i0, hi0, hz0, hz1, hz2⟩ := info_parts infoM
 generalize hw : w.alloc (.cells #[.bool false, .slice none 0 0, .int .i64 0, .bool false, .slice none 0 0, .int .i64 0, .bool false, .slice none 0 0, .int .i64 0, .bool false, .slice none 0 0, .int .i64 0] 26) = w1
 have hZ1 : MBox w1 w.heap.size ZM := by rw [← hw]; exact heap_alloc_last _ _
 have hb : Below w.heap.size w w1 := by rw [← hw]; exact (Below.refl _ w).alloc (Nat.le_refl _) _
 have l1 : w.heap.size < w1.heap.size := by rw [← hw]; simp
 go_enter Tryd.func31, Tryd.ntmps31
 go_wp2
 try clear hw
 go_loopw [3, 5, 6, 15] (fun ev _ _ iv wr => ∃ i : Nat, iv = .int .i64 i ∧ ev = .int .i64 0 ∧ i ≤ n ∧ MBox wr w.heap.size ZM ∧ Below w.heap.size w wr ∧ w.heap.size < wr.heap.size ∧ Hid (∀ j (h : j < ms.length), j < i → ms[j].may)) (fun _ _ _ iv _ => n - (intOf iv).toNat)
 case atStart => exact ⟨0, rfl, rfl, Nat.zero_le _, hZ1, hb, l1, Lib.hid fun j h hj => absurd hj (Nat.not_lt_zero _)⟩
 case round =>
  clear hZ1 hb l1
  obtain ⟨i, rfl, rfl, hi1, hZ1, hb, l1, hall⟩ := hrel
  have hLr := hL.below hb (Nat.le_refl _)
  by_cases hlt : i < n
  · have hi2 : i < ms.length := by rw [HL.out]; exact hlt
    obtain ⟨b, off, hA, h1, h2, hc⟩ := hLr.row (by omega)
    have hci := hc i hi2
    have hri := hLr.rows i hi2
    obtain ⟨d, hd⟩ : ∃ d, ms[i] = d := ⟨_, rfl⟩
    rw [hd] at hci hri
    have HD := Lib.hid hd
    subst hA
    clear hd hc hLr
    obtain ⟨k0, k1, k2, k3, k4, k5, k6, k7, k8, k9, k10, k11⟩ := hci
    have hwr : IntKind.i64.wrap ((i : Int) + 1) = ((i + 1 : Nat) : Int) := by rw [IntKind.wrap_i64]; omega
    have hBL := (Below.refl wr.heap.size wr).alloc (Nat.le_refl _) (.cells #[.bool d.S.s, .slice d.S.A d.S.n d.S.c, .int .i64 d.S.e, .bool d.W.s, .slice d.W.A d.W.n d.W.c, .int .i64 d.W.e, .bool d.C.s, .slice d.C.A d.C.n d.C.c, .int .i64 d.C.e, .bool d.A.s, .slice d.A.A d.A.n d.A.c, .int .i64 d.A.e] 26)
    have hM2 : MBox (wr.alloc (.cells #[.bool d.S.s, .slice d.S.A d.S.n d.S.c, .int .i64 d.S.e, .bool d.W.s, .slice d.W.A d.W.n d.W.c, .int .i64 d.W.e, .bool d.C.s, .slice d.C.A d.C.n d.C.c, .int .i64 d.C.e, .bool d.A.s, .slice d.A.A d.A.n d.A.c, .int .i64 d.A.e] 26)) wr.heap.size d := heap_alloc_last _ _
    have hZ2 : MBox (wr.alloc (.cells #[.bool d.S.s, .slice d.S.A d.S.n d.S.c, .int .i64 d.S.e, .bool d.W.s, .slice d.W.A d.W.n d.W.c, .int .i64 d.W.e, .bool d.C.s, .slice d.C.A d.C.n d.C.c, .int .i64 d.C.e, .bool d.A.s, .slice d.A.A d.A.n d.A.c, .int .i64 d.A.e] 26)) w.heap.size ZM := box_on hZ1 hBL l1
    have hr2 : MRows (wr.alloc (.cells #[.bool d.S.s, .slice d.S.A d.S.n d.S.c, .int .i64 d.S.e, .bool d.W.s, .slice d.W.A d.W.n d.W.c, .int .i64 d.W.e, .bool d.C.s, .slice d.C.A d.C.n d.C.c, .int .i64 d.C.e, .bool d.A.s, .slice d.A.A d.A.n d.A.c, .int .i64 d.A.e] 26)) 0 (wr.alloc (.cells #[.bool d.S.s, .slice d.S.A d.S.n d.S.c, .int .i64 d.S.e, .bool d.W.s, .slice d.W.A d.W.n d.W.c, .int .i64 d.W.e, .bool d.C.s, .slice d.C.A d.C.n d.C.c, .int .i64 d.C.e, .bool d.A.s, .slice d.A.A d.A.n d.A.c, .int .i64 d.A.e] 26)).heap.size d := (hri.below hBL (by omega)).more (Nat.le_refl _) (by have := hBL.size; omega)
    have hb2 : Below w.heap.size w (wr.alloc (.cells #[.bool d.S.s, .slice d.S.A d.S.n d.S.c, .int .i64 d.S.e, .bool d.W.s, .slice d.W.A d.W.n d.W.c, .int .i64 d.W.e, .bool d.C.s, .slice d.C.A d.C.n d.C.c, .int .i64 d.C.e, .bool d.A.s, .slice d.A.A d.A.n d.A.c, .int .i64 d.A.e] 26)) := hb.trans (hBL.mono (by omega))
    have l2 : wr.heap.size < (wr.alloc (.cells #[.bool d.S.s, .slice d.S.A d.S.n d.S.c, .int .i64 d.S.e, .bool d.W.s, .slice d.W.A d.W.n d.W.c, .int .i64 d.W.e, .bool d.C.s, .slice d.C.A d.C.n d.C.c, .int .i64 d.C.e, .bool d.A.s, .slice d.A.A d.A.n d.A.c, .int .i64 d.A.e] 26)).heap.size := by simp
    generalize hw2 : wr.alloc (.cells #[.bool d.S.s, .slice d.S.A d.S.n d.S.c, .int .i64 d.S.e, .bool d.W.s, .slice d.W.A d.W.n d.W.c, .int .i64 d.W.e, .bool d.C.s, .slice d.C.A d.C.n d.C.c, .int .i64 d.C.e, .bool d.A.s, .slice d.A.A d.A.n d.A.c, .int .i64 d.A.e] 26) = w2 at *
    obtain ⟨⟨y0, y1, y2, y3, y4, y5, y6, y7, y8, y9, y10, y11⟩, yf⟩ := MBox.cells hM2
    obtain ⟨q, hq⟩ : ∃ q, chkM d = q := ⟨_, rfl⟩
    go_wp2_with fail
    refine (MCheck_any w2 d hr2 q hq).mono ?_
    rintro e w3 ⟨rfl, hB⟩
    clear k0 k1 k2 k3 k4 k5 k6 k7 k8 k9 k10 k11 y0 y1 y2 y3 y4 y5 y6 y7 y8 y9 y10 y11 yf hw2
    have l3 := hB.size
    have hZ3 : MBox w3 w.heap.size ZM := box_on hZ2 hB (by omega)
    have hb3 := hb2.trans (hB.mono (by omega))
    clear hB hBL
    by_cases hm : d.may
    · have hq0 : q = 0 := hq.symm.trans (chk_may hm)
      subst hq0
      go_wp2
      go_roundw
      case rel => exact ⟨i + 1, by first | rfl | (congr 1; omega) | go_num, rfl, by omega, hZ3, hb3, by omega, Lib.hid fun j hj hji => by
       by_cases e : j = i
       · subst e
         rw [HD.out]
         exact hm
       · exact hall.out j hj (by omega)⟩
      case measure => first | (simp [intOf]; done) | (simp [intOf]; omega)
    · have hq0 : q = 8 := hq.symm.trans (chk_not hm)
      subst hq0
      have hcode : (R, code) = (zR, 8) := by
       have := H.out
       rw [if_pos ⟨ms[i], List.getElem_mem hi2, by rw [HD.out]; exact hm⟩] at this
       exact this.symm
      injection hcode with hR hcd
      subst hR hcd
      obtain ⟨⟨z0, z1, z2, z3, z4, z5, z6, z7, z8, z9, z10, z11⟩, zf⟩ := MBox.cells hZ3
      go_wp2
      have hX : MBox ((((((((((((w3.setCell ⟨w.heap.size, 0, none⟩ (.bool false)).setCell ⟨w.heap.size, 1, none⟩ (.slice none 0 0)).setCell ⟨w.heap.size, 2, none⟩ (.int .i64 0)).setCell ⟨w.heap.size, 3, none⟩ (.bool false)).setCell ⟨w.heap.size, 4, none⟩ (.slice none 0 0)).setCell ⟨w.heap.size, 5, none⟩ (.int .i64 0)).setCell ⟨w.heap.size, 6, none⟩ (.bool false)).setCell ⟨w.heap.size, 7, none⟩ (.slice none 0 0)).setCell ⟨w.heap.size, 8, none⟩ (.int .i64 0)).setCell ⟨w.heap.size, 9, none⟩ (.bool false)).setCell ⟨w.heap.size, 10, none⟩ (.slice none 0 0)).setCell ⟨w.heap.size, 11, none⟩ (.int .i64 0)) (w.heap.size) ZM := MBox.all hZ3 ZM
      have hY : Below w.heap.size w ((((((((((((w3.setCell ⟨w.heap.size, 0, none⟩ (.bool false)).setCell ⟨w.heap.size, 1, none⟩ (.slice none 0 0)).setCell ⟨w.heap.size, 2, none⟩ (.int .i64 0)).setCell ⟨w.heap.size, 3, none⟩ (.bool false)).setCell ⟨w.heap.size, 4, none⟩ (.slice none 0 0)).setCell ⟨w.heap.size, 5, none⟩ (.int .i64 0)).setCell ⟨w.heap.size, 6, none⟩ (.bool false)).setCell ⟨w.heap.size, 7, none⟩ (.slice none 0 0)).setCell ⟨w.heap.size, 8, none⟩ (.int .i64 0)).setCell ⟨w.heap.size, 9, none⟩ (.bool false)).setCell ⟨w.heap.size, 10, none⟩ (.slice none 0 0)).setCell ⟨w.heap.size, 11, none⟩ (.int .i64 0)) := below_all hb3 (Nat.le_refl _) ZM
      clear z0 z1 z2 z3 z4 z5 z6 z7 z8 z9 z10 z11 zf
      generalize ((((((((((((w3.setCell ⟨w.heap.size, 0, none⟩ (.bool false)).setCell ⟨w.heap.size, 1, none⟩ (.slice none 0 0)).setCell ⟨w.heap.size, 2, none⟩ (.int .i64 0)).setCell ⟨w.heap.size, 3, none⟩ (.bool false)).setCell ⟨w.heap.size, 4, none⟩ (.slice none 0 0)).setCell ⟨w.heap.size, 5, none⟩ (.int .i64 0)).setCell ⟨w.heap.size, 6, none⟩ (.bool false)).setCell ⟨w.heap.size, 7, none⟩ (.slice none 0 0)).setCell ⟨w.heap.size, 8, none⟩ (.int .i64 0)).setCell ⟨w.heap.size, 9, none⟩ (.bool false)).setCell ⟨w.heap.size, 10, none⟩ (.slice none 0 0)).setCell ⟨w.heap.size, 11, none⟩ (.int .i64 0)) = U at *
      obtain ⟨M, hMe⟩ : ∃ M : Mv, M = ZM := ⟨_, rfl⟩
      rw [← hMe] at hX
      obtain ⟨⟨k0, k1, k2, k3, k4, k5, k6, k7, k8, k9, k10, k11⟩, kf⟩ := MBox.cells hX
      refine bodyPost_ret (v := .tuple #[.agg #[.bool M.S.s, .slice M.S.A M.S.n M.S.c, .int .i64 M.S.e, .bool M.W.s, .slice M.W.A M.W.n M.W.c, .int .i64 M.W.e, .bool M.C.s, .slice M.C.A M.C.n M.C.c, .int .i64 M.C.e, .bool M.A.s, .slice M.A.A M.A.n M.A.c, .int .i64 M.A.e], .int .i64 8]) (by simp [results, Tryd.results31, go_sem, k0, k1, k2, k3, k4, k5, k6, k7, k8, k9, k10, k11]) rfl ⟨M, rfl, hY, ?_, ?_⟩
      · rw [hMe]
        exact IsM.zero
      · rw [hMe]
        exact ZM_rows ..
  · have hin : n ≤ i := by omega
    have hmay : Hid (∀ j (h : j < ms.length), ms[j].may) := Lib.hid fun j h => hall.out j h (by have := HL.out; omega)
    have H2 : Hid ((match foldM zR ms with | some R => (R, (0 : Int)) | none => (zR, 10)) = (R, code)) := Lib.hid (by
     have := H.out
     rw [if_neg (by
      rintro ⟨m, hm, hn⟩
      obtain ⟨j, hj, e⟩ := List.getElem_of_mem hm
      exact hn (e ▸ hmay.out j hj))] at this
     exact this)
    clear hall hLr
    go_wp2
    obtain ⟨wo, rfl⟩ : ∃ wo : World, wo = wr := ⟨_, rfl⟩
    go_loopw [3, 8, 28] (fun ev _ iv ww => ∃ (i : Nat) (S : Mv) (R' : Nat → Dn), iv = .int .i64 i ∧ ev = .int .i64 0 ∧ i ≤ n ∧ MBox ww w.heap.size S ∧ Below w.heap.size w ww ∧ w.heap.size < ww.heap.size ∧ MRows ww (w.heap.size + 1) ww.heap.size S ∧ Hid (IsM R' S ∧ MayR R' ∧ foldM R' (ms.drop i) = foldM zR ms)) (fun _ _ iv _ => n - (intOf iv).toNat)
    case atStart => exact ⟨0, ZM, zR, rfl, rfl, Nat.zero_le _, hZ1, hb, l1, ZM_rows .., Lib.hid ⟨IsM.zero, zR_may, rfl⟩⟩
    case round =>
     clear hZ1 hb l1
     obtain ⟨i, S, R', rfl, rfl, hi1, hS1, hb, l1, hRS, hI⟩ := hrel
     have hLr := hL.below hb (Nat.le_refl _)
     by_cases hlt : i < n
     · have hi2 : i < ms.length := by rw [HL.out]; exact hlt
       obtain ⟨b, off, hA, h1, h2, hc⟩ := hLr.row (by omega)
       have hci := hc i hi2
       have hri := hLr.rows i hi2
       have hmd := hmay.out i hi2
       obtain ⟨d, hd⟩ : ∃ d, ms[i] = d := ⟨_, rfl⟩
       rw [hd] at hci hri hmd
       have HD := Lib.hid hd
       have HM := Lib.hid hmd
       subst hA
       clear hd hc hLr hmd
       obtain ⟨k0, k1, k2, k3, k4, k5, k6, k7, k8, k9, k10, k11⟩ := hci
       have hwr : IntKind.i64.wrap ((i : Int) + 1) = ((i + 1 : Nat) : Int) := by rw [IntKind.wrap_i64]; omega
       have hBL := (Below.refl wr.heap.size wr).alloc (Nat.le_refl _) (.cells #[.bool d.S.s, .slice d.S.A d.S.n d.S.c, .int .i64 d.S.e, .bool d.W.s, .slice d.W.A d.W.n d.W.c, .int .i64 d.W.e, .bool d.C.s, .slice d.C.A d.C.n d.C.c, .int .i64 d.C.e, .bool d.A.s, .slice d.A.A d.A.n d.A.c, .int .i64 d.A.e] 26)
       have hM2 : MBox (wr.alloc (.cells #[.bool d.S.s, .slice d.S.A d.S.n d.S.c, .int .i64 d.S.e, .bool d.W.s, .slice d.W.A d.W.n d.W.c, .int .i64 d.W.e, .bool d.C.s, .slice d.C.A d.C.n d.C.c, .int .i64 d.C.e, .bool d.A.s, .slice d.A.A d.A.n d.A.c, .int .i64 d.A.e] 26)) wr.heap.size d := heap_alloc_last _ _
       have hS2 : MBox (wr.alloc (.cells #[.bool d.S.s, .slice d.S.A d.S.n d.S.c, .int .i64 d.S.e, .bool d.W.s, .slice d.W.A d.W.n d.W.c, .int .i64 d.W.e, .bool d.C.s, .slice d.C.A d.C.n d.C.c, .int .i64 d.C.e, .bool d.A.s, .slice d.A.A d.A.n d.A.c, .int .i64 d.A.e] 26)) w.heap.size S := box_on hS1 hBL l1
       have hr2 : MRows (wr.alloc (.cells #[.bool d.S.s, .slice d.S.A d.S.n d.S.c, .int .i64 d.S.e, .bool d.W.s, .slice d.W.A d.W.n d.W.c, .int .i64 d.W.e, .bool d.C.s, .slice d.C.A d.C.n d.C.c, .int .i64 d.C.e, .bool d.A.s, .slice d.A.A d.A.n d.A.c, .int .i64 d.A.e] 26)) 0 (wr.alloc (.cells #[.bool d.S.s, .slice d.S.A d.S.n d.S.c, .int .i64 d.S.e, .bool d.W.s, .slice d.W.A d.W.n d.W.c, .int .i64 d.W.e, .bool d.C.s, .slice d.C.A d.C.n d.C.c, .int .i64 d.C.e, .bool d.A.s, .slice d.A.A d.A.n d.A.c, .int .i64 d.A.e] 26)).heap.size d := (hri.below hBL (by omega)).more (Nat.le_refl _) (by have := hBL.size; omega)
       have hrS2 : MRows (wr.alloc (.cells #[.bool d.S.s, .slice d.S.A d.S.n d.S.c, .int .i64 d.S.e, .bool d.W.s, .slice d.W.A d.W.n d.W.c, .int .i64 d.W.e, .bool d.C.s, .slice d.C.A d.C.n d.C.c, .int .i64 d.C.e, .bool d.A.s, .slice d.A.A d.A.n d.A.c, .int .i64 d.A.e] 26)) 0 (wr.alloc (.cells #[.bool d.S.s, .slice d.S.A d.S.n d.S.c, .int .i64 d.S.e, .bool d.W.s, .slice d.W.A d.W.n d.W.c, .int .i64 d.W.e, .bool d.C.s, .slice d.C.A d.C.n d.C.c, .int .i64 d.C.e, .bool d.A.s, .slice d.A.A d.A.n d.A.c, .int .i64 d.A.e] 26)).heap.size S := (hRS.below hBL (Nat.le_refl _)).more (Nat.zero_le _) hBL.size
       have hb2 : Below w.heap.size w (wr.alloc (.cells #[.bool d.S.s, .slice d.S.A d.S.n d.S.c, .int .i64 d.S.e, .bool d.W.s, .slice d.W.A d.W.n d.W.c, .int .i64 d.W.e, .bool d.C.s, .slice d.C.A d.C.n d.C.c, .int .i64 d.C.e, .bool d.A.s, .slice d.A.A d.A.n d.A.c, .int .i64 d.A.e] 26)) := hb.trans (hBL.mono (by omega))
       have l2 : wr.heap.size < (wr.alloc (.cells #[.bool d.S.s, .slice d.S.A d.S.n d.S.c, .int .i64 d.S.e, .bool d.W.s, .slice d.W.A d.W.n d.W.c, .int .i64 d.W.e, .bool d.C.s, .slice d.C.A d.C.n d.C.c, .int .i64 d.C.e, .bool d.A.s, .slice d.A.A d.A.n d.A.c, .int .i64 d.A.e] 26)).heap.size := by simp
       generalize hw2 : wr.alloc (.cells #[.bool d.S.s, .slice d.S.A d.S.n d.S.c, .int .i64 d.S.e, .bool d.W.s, .slice d.W.A d.W.n d.W.c, .int .i64 d.W.e, .bool d.C.s, .slice d.C.A d.C.n d.C.c, .int .i64 d.C.e, .bool d.A.s, .slice d.A.A d.A.n d.A.c, .int .i64 d.A.e] 26) = w2 at *
       have t2 := hT.below hb2 hT.lt
       obtain ⟨⟨y0, y1, y2, y3, y4, y5, y6, y7, y8, y9, y10, y11⟩, yf⟩ := MBox.cells hM2
       obtain ⟨⟨z0, z1, z2, z3, z4, z5, z6, z7, z8, z9, z10, z11⟩, zf⟩ := MBox.cells hS2
       obtain ⟨R2, q, hq⟩ : ∃ R2 q, addM S d = (R2, q) := ⟨_, _, rfl⟩
       have hstep := Lib.hid (add_step hri HM.out hI.out.1 hI.out.2.1 hq)
       have hmR2 : MayR R2 := by have := addM_may S d; rw [hq] at this; exact this
       have HMR2 := Lib.hid hmR2
       have HQ := Lib.hid hq
       clear hq hmR2
       go_wp2_with fail
       refine (MAdd_num w2 S d hrS2 hr2 t2 R2 q HQ.out).mono ?_
       rintro e w3 ⟨S', rfl, hB, hIS, hRS'⟩
       have HIS := Lib.hid hIS
       clear k0 k1 k2 k3 k4 k5 k6 k7 k8 k9 k10 k11 y0 y1 y2 y3 y4 y5 y6 y7 y8 y9 y10 y11 yf z0 z1 z2 z3 z4 z5 z6 z7 z8 z9 z10 z11 zf hw2 hIS
       have l3 := hB.size
       have hS3 : MBox w3 w.heap.size S := box_on hS2 hB (by omega)
       have hb3 := hb2.trans (hB.mono (by omega))
       clear hB hBL
       obtain ⟨⟨z0, z1, z2, z3, z4, z5, z6, z7, z8, z9, z10, z11⟩, zf⟩ := MBox.cells hS3
       have hX : MBox ((((((((((((w3.setCell ⟨w.heap.size, 0, none⟩ (.bool S'.S.s)).setCell ⟨w.heap.size, 1, none⟩ (.slice S'.S.A S'.S.n S'.S.c)).setCell ⟨w.heap.size, 2, none⟩ (.int .i64 S'.S.e)).setCell ⟨w.heap.size, 3, none⟩ (.bool S'.W.s)).setCell ⟨w.heap.size, 4, none⟩ (.slice S'.W.A S'.W.n S'.W.c)).setCell ⟨w.heap.size, 5, none⟩ (.int .i64 S'.W.e)).setCell ⟨w.heap.size, 6, none⟩ (.bool S'.C.s)).setCell ⟨w.heap.size, 7, none⟩ (.slice S'.C.A S'.C.n S'.C.c)).setCell ⟨w.heap.size, 8, none⟩ (.int .i64 S'.C.e)).setCell ⟨w.heap.size, 9, none⟩ (.bool S'.A.s)).setCell ⟨w.heap.size, 10, none⟩ (.slice S'.A.A S'.A.n S'.A.c)).setCell ⟨w.heap.size, 11, none⟩ (.int .i64 S'.A.e)) w.heap.size S' := MBox.all hS3 S'
       have hY : Below w.heap.size w ((((((((((((w3.setCell ⟨w.heap.size, 0, none⟩ (.bool S'.S.s)).setCell ⟨w.heap.size, 1, none⟩ (.slice S'.S.A S'.S.n S'.S.c)).setCell ⟨w.heap.size, 2, none⟩ (.int .i64 S'.S.e)).setCell ⟨w.heap.size, 3, none⟩ (.bool S'.W.s)).setCell ⟨w.heap.size, 4, none⟩ (.slice S'.W.A S'.W.n S'.W.c)).setCell ⟨w.heap.size, 5, none⟩ (.int .i64 S'.W.e)).setCell ⟨w.heap.size, 6, none⟩ (.bool S'.C.s)).setCell ⟨w.heap.size, 7, none⟩ (.slice S'.C.A S'.C.n S'.C.c)).setCell ⟨w.heap.size, 8, none⟩ (.int .i64 S'.C.e)).setCell ⟨w.heap.size, 9, none⟩ (.bool S'.A.s)).setCell ⟨w.heap.size, 10, none⟩ (.slice S'.A.A S'.A.n S'.A.c)).setCell ⟨w.heap.size, 11, none⟩ (.int .i64 S'.A.e)) := below_all hb3 (Nat.le_refl _) S'
       have hRX : MRows ((((((((((((w3.setCell ⟨w.heap.size, 0, none⟩ (.bool S'.S.s)).setCell ⟨w.heap.size, 1, none⟩ (.slice S'.S.A S'.S.n S'.S.c)).setCell ⟨w.heap.size, 2, none⟩ (.int .i64 S'.S.e)).setCell ⟨w.heap.size, 3, none⟩ (.bool S'.W.s)).setCell ⟨w.heap.size, 4, none⟩ (.slice S'.W.A S'.W.n S'.W.c)).setCell ⟨w.heap.size, 5, none⟩ (.int .i64 S'.W.e)).setCell ⟨w.heap.size, 6, none⟩ (.bool S'.C.s)).setCell ⟨w.heap.size, 7, none⟩ (.slice S'.C.A S'.C.n S'.C.c)).setCell ⟨w.heap.size, 8, none⟩ (.int .i64 S'.C.e)).setCell ⟨w.heap.size, 9, none⟩ (.bool S'.A.s)).setCell ⟨w.heap.size, 10, none⟩ (.slice S'.A.A S'.A.n S'.A.c)).setCell ⟨w.heap.size, 11, none⟩ (.int .i64 S'.A.e)) (w.heap.size + 1) w3.heap.size S' := rows_all (hRS'.more (by omega) (Nat.le_refl _)) (g := w.heap.size) (.inl (by omega)) S'
       have hsX : ((((((((((((w3.setCell ⟨w.heap.size, 0, none⟩ (.bool S'.S.s)).setCell ⟨w.heap.size, 1, none⟩ (.slice S'.S.A S'.S.n S'.S.c)).setCell ⟨w.heap.size, 2, none⟩ (.int .i64 S'.S.e)).setCell ⟨w.heap.size, 3, none⟩ (.bool S'.W.s)).setCell ⟨w.heap.size, 4, none⟩ (.slice S'.W.A S'.W.n S'.W.c)).setCell ⟨w.heap.size, 5, none⟩ (.int .i64 S'.W.e)).setCell ⟨w.heap.size, 6, none⟩ (.bool S'.C.s)).setCell ⟨w.heap.size, 7, none⟩ (.slice S'.C.A S'.C.n S'.C.c)).setCell ⟨w.heap.size, 8, none⟩ (.int .i64 S'.C.e)).setCell ⟨w.heap.size, 9, none⟩ (.bool S'.A.s)).setCell ⟨w.heap.size, 10, none⟩ (.slice S'.A.A S'.A.n S'.A.c)).setCell ⟨w.heap.size, 11, none⟩ (.int .i64 S'.A.e)).heap.size = w3.heap.size := size_all S'
       have hsX1 : w3.heap.size ≤ ((((((((((((w3.setCell ⟨w.heap.size, 0, none⟩ (.bool S'.S.s)).setCell ⟨w.heap.size, 1, none⟩ (.slice S'.S.A S'.S.n S'.S.c)).setCell ⟨w.heap.size, 2, none⟩ (.int .i64 S'.S.e)).setCell ⟨w.heap.size, 3, none⟩ (.bool S'.W.s)).setCell ⟨w.heap.size, 4, none⟩ (.slice S'.W.A S'.W.n S'.W.c)).setCell ⟨w.heap.size, 5, none⟩ (.int .i64 S'.W.e)).setCell ⟨w.heap.size, 6, none⟩ (.bool S'.C.s)).setCell ⟨w.heap.size, 7, none⟩ (.slice S'.C.A S'.C.n S'.C.c)).setCell ⟨w.heap.size, 8, none⟩ (.int .i64 S'.C.e)).setCell ⟨w.heap.size, 9, none⟩ (.bool S'.A.s)).setCell ⟨w.heap.size, 10, none⟩ (.slice S'.A.A S'.A.n S'.A.c)).setCell ⟨w.heap.size, 11, none⟩ (.int .i64 S'.A.e)).heap.size := Nat.le_of_eq hsX.symm
       clear hsX
       rcases hstep.out with ⟨hq0, hs0, hs1⟩ | ⟨hq0, hs0, hs1⟩
       · subst hq0
         have hI2 : Hid (IsM (fun x => (addD (R' x) (dnM d x)).1) S' ∧ MayR (fun x => (addD (R' x) (dnM d x)).1) ∧ foldM (fun x => (addD (R' x) (dnM d x)).1) (ms.drop (i + 1)) = foldM zR ms) := Lib.hid ⟨HIS.out.of_eq fun x hx => (hs1 x hx).symm, fun x _ => add_may .., by
          have e := hI.out.2.2
          rw [List.drop_eq_getElem_cons hi2, HD.out, foldM_cons, if_pos hs0] at e
          exact e⟩
         clear hs0 hs1 hstep
         go_wp2
         clear z0 z1 z2 z3 z4 z5 z6 z7 z8 z9 z10 z11 zf
         generalize ((((((((((((w3.setCell ⟨w.heap.size, 0, none⟩ (.bool S'.S.s)).setCell ⟨w.heap.size, 1, none⟩ (.slice S'.S.A S'.S.n S'.S.c)).setCell ⟨w.heap.size, 2, none⟩ (.int .i64 S'.S.e)).setCell ⟨w.heap.size, 3, none⟩ (.bool S'.W.s)).setCell ⟨w.heap.size, 4, none⟩ (.slice S'.W.A S'.W.n S'.W.c)).setCell ⟨w.heap.size, 5, none⟩ (.int .i64 S'.W.e)).setCell ⟨w.heap.size, 6, none⟩ (.bool S'.C.s)).setCell ⟨w.heap.size, 7, none⟩ (.slice S'.C.A S'.C.n S'.C.c)).setCell ⟨w.heap.size, 8, none⟩ (.int .i64 S'.C.e)).setCell ⟨w.heap.size, 9, none⟩ (.bool S'.A.s)).setCell ⟨w.heap.size, 10, none⟩ (.slice S'.A.A S'.A.n S'.A.c)).setCell ⟨w.heap.size, 11, none⟩ (.int .i64 S'.A.e)) = w4 at *
         go_roundw
         case rel => exact ⟨i + 1, S', _, by first | rfl | (congr 1; omega) | go_num, rfl, by omega, hX, hY, by omega, hRX.more (Nat.le_refl _) hsX1, hI2⟩
         case measure => first | (simp [intOf]; done) | (simp [intOf]; omega)
       · subst hq0
         have hcode : (zR, (10 : Int)) = (R, code) := by
          have e := hI.out.2.2
          rw [List.drop_eq_getElem_cons hi2, HD.out, foldM_cons, if_neg hs0] at e
          have e2 := H2.out
          rw [← e] at e2
          exact e2
         injection hcode with hR hcd
         subst hR hcd
         clear hs0 hs1 hstep
         go_wp2
         have hX2 : MBox ((((((((((((((((((((((((w3.setCell ⟨w.heap.size, 0, none⟩ (.bool S'.S.s)).setCell ⟨w.heap.size, 1, none⟩ (.slice S'.S.A S'.S.n S'.S.c)).setCell ⟨w.heap.size, 2, none⟩ (.int .i64 S'.S.e)).setCell ⟨w.heap.size, 3, none⟩ (.bool S'.W.s)).setCell ⟨w.heap.size, 4, none⟩ (.slice S'.W.A S'.W.n S'.W.c)).setCell ⟨w.heap.size, 5, none⟩ (.int .i64 S'.W.e)).setCell ⟨w.heap.size, 6, none⟩ (.bool S'.C.s)).setCell ⟨w.heap.size, 7, none⟩ (.slice S'.C.A S'.C.n S'.C.c)).setCell ⟨w.heap.size, 8, none⟩ (.int .i64 S'.C.e)).setCell ⟨w.heap.size, 9, none⟩ (.bool S'.A.s)).setCell ⟨w.heap.size, 10, none⟩ (.slice S'.A.A S'.A.n S'.A.c)).setCell ⟨w.heap.size, 11, none⟩ (.int .i64 S'.A.e)).setCell ⟨w.heap.size, 0, none⟩ (.bool false)).setCell ⟨w.heap.size, 1, none⟩ (.slice none 0 0)).setCell ⟨w.heap.size, 2, none⟩ (.int .i64 0)).setCell ⟨w.heap.size, 3, none⟩ (.bool false)).setCell ⟨w.heap.size, 4, none⟩ (.slice none 0 0)).setCell ⟨w.heap.size, 5, none⟩ (.int .i64 0)).setCell ⟨w.heap.size, 6, none⟩ (.bool false)).setCell ⟨w.heap.size, 7, none⟩ (.slice none 0 0)).setCell ⟨w.heap.size, 8, none⟩ (.int .i64 0)).setCell ⟨w.heap.size, 9, none⟩ (.bool false)).setCell ⟨w.heap.size, 10, none⟩ (.slice none 0 0)).setCell ⟨w.heap.size, 11, none⟩ (.int .i64 0)) w.heap.size ZM := MBox.all hX ZM
         have hY2 : Below w.heap.size w ((((((((((((((((((((((((w3.setCell ⟨w.heap.size, 0, none⟩ (.bool S'.S.s)).setCell ⟨w.heap.size, 1, none⟩ (.slice S'.S.A S'.S.n S'.S.c)).setCell ⟨w.heap.size, 2, none⟩ (.int .i64 S'.S.e)).setCell ⟨w.heap.size, 3, none⟩ (.bool S'.W.s)).setCell ⟨w.heap.size, 4, none⟩ (.slice S'.W.A S'.W.n S'.W.c)).setCell ⟨w.heap.size, 5, none⟩ (.int .i64 S'.W.e)).setCell ⟨w.heap.size, 6, none⟩ (.bool S'.C.s)).setCell ⟨w.heap.size, 7, none⟩ (.slice S'.C.A S'.C.n S'.C.c)).setCell ⟨w.heap.size, 8, none⟩ (.int .i64 S'.C.e)).setCell ⟨w.heap.size, 9, none⟩ (.bool S'.A.s)).setCell ⟨w.heap.size, 10, none⟩ (.slice S'.A.A S'.A.n S'.A.c)).setCell ⟨w.heap.size, 11, none⟩ (.int .i64 S'.A.e)).setCell ⟨w.heap.size, 0, none⟩ (.bool false)).setCell ⟨w.heap.size, 1, none⟩ (.slice none 0 0)).setCell ⟨w.heap.size, 2, none⟩ (.int .i64 0)).setCell ⟨w.heap.size, 3, none⟩ (.bool false)).setCell ⟨w.heap.size, 4, none⟩ (.slice none 0 0)).setCell ⟨w.heap.size, 5, none⟩ (.int .i64 0)).setCell ⟨w.heap.size, 6, none⟩ (.bool false)).setCell ⟨w.heap.size, 7, none⟩ (.slice none 0 0)).setCell ⟨w.heap.size, 8, none⟩ (.int .i64 0)).setCell ⟨w.heap.size, 9, none⟩ (.bool false)).setCell ⟨w.heap.size, 10, none⟩ (.slice none 0 0)).setCell ⟨w.heap.size, 11, none⟩ (.int .i64 0)) := below_all hY (Nat.le_refl _) ZM
         clear z0 z1 z2 z3 z4 z5 z6 z7 z8 z9 z10 z11 zf hX hY
         generalize ((((((((((((((((((((((((w3.setCell ⟨w.heap.size, 0, none⟩ (.bool S'.S.s)).setCell ⟨w.heap.size, 1, none⟩ (.slice S'.S.A S'.S.n S'.S.c)).setCell ⟨w.heap.size, 2, none⟩ (.int .i64 S'.S.e)).setCell ⟨w.heap.size, 3, none⟩ (.bool S'.W.s)).setCell ⟨w.heap.size, 4, none⟩ (.slice S'.W.A S'.W.n S'.W.c)).setCell ⟨w.heap.size, 5, none⟩ (.int .i64 S'.W.e)).setCell ⟨w.heap.size, 6, none⟩ (.bool S'.C.s)).setCell ⟨w.heap.size, 7, none⟩ (.slice S'.C.A S'.C.n S'.C.c)).setCell ⟨w.heap.size, 8, none⟩ (.int .i64 S'.C.e)).setCell ⟨w.heap.size, 9, none⟩ (.bool S'.A.s)).setCell ⟨w.heap.size, 10, none⟩ (.slice S'.A.A S'.A.n S'.A.c)).setCell ⟨w.heap.size, 11, none⟩ (.int .i64 S'.A.e)).setCell ⟨w.heap.size, 0, none⟩ (.bool false)).setCell ⟨w.heap.size, 1, none⟩ (.slice none 0 0)).setCell ⟨w.heap.size, 2, none⟩ (.int .i64 0)).setCell ⟨w.heap.size, 3, none⟩ (.bool false)).setCell ⟨w.heap.size, 4, none⟩ (.slice none 0 0)).setCell ⟨w.heap.size, 5, none⟩ (.int .i64 0)).setCell ⟨w.heap.size, 6, none⟩ (.bool false)).setCell ⟨w.heap.size, 7, none⟩ (.slice none 0 0)).setCell ⟨w.heap.size, 8, none⟩ (.int .i64 0)).setCell ⟨w.heap.size, 9, none⟩ (.bool false)).setCell ⟨w.heap.size, 10, none⟩ (.slice none 0 0)).setCell ⟨w.heap.size, 11, none⟩ (.int .i64 0)) = U at *
         obtain ⟨M, hMe⟩ : ∃ M : Mv, M = ZM := ⟨_, rfl⟩
         rw [← hMe] at hX2
         obtain ⟨⟨k0, k1, k2, k3, k4, k5, k6, k7, k8, k9, k10, k11⟩, kf⟩ := MBox.cells hX2
         refine bodyPost_ret (v := .tuple #[.agg #[.bool M.S.s, .slice M.S.A M.S.n M.S.c, .int .i64 M.S.e, .bool M.W.s, .slice M.W.A M.W.n M.W.c, .int .i64 M.W.e, .bool M.C.s, .slice M.C.A M.C.n M.C.c, .int .i64 M.C.e, .bool M.A.s, .slice M.A.A M.A.n M.A.c, .int .i64 M.A.e], .int .i64 10]) (by simp [results, Tryd.results31, go_sem, k0, k1, k2, k3, k4, k5, k6, k7, k8, k9, k10, k11]) rfl ⟨M, rfl, hY2, ?_, ?_⟩
         · rw [hMe]
           exact IsM.zero
         · rw [hMe]
           exact ZM_rows ..
     · have hin2 : ms.length ≤ i := by have := HL.out; omega
       have hcode : (R', (0 : Int)) = (R, code) := by
        have e := hI.out.2.2
        rw [List.drop_eq_nil_of_le hin2] at e
        have e2 := H2.out
        rw [← e] at e2
        exact e2
       injection hcode with hR hcd
       subst hR hcd
       have HI := Lib.hid hI.out.1
       clear hI hLr
       obtain ⟨⟨z0, z1, z2, z3, z4, z5, z6, z7, z8, z9, z10, z11⟩, zf⟩ := MBox.cells hS1
       go_wp2
       have hX2 : MBox ((((((((((((wr.setCell ⟨w.heap.size, 0, none⟩ (.bool S.S.s)).setCell ⟨w.heap.size, 1, none⟩ (.slice S.S.A S.S.n S.S.c)).setCell ⟨w.heap.size, 2, none⟩ (.int .i64 S.S.e)).setCell ⟨w.heap.size, 3, none⟩ (.bool S.W.s)).setCell ⟨w.heap.size, 4, none⟩ (.slice S.W.A S.W.n S.W.c)).setCell ⟨w.heap.size, 5, none⟩ (.int .i64 S.W.e)).setCell ⟨w.heap.size, 6, none⟩ (.bool S.C.s)).setCell ⟨w.heap.size, 7, none⟩ (.slice S.C.A S.C.n S.C.c)).setCell ⟨w.heap.size, 8, none⟩ (.int .i64 S.C.e)).setCell ⟨w.heap.size, 9, none⟩ (.bool S.A.s)).setCell ⟨w.heap.size, 10, none⟩ (.slice S.A.A S.A.n S.A.c)).setCell ⟨w.heap.size, 11, none⟩ (.int .i64 S.A.e)) w.heap.size S := MBox.all hS1 S
       have hY2 : Below w.heap.size w ((((((((((((wr.setCell ⟨w.heap.size, 0, none⟩ (.bool S.S.s)).setCell ⟨w.heap.size, 1, none⟩ (.slice S.S.A S.S.n S.S.c)).setCell ⟨w.heap.size, 2, none⟩ (.int .i64 S.S.e)).setCell ⟨w.heap.size, 3, none⟩ (.bool S.W.s)).setCell ⟨w.heap.size, 4, none⟩ (.slice S.W.A S.W.n S.W.c)).setCell ⟨w.heap.size, 5, none⟩ (.int .i64 S.W.e)).setCell ⟨w.heap.size, 6, none⟩ (.bool S.C.s)).setCell ⟨w.heap.size, 7, none⟩ (.slice S.C.A S.C.n S.C.c)).setCell ⟨w.heap.size, 8, none⟩ (.int .i64 S.C.e)).setCell ⟨w.heap.size, 9, none⟩ (.bool S.A.s)).setCell ⟨w.heap.size, 10, none⟩ (.slice S.A.A S.A.n S.A.c)).setCell ⟨w.heap.size, 11, none⟩ (.int .i64 S.A.e)) := below_all hb (Nat.le_refl _) S
       have hRX : MRows ((((((((((((wr.setCell ⟨w.heap.size, 0, none⟩ (.bool S.S.s)).setCell ⟨w.heap.size, 1, none⟩ (.slice S.S.A S.S.n S.S.c)).setCell ⟨w.heap.size, 2, none⟩ (.int .i64 S.S.e)).setCell ⟨w.heap.size, 3, none⟩ (.bool S.W.s)).setCell ⟨w.heap.size, 4, none⟩ (.slice S.W.A S.W.n S.W.c)).setCell ⟨w.heap.size, 5, none⟩ (.int .i64 S.W.e)).setCell ⟨w.heap.size, 6, none⟩ (.bool S.C.s)).setCell ⟨w.heap.size, 7, none⟩ (.slice S.C.A S.C.n S.C.c)).setCell ⟨w.heap.size, 8, none⟩ (.int .i64 S.C.e)).setCell ⟨w.heap.size, 9, none⟩ (.bool S.A.s)).setCell ⟨w.heap.size, 10, none⟩ (.slice S.A.A S.A.n S.A.c)).setCell ⟨w.heap.size, 11, none⟩ (.int .i64 S.A.e)) (w.heap.size + 1) wr.heap.size S := rows_all hRS (g := w.heap.size) (.inl (by omega)) S
       have hsX : ((((((((((((wr.setCell ⟨w.heap.size, 0, none⟩ (.bool S.S.s)).setCell ⟨w.heap.size, 1, none⟩ (.slice S.S.A S.S.n S.S.c)).setCell ⟨w.heap.size, 2, none⟩ (.int .i64 S.S.e)).setCell ⟨w.heap.size, 3, none⟩ (.bool S.W.s)).setCell ⟨w.heap.size, 4, none⟩ (.slice S.W.A S.W.n S.W.c)).setCell ⟨w.heap.size, 5, none⟩ (.int .i64 S.W.e)).setCell ⟨w.heap.size, 6, none⟩ (.bool S.C.s)).setCell ⟨w.heap.size, 7, none⟩ (.slice S.C.A S.C.n S.C.c)).setCell ⟨w.heap.size, 8, none⟩ (.int .i64 S.C.e)).setCell ⟨w.heap.size, 9, none⟩ (.bool S.A.s)).setCell ⟨w.heap.size, 10, none⟩ (.slice S.A.A S.A.n S.A.c)).setCell ⟨w.heap.size, 11, none⟩ (.int .i64 S.A.e)).heap.size = wr.heap.size := size_all S
       have hsX1 : wr.heap.size ≤ ((((((((((((wr.setCell ⟨w.heap.size, 0, none⟩ (.bool S.S.s)).setCell ⟨w.heap.size, 1, none⟩ (.slice S.S.A S.S.n S.S.c)).setCell ⟨w.heap.size, 2, none⟩ (.int .i64 S.S.e)).setCell ⟨w.heap.size, 3, none⟩ (.bool S.W.s)).setCell ⟨w.heap.size, 4, none⟩ (.slice S.W.A S.W.n S.W.c)).setCell ⟨w.heap.size, 5, none⟩ (.int .i64 S.W.e)).setCell ⟨w.heap.size, 6, none⟩ (.bool S.C.s)).setCell ⟨w.heap.size, 7, none⟩ (.slice S.C.A S.C.n S.C.c)).setCell ⟨w.heap.size, 8, none⟩ (.int .i64 S.C.e)).setCell ⟨w.heap.size, 9, none⟩ (.bool S.A.s)).setCell ⟨w.heap.size, 10, none⟩ (.slice S.A.A S.A.n S.A.c)).setCell ⟨w.heap.size, 11, none⟩ (.int .i64 S.A.e)).heap.size := Nat.le_of_eq hsX.symm
       clear z0 z1 z2 z3 z4 z5 z6 z7 z8 z9 z10 z11 zf hsX
       generalize ((((((((((((wr.setCell ⟨w.heap.size, 0, none⟩ (.bool S.S.s)).setCell ⟨w.heap.size, 1, none⟩ (.slice S.S.A S.S.n S.S.c)).setCell ⟨w.heap.size, 2, none⟩ (.int .i64 S.S.e)).setCell ⟨w.heap.size, 3, none⟩ (.bool S.W.s)).setCell ⟨w.heap.size, 4, none⟩ (.slice S.W.A S.W.n S.W.c)).setCell ⟨w.heap.size, 5, none⟩ (.int .i64 S.W.e)).setCell ⟨w.heap.size, 6, none⟩ (.bool S.C.s)).setCell ⟨w.heap.size, 7, none⟩ (.slice S.C.A S.C.n S.C.c)).setCell ⟨w.heap.size, 8, none⟩ (.int .i64 S.C.e)).setCell ⟨w.heap.size, 9, none⟩ (.bool S.A.s)).setCell ⟨w.heap.size, 10, none⟩ (.slice S.A.A S.A.n S.A.c)).setCell ⟨w.heap.size, 11, none⟩ (.int .i64 S.A.e)) = U at *
       obtain ⟨⟨k0, k1, k2, k3, k4, k5, k6, k7, k8, k9, k10, k11⟩, kf⟩ := MBox.cells hX2
       exact bodyPost_ret (v := .tuple #[.agg #[.bool S.S.s, .slice S.S.A S.S.n S.S.c, .int .i64 S.S.e, .bool S.W.s, .slice S.W.A S.W.n S.W.c, .int .i64 S.W.e, .bool S.C.s, .slice S.C.A S.C.n S.C.c, .int .i64 S.C.e, .bool S.A.s, .slice S.A.A S.A.n S.A.c, .int .i64 S.A.e], .int .i64 0]) (by simp [results, Tryd.results31, go_sem, k0, k1, k2, k3, k4, k5, k6, k7, k8, k9, k10, k11]) rfl ⟨S, rfl, hY2, HI.out, hRX.more (by omega) hsX1⟩
end Ma
end Go.Proofs.YtbbnbgllgomolaaDoor
namespace Go.Proofs.YtbbnbgllgomolaaDoor
open Go.RowKit
namespace Ma
open Dp Dy
/-- A mass's cells. -/
def cells12 (m : Mv) : List Value := [.bool m.S.s, .slice m.S.A m.S.n m.S.c, .int .i64 m.S.e, .bool m.W.s, .slice m.W.A m.W.n m.W.c, .int .i64 m.W.e, .bool m.C.s, .slice m.C.A m.C.n m.C.c, .int .i64 m.C.e, .bool m.A.s, .slice m.A.A m.A.n m.A.c, .int .i64 m.A.e]
/-- Those of masses. -/
def flatM : List Mv → List Value
 | [] => []
 | m :: l => cells12 m ++ flatM l
theorem flatM_len : ∀ l, (flatM l).length = l.length * 12
 | [] => rfl
 | m :: l => by simp [flatM, cells12, flatM_len l]; omega
theorem flatM_append : ∀ l k, flatM (l ++ k) = flatM l ++ flatM k
 | [], _ => rfl
 | m :: l, k => by simp [flatM, flatM_append l k]
theorem flatM_one (m : Mv) : flatM [m] = cells12 m := by simp [flatM]
theorem cells12_one (m : Mv) : ∀ u ∈ cells12 m, u.oneCell' = true := by
 intro u hu
 simp only [cells12, List.mem_cons, List.not_mem_nil, or_false] at hu
 rcases hu with rfl | rfl | rfl | rfl | rfl | rfl | rfl | rfl | rfl | rfl | rfl | rfl <;> rfl
theorem flatM_get : ∀ (l : List Mv) (j k : Nat) (h : j < l.length), k < 12 → (flatM l)[j * 12 + k]? = (cells12 l[j])[k]?
 | [], j, k, h, _ => absurd h (Nat.not_lt_zero _)
 | m :: l, 0, k, _, hk => by
  simp only [flatM, Nat.zero_mul, Nat.zero_add, List.getElem_cons_zero]
  rw [List.getElem?_append_left (by simp [cells12]; omega)]
 | m :: l, j + 1, k, h, hk => by
  have e : (j + 1) * 12 + k = (cells12 m).length + (j * 12 + k) := by simp [cells12]; omega
  simp only [flatM, List.getElem_cons_succ]
  rw [e, List.getElem?_append_right (by omega), Nat.add_sub_cancel_left]
  exact flatM_get l j k (by simpa using h) hk
theorem mcells_of {w : World} {b o : Nat} {m : Mv} (h : ∀ k, k < 12 → w.cell? ⟨b, o + k, none⟩ = (cells12 m)[k]?) : MCells w b o m :=
 ⟨h 0 (by decide), h 1 (by decide), h 2 (by decide), h 3 (by decide), h 4 (by decide), h 5 (by decide), h 6 (by decide), h 7 (by decide), h 8 (by decide), h 9 (by decide), h 10 (by decide), h 11 (by decide)⟩
/-- A dyad's limbs lie in another block. -/
def Dv.off (d : Dv) (g : Option Nat) : Prop := ∀ a, d.A = some a → 0 < d.n → g ≠ some a.block
def Mv.off (m : Mv) (g : Option Nat) : Prop := ∀ x, x < 4 → (m.get x).off g
theorem ints_grown {w w' : World} {row : Option Nat} {k : IntKind} {A : Option Addr} {n : Nat} {xs : List Int} (h : Ints w 0 w.heap.size k A n xs) (hg : w.grownBy w' row) (hr : ∀ a, A = some a → 0 < n → row ≠ some a.block) : Ints w' 0 w'.heap.size k A n xs := by
 refine ⟨h.len, h.wf, h.big, fun h0 => ?_⟩
 obtain ⟨b, off, e, h1, h2, hc⟩ := h.row h0
 have hb := hg.block b h2 (fun k => hr _ e h0 k.symm)
 exact ⟨b, off, e, h1, Nat.lt_of_lt_of_le h2 hg.size, fun j hj => ⟨(World.cell?_of_block hb).trans (hc j hj).1, (World.frozen?_of_block hb).trans (hc j hj).2⟩⟩
theorem rows_grown {w w' : World} {row : Option Nat} {m : Mv} (h : MRows w 0 w.heap.size m) (hg : w.grownBy w' row) (hr : m.off row) : MRows w' 0 w'.heap.size m :=
 ⟨ints_grown h.S hg (hr 0 (by decide)), ints_grown h.W hg (hr 1 (by decide)), ints_grown h.C hg (hr 2 (by decide)), ints_grown h.A hg (hr 3 (by decide))⟩
theorem off_none (m : Mv) : m.off none := fun _ _ _ _ _ h => by cases h
/-- Rows below a block, or behind it, are off it. -/
theorem rows_off {w : World} {lo hi : Nat} {m : Mv} (h : MRows w lo hi m) {g : Option Nat} (hg : ∀ k, g = some k → k < lo ∨ hi ≤ k) : m.off g := fun x _ a e h0 hk => by
 obtain ⟨b, off, e', h1, h2, _⟩ := (h.get x).row h0
 rw [e'] at e
 injection e with e
 subst e
 have := hg _ hk
 simp only at this
 omega
theorem grown_of_below {w w' : World} (hb : Below w.heap.size w w') (row : Option Nat) : w.grownBy w' row := ⟨hb.os, hb.tape, hb.output, hb.size, fun k hk _ => hb.block k hk⟩
/-- A list of masses that the call owns. -/
structure OwnM (w : World) (base : Nat) (v : Value) (n : Nat) (ms : List Mv) : Prop where
 own : w.ownsRow base 26 12 v n (flatM ms)
 len : ms.length = n
 rows : ∀ m ∈ ms, MRows w 0 w.heap.size m
 off : ∀ m ∈ ms, m.off v.ownBlock
theorem OwnM.nil_ (w : World) (base : Nat) : OwnM w base (.slice none 0 0) 0 [] := ⟨World.ownsRow_nil .., rfl, fun _ h => absurd h (by simp), fun _ h => absurd h (by simp)⟩
theorem OwnM.on {w w' : World} {base : Nat} {v : Value} {n : Nat} {ms : List Mv} (h : OwnM w base v n ms) (hb : Below w.heap.size w w') : OwnM w' base v n ms :=
 ⟨h.own.kept (grown_of_below hb none) (by cases v.ownBlock <;> simp), h.len, fun m hm => ((h.rows m hm).below hb (Nat.le_refl _)).more (Nat.le_refl _) hb.size, h.off⟩
theorem OwnM.push {w w' : World} {base : Nat} {v v' : Value} {n : Nat} {ms : List Mv} (h : OwnM w base v n ms) {d : Mv} (hd : MRows w 0 w.heap.size d) (ho : d.off v.ownBlock)
  (hown : w'.ownsRow base 26 12 v' (n + 1) (flatM ms ++ cells12 d)) (hg : w.grownBy w' v.ownBlock) (hob : v'.ownBlock = v.ownBlock ∨ v'.ownBlock = some w.heap.size) : OwnM w' base v' (n + 1) (ms ++ [d]) := by
 refine ⟨by rw [flatM_append, flatM_one]; exact hown, by simp [h.len], fun m hm => ?_, fun m hm => ?_⟩
 · rcases List.mem_append.1 hm with hm | hm
   · exact rows_grown (h.rows m hm) hg (h.off m hm)
   · obtain rfl : m = d := by simpa using hm
     exact rows_grown hd hg ho
 · have hrow : MRows w 0 w.heap.size m ∧ m.off v.ownBlock := by
     rcases List.mem_append.1 hm with hm | hm
     · exact ⟨h.rows m hm, h.off m hm⟩
     · obtain rfl : m = d := by simpa using hm
       exact ⟨hd, ho⟩
   rcases hob with e | e
   · rw [e]
     exact hrow.2
   · rw [e]
     exact rows_off hrow.1 fun k hk => by
      injection hk with hk
      omega
theorem OwnM.shape {w : World} {base : Nat} {v : Value} {n : Nat} {ms : List Mv} (h : OwnM w base v n ms) : ∃ A c, v = .slice A n c ∧ n ≤ c ∧ c ≤ maxLen := own_shape h.own
/-- It reads as a list. -/
theorem OwnM.lms {w : World} {base c : Nat} {A : Option Addr} {n : Nat} {ms : List Mv} (h : OwnM w base (.slice A n c) n ms) : LMs w 0 w.heap.size A n ms := by
 have hcap : n ≤ 9223372036854775807 := by
  obtain ⟨A', c', e, h1, h2⟩ := own_shape h.own
  unfold maxLen at h2
  omega
 refine ⟨h.len, hcap, fun h0 => ?_, fun j hj => h.rows _ (List.getElem_mem hj)⟩
 rcases h.own.2 with ⟨e, e0⟩ | ⟨g, cap, cur, e, hb, hg, _⟩
 · omega
 · have hown := h.own
   rw [e] at hown
   injection e with e1 e2 e3
   refine ⟨g, 0, e1, Nat.zero_le _, (Array.getElem?_eq_some_iff.1 hg).1, fun j hj => ?_⟩
   rw [Nat.zero_add]
   refine mcells_of fun k hk => ?_
   have hlt : j * 12 + k < n * 12 := by have := h.len; omega
   rw [hown.cellAt (j * 12 + k) hlt]
   exact flatM_get ms j k hj hk
theorem LMs.rng {w w' : World} {lo hi : Nat} {A : Option Addr} {n : Nat} {ms : List Mv} (h : LMs w lo hi A n ms) (hk : ∀ b, lo ≤ b → b < hi → w'.heap[b]? = w.heap[b]?) : LMs w' lo hi A n ms :=
 ⟨h.len, h.big, fun h0 => by
  obtain ⟨b, off, e, h1, h2, hc⟩ := h.row h0
  exact ⟨b, off, e, h1, h2, fun j hj => (hc j hj).blk (hk b h1 h2)⟩, fun j hj => rows_rng (h.rows j hj) hk⟩
theorem LMs.on {w w' : World} {A : Option Addr} {n : Nat} {ms : List Mv} (h : LMs w 0 w.heap.size A n ms) (hb : Below w.heap.size w w') : LMs w' 0 w'.heap.size A n ms := (h.below hb (Nat.le_refl _)).more (Nat.le_refl _) hb.size
/-- One mass in a block of its own, to be appended. -/
theorem raw_oneM (w : World) (m : Mv) {W : World} (hW : w.alloc (.cells #[.bool m.S.s, .slice m.S.A m.S.n m.S.c, .int .i64 m.S.e, .bool m.W.s, .slice m.W.A m.W.n m.W.c, .int .i64 m.W.e, .bool m.C.s, .slice m.C.A m.C.n m.C.c, .int .i64 m.C.e, .bool m.A.s, .slice m.A.A m.A.n m.A.c, .int .i64 m.A.e] 26) = W) : Raw W 0 (w.heap.size + 1) (some ⟨w.heap.size, 0, none⟩) (1 * 12) (cells12 m) := by
 subst hW
 have hX := heap_alloc_last w (.cells #[.bool m.S.s, .slice m.S.A m.S.n m.S.c, .int .i64 m.S.e, .bool m.W.s, .slice m.W.A m.W.n m.W.c, .int .i64 m.W.e, .bool m.C.s, .slice m.C.A m.C.n m.C.c, .int .i64 m.C.e, .bool m.A.s, .slice m.A.A m.A.n m.A.c, .int .i64 m.A.e] 26)
 refine ⟨rfl, fun _ => ⟨w.heap.size, 0, rfl, Nat.zero_le _, by omega, fun j hj => ⟨?_, frozen_of_row _ _ _ _ _ hX⟩⟩⟩
 rw [cell_of_row _ _ _ _ _ _ hX]
 simp [cells12]
end Ma
end Go.Proofs.YtbbnbgllgomolaaDoor
namespace Go.Proofs.YtbbnbgllgomolaaDoor
open Go.RowKit
namespace Ma
open Dp Dy
theorem sumM_codes {ms : List Mv} {R : Nat → Dn} {code : Int} (h : sumM ms = (R, code)) : MayR R := by
 unfold sumM at h
 split at h
 · injection h with h1 h2
   subst h1
   exact zR_may
 · split at h
   · injection h with h1 h2
     subst h1
     exact zR_may
   · split at h
     · rename_i S hS
       injection h with h1 h2
       subst h1
       have key : ∀ (l : List Mv) (R S : Nat → Dn), MayR R → foldM R l = some S → MayR S := by
        intro l
        induction l with
        | nil =>
         intro R S hR hS
         simp only [foldM, Option.some.injEq] at hS
         subst hS
         exact hR
        | cons m l ih =>
         intro R S _ hS
         rw [foldM_cons] at hS
         split at hS
         · exact ih _ _ (fun x _ => add_may ..) hS
         · cases hS
       exact key _ _ _ zR_may hS
     · injection h with h1 h2
       subst h1
       exact zR_may
end Ma
end Go.Proofs.YtbbnbgllgomolaaDoor
namespace Go.Proofs.YtbbnbgllgomolaaDoor
open Go.RowKit
namespace Ma
open Dp Dy
/-- Copies, one by one. -/
def Twins : List Mv → List Mv → Prop
 | [], [] => True
 | a :: l, u :: k => (∀ x, x < 4 → TwinV (a.get x) (u.get x)) ∧ Twins l k
 | _, _ => False
theorem Twins.len : ∀ {l k : List Mv}, Twins l k → k.length = l.length
 | [], [], _ => rfl
 | _ :: _, _ :: _, h => by simp [Twins.len h.2]
 | [], _ :: _, h => h.elim
 | _ :: _, [], h => h.elim
theorem Twins.get : ∀ {l k : List Mv}, Twins l k → ∀ (j : Nat) (h : j < l.length) (h' : j < k.length), ∀ x, x < 4 → TwinV (l[j].get x) (k[j].get x)
 | [], [], _, j, h, _ => absurd h (Nat.not_lt_zero _)
 | _ :: _, _ :: _, h, 0, _, _ => h.1
 | _ :: _, _ :: _, h, j + 1, h1, h2 => Twins.get h.2 j (by simpa using h1) (by simpa using h2)
 | [], _ :: _, h, _, _, _ => h.elim
 | _ :: _, [], h, _, _, _ => h.elim
theorem twins_dn {a u : Mv} (h : ∀ x, x < 4 → TwinV (a.get x) (u.get x)) : dnM u = dnM a := by
 funext j
 obtain ⟨g1, _, g3, g4, _⟩ := twin_all h j
 unfold dnM
 rw [g1, g3, g4]
theorem Twins.fold : ∀ {l k : List Mv}, Twins l k → ∀ R, foldM R k = foldM R l
 | [], [], _, _ => rfl
 | a :: l, u :: k, h, R => by
  rw [foldM_cons, foldM_cons, twins_dn h.1]
  by_cases hc : ∀ x, x < 4 → (addD (R x) (dnM a x)).2 = 0
  · rw [if_pos hc, if_pos hc]
    exact Twins.fold h.2 _
  · rw [if_neg hc, if_neg hc]
 | [], _ :: _, h, _ => h.elim
 | _ :: _, [], h, _ => h.elim
theorem Twins.bad : ∀ {l k : List Mv}, Twins l k → ((∃ m ∈ k, ¬ m.may) ↔ ∃ m ∈ l, ¬ m.may)
 | [], [], _ => by simp
 | a :: l, u :: k, h => by
  have ih := Twins.bad h.2
  have hm := twin_may h.1
  simp only [List.mem_cons, exists_eq_or_imp]
  rw [ih, hm]
 | [], _ :: _, h => h.elim
 | _ :: _, [], h => h.elim
theorem Twins.sum {l k : List Mv} (h : Twins l k) : sumM k = sumM l := by
 unfold sumM
 rw [h.len, h.fold]
 by_cases hl : 4096 < l.length
 · rw [if_pos hl, if_pos hl]
 · rw [if_neg hl, if_neg hl]
   by_cases hb : ∃ m ∈ l, ¬ m.may
   · rw [if_pos hb, if_pos (h.bad.2 hb)]
   · rw [if_neg hb, if_neg (fun k => hb (h.bad.1 k))]
theorem sumM_many {ms : List Mv} (h : 4096 < ms.length) : sumM ms = (zR, 4) := by
 unfold sumM
 rw [if_pos h]
/-- mass.Sum, of lists of any length. -/
theorem MSum_all (w : World) (A : Option Addr) (n c : Nat) (ms : List Mv) (hL : LMs w 0 w.heap.size A n ms) (hT : Tab w) (R : Nat → Dn) (code : Int) (h : sumM ms = (R, code)) :
  Calls Tryd.prog 31 #[.slice A n c] w fun e w' => ∃ m' : Mv, e = .returned (.tuple #[.agg #[.bool m'.S.s, .slice m'.S.A m'.S.n m'.S.c, .int .i64 m'.S.e, .bool m'.W.s, .slice m'.W.A m'.W.n m'.W.c, .int .i64 m'.W.e, .bool m'.C.s, .slice m'.C.A m'.C.n m'.C.c, .int .i64 m'.C.e, .bool m'.A.s, .slice m'.A.A m'.A.n m'.A.c, .int .i64 m'.A.e], .int .i64 code]) ∧ Below w.heap.size w w' ∧ IsM R m' ∧ MRows w' w.heap.size w'.heap.size m' := by
 by_cases hn : n ≤ 4096
 · exact MSum_any w A n c ms hL hn hT R code h
 · rw [sumM_many (by rw [hL.len]; omega)] at h
   injection h with h1 h2
   subst h1 h2
   exact (MSum_many w A n c (by omega)).mono fun e w' ⟨h1, h2⟩ => ⟨ZM, h1, h2, IsM.zero, ZM_rows ..⟩
end Ma
end Go.Proofs.YtbbnbgllgomolaaDoor
namespace Go.Proofs.YtbbnbgllgomolaaDoor
open Go.ChangeShapes Go.WideShapes Go.ChangeAt Go.RowKit
section
variable {H : Type} {enc : TypeId × Value → H} {P : Program} {W W' : World}
theorem trodAll_below (hl : laidOutB P = true) (hb : Below W.heap.size W W') : ∀ (ts : List TypeId) (vs : List Value) (ds : List (DataW H)) (ps : List MemPlace),
  DataW.TrodAll enc P W 0 (fun _ => true) true ts vs ds ps → (∀ t ∈ ts, P.readableRec t = true ∧ t < P.types.size) → (∀ x ∈ ps, x.block < W.heap.size) →
  DataW.TrodAll enc P W' 0 (fun b => decide (b < W.heap.size)) true ts vs ds ps
 | [], vs, ds, ps, h, _, _ => by
  obtain ⟨rfl, rfl, rfl⟩ := trodAll_nil h
  exact rfl
 | t :: ts, vs, ds, ps, h, hr, hlt => by
  obtain ⟨v, vs', d, ds', p, q, rfl, rfl, rfl, h1, h2⟩ := trodAll_cons h
  obtain ⟨r1, r2⟩ := hr t (List.mem_cons_self ..)
  exact ⟨p, q, Below.trod hl r1 r2 h1 hb fun x hx => hlt x (List.mem_append_left _ hx), trodAll_below hl hb ts vs' ds' q h2 (fun t ht => hr t (List.mem_cons_of_mem _ ht)) fun x hx => hlt x (List.mem_append_right _ hx), rfl⟩
/-- A law that answers true and leaves what was there as it was. -/
theorem law_post {f : Func} {s : ChangeSpec} {args : Array Value} {ds gs : List (DataW H)} {before : List MemPlace} (hW : DataW.Whole enc P f.params.toList s.vars false W args.toList ds gs before)
  (hv : s.vars = []) (hl : laidOutB P = true) (hr : f.params.toList.all (fun t => P.readableRec t && decide (t < P.types.size)) = true) {tb : TypeId} (hres : f.resultTypes = #[tb]) (htb : P.underlying tb = some .bool)
  (h1 : (s.fn H (ds ++ gs)).results = [.lit (.bool true)]) (h2 : (s.fn H (ds ++ gs)).args = ds) (h3 : (s.fn H (ds ++ gs)).vars = []) (hb : Below W.heap.size W W') : s.post enc P f false true false false W args (.bool true) W' := by
 have hW' := hW
 obtain ⟨p, q, hA, hV, rfl, hfz, hnd⟩ := hW
 have hr' : ∀ t ∈ f.params.toList, P.readableRec t = true ∧ t < P.types.size := fun t ht => by
  have := List.all_eq_true.1 hr t ht
  simpa using this
 refine ⟨ds, gs, _, [], p, [], hW', ?_, ?_, ?_, hb.frame _, fun h => by cases h⟩
 · rw [h1, hres]
   exact trodAll_mk1 (shut_bool htb true)
 · rw [h2]
   exact trodAll_below hl hb _ _ _ _ hA hr' fun x hx => hW'.lt x (List.mem_append_left _ hx)
 · rw [h3, hv]
   rfl
/-- A slice of whole numbers among the arguments. -/
theorem ints_open {t e : TypeId} {k : IntKind} {r : Reach} {b0 : Nat} {v : Value} {d : DataW H} {p : List MemPlace} (ht : P.underlying t = some (.slice e)) (he : P.underlying e = some (.int k)) (hc : P.cellsOf e = 1)
  (hval : Value.okWide P W r b0 t v) (h : DataW.Trod enc P W 0 (fun _ => true) true t v d p) (hfz : ∀ b off, MemPlace.cell b off ∈ p → W.frozen? ⟨b, off, none⟩ = false) (hlt : ∀ x ∈ p, x.block < W.heap.size) :
  ∃ A n c xs, v = .slice A n c ∧ n ≤ c ∧ Ints W 0 W.heap.size k A n xs := by
 obtain ⟨A, n, c, rfl⟩ := okWide_slice ht hval
 obtain ⟨fuel, hf⟩ := h
 rcases open_ints ht he hc hf with ⟨hcs, hx⟩ | ⟨a, len, cap, zs, hcs, _, hl, hm, hz, hx, hcell, hwz⟩
 · simp [Value.cells] at hcs
   obtain ⟨rfl, rfl, rfl⟩ := hcs
   exact ⟨none, 0, 0, [], rfl, Nat.le_refl _, Ints.nil_ ..⟩
 · simp [Value.cells] at hcs
   obtain ⟨rfl, rfl, rfl⟩ := hcs
   simp only [if_true] at hz
   refine ⟨some a, n, c, zs.take n, rfl, hl, by simp; omega, fun x hx => ?_, by unfold maxLen at hm; omega, fun h0 => ?_⟩
   · have := hwz x (List.mem_of_mem_take hx)
     simpa [Lit.wf] using this
   · obtain ⟨b, off, spot⟩ := a
     have hspot : spot = none := by simpa [Addr.add] using World.cell?_spot (hcell 0 (by omega))
     subst hspot
     simp only [Prod.mk.injEq] at hx
     obtain ⟨_, rfl⟩ := hx
     have hmem : ∀ j, j < n → MemPlace.cell b (off + j) ∈ MemPlace.row ⟨b, off, none⟩ zs.length := fun j hj => MemPlace.mem_row.2 ⟨j, by omega, rfl⟩
     refine ⟨b, off, rfl, Nat.zero_le _, hlt _ (hmem 0 h0), fun j hj => ⟨?_, hfz _ _ (hmem j hj)⟩⟩
     have := hcell j (by omega)
     rw [add_plain] at this
     rw [this, List.getElem?_take, if_pos hj]
     simp [List.getD]
end
end Go.Proofs.YtbbnbgllgomolaaDoor
namespace Go.Proofs.YtbbnbgllgomolaaDoor
open Go.ChangeShapes Go.WideShapes Go.ChangeAt Go.RowKit Go.Joins Go.Deep
section
variable {H : Type} {enc : TypeId × Value → H} {P : Program} {W W' : World}
theorem ints_trod {t e : TypeId} {k : IntKind} {fuel : Nat} {v : Value} {x : DataW H × List MemPlace} (ht : P.underlying t = some (.slice e)) (he : P.underlying e = some (.int k)) (hc : P.cellsOf e = 1)
  (h : DataW.trod enc P W 0 (fun _ => true) true fuel t [v] = some x) (hfz : ∀ b off, MemPlace.cell b off ∈ x.2 → W.frozen? ⟨b, off, none⟩ = false) (hlt : ∀ q ∈ x.2, q.block < W.heap.size) :
  ∃ A n c xs, v = .slice A n c ∧ n ≤ c ∧ Ints W 0 W.heap.size k A n xs := by
 rcases open_ints ht he hc h with ⟨hcs, hx⟩ | ⟨a, len, cap, zs, hcs, _, hl, hm, hz, hx, hcell, hwz⟩
 · injection hcs with hcs
   exact ⟨none, 0, 0, [], hcs, Nat.le_refl _, Ints.nil_ ..⟩
 · injection hcs with hcs
   simp only [if_true] at hz
   refine ⟨some a, len, cap, zs.take len, hcs, hl, by simp; omega, fun y hy => ?_, by unfold maxLen at hm; omega, fun h0 => ?_⟩
   · have := hwz y (List.mem_of_mem_take hy)
     simpa [Lit.wf] using this
   · obtain ⟨b, off, spot⟩ := a
     have hspot : spot = none := by simpa [Addr.add] using World.cell?_spot (hcell 0 (by omega))
     subst hspot
     have hmem : ∀ j, j < len → MemPlace.cell b (off + j) ∈ x.2 := fun j hj => by
      rw [hx]
      exact MemPlace.mem_row.2 ⟨j, by omega, rfl⟩
     refine ⟨b, off, rfl, Nat.zero_le _, hlt _ (hmem 0 h0), fun j hj => ⟨?_, hfz _ _ (hmem j hj)⟩⟩
     have := hcell j (by omega)
     rw [add_plain] at this
     rw [this, List.getElem?_take, if_pos hj]
     simp [List.getD]
end
end Go.Proofs.YtbbnbgllgomolaaDoor