/- headcountref06.Great: a walk (printed by a program of mine). -/
/- headcountref06.Split, Check: walks (printed by a program of mine). -/
/- headcountlaw06.spoil: a walk (printed by a program of mine). -/
/- Laws for MassTells: walks (printed by a program of mine). -/
/- mass.Sum: a walk (printed by a program of mine). -/
/- Lists of masses that a call owns: appended to, stored in; no function in sight (printed by a program of mine). -/
/- Lists of copies: no program in sight but in the contracts joined (printed by a program of mine). -/
/- What every statement's row asks beside its walk: arguments that read as data hold what our predicates say; behind the call they read as before. -/
import Derived.Test.YtbbnbgllgomolaaBz06
import Derived.Lib.MinMax
import Derived.Test.YtbbnbgllgomolaaBz05
import Derived.Test.YtbbnbgllgomolaaBz01
import Derived.Test.YtbbnbgllgomolaaBz04
import Derived.Test.YtbbnbgllgomolaaBz02
import Derived.ProofKit
namespace Go.Proofs.Ytbbnbgllgomolaa
open Go.RowKit
namespace Ma
open Dp Dy
def Dv.great (d : Dv) : Bool := Pa.Dy.great ⟨d.s, d.xs, d.e⟩
def greatM (m : Mv) : Bool := m.S.great || m.W.great || m.C.great || m.A.great
theorem great_not {m : Mv} (h : greatM m = false) : ∀ x, x < 4 → (m.get x).xs.length ≤ 42 ∧ (m.get x).e ≤ 1100 := by
 have hd : ∀ d : Dv, d.great = false → d.xs.length ≤ 42 ∧ d.e ≤ 1100 := fun d h => by
  simp [Dv.great, Pa.Dy.great] at h
  omega
 unfold greatM at h
 simp only [Bool.or_eq_false_iff] at h
 exact four (hd _ h.1.1.1) (hd _ h.1.1.2) (hd _ h.1.2) (hd _ h.2)
set_option maxHeartbeats 6400000 in
set_option maxRecDepth 100000 in
theorem RGreat_any (w : World) (m : Mv) {lo hi : Nat} (hRm : MRows w lo hi m) (k : Bool) (hk : greatM m = k) :
  Calls Try.prog 47 #[.agg #[.bool m.S.s, .slice m.S.A m.S.n m.S.c, .int .i64 m.S.e, .bool m.W.s, .slice m.W.A m.W.n m.W.c, .int .i64 m.W.e, .bool m.C.s, .slice m.C.A m.C.n m.C.c, .int .i64 m.C.e, .bool m.A.s, .slice m.A.A m.A.n m.A.c, .int .i64 m.A.e]] w fun e w' => e = .returned (.bool k) ∧ Below w.heap.size w w' := by
 have L0 := Lib.hid (hRm.get 0).len
 have L1 := Lib.hid (hRm.get 1).len
 have L2 := Lib.hid (hRm.get 2).len
 have L3 := Lib.hid (hRm.get 3).len
 unfold greatM at hk
 obtain ⟨g0, h0⟩ : ∃ g, m.S.great = g := ⟨_, rfl⟩
 obtain ⟨g1, h1⟩ : ∃ g, m.W.great = g := ⟨_, rfl⟩
 obtain ⟨g2, h2⟩ : ∃ g, m.C.great = g := ⟨_, rfl⟩
 obtain ⟨g3, h3⟩ : ∃ g, m.A.great = g := ⟨_, rfl⟩
 rw [h0, h1, h2, h3] at hk
 have HK := Lib.hid hk
 have H0 := Lib.hid h0
 have H1 := Lib.hid h1
 have H2 := Lib.hid h2
 have H3 := Lib.hid h3
 clear hk h0 h1 h2 h3
 generalize hw : w.alloc (.cells #[.bool m.S.s, .slice m.S.A m.S.n m.S.c, .int .i64 m.S.e, .bool m.W.s, .slice m.W.A m.W.n m.W.c, .int .i64 m.W.e, .bool m.C.s, .slice m.C.A m.C.n m.C.c, .int .i64 m.C.e, .bool m.A.s, .slice m.A.A m.A.n m.A.c, .int .i64 m.A.e] 27) = w1
 have hM1 : MBox w1 w.heap.size m := by rw [← hw]; exact heap_alloc_last _ _
 have hb : Below w.heap.size w w1 := by rw [← hw]; exact (Below.refl _ w).alloc (Nat.le_refl _) _
 have hlo : w.heap.size + 1 ≤ w1.heap.size := by rw [← hw]; simp
 obtain ⟨⟨k0, k1, k2, k3, k4, k5, k6, k7, k8, k9, k10, k11⟩, kf⟩ := MBox.cells hM1
 go_enter Try.func47, Try.ntmps47
 go_wp2_with fail
 try clear hw
 refine (Pa.rGreat_any w1 m.S.s m.S.A m.S.n m.S.c m.S.xs m.S.e L0.out g0 H0.out).mono ?_
 rintro e w2 ⟨rfl, hB⟩
 clear k0 k1 k2 k3 k4 k5 k6 k7 k8 k9 k10 k11 kf
 have l2 := hB.size
 replace hM1 : MBox w2 w.heap.size m := box_on hM1 hB (by omega)
 replace hb := hb.trans (hB.mono (by omega))
 clear hB
 cases g0
 rotate_left
 · go_wp2
   go_ret
   exact ⟨by rw [← HK.out]; simp, hb⟩
 · skip
   obtain ⟨⟨k0, k1, k2, k3, k4, k5, k6, k7, k8, k9, k10, k11⟩, kf⟩ := MBox.cells hM1
   go_wp2_with fail
   refine (Pa.rGreat_any w2 m.W.s m.W.A m.W.n m.W.c m.W.xs m.W.e L1.out g1 H1.out).mono ?_
   rintro e w3 ⟨rfl, hB⟩
   clear k0 k1 k2 k3 k4 k5 k6 k7 k8 k9 k10 k11 kf
   have l3 := hB.size
   replace hM1 : MBox w3 w.heap.size m := box_on hM1 hB (by omega)
   replace hb := hb.trans (hB.mono (by omega))
   clear hB
   cases g1
   rotate_left
   · go_wp2
     go_ret
     exact ⟨by rw [← HK.out]; simp, hb⟩
   · skip
     obtain ⟨⟨k0, k1, k2, k3, k4, k5, k6, k7, k8, k9, k10, k11⟩, kf⟩ := MBox.cells hM1
     go_wp2_with fail
     refine (Pa.rGreat_any w3 m.C.s m.C.A m.C.n m.C.c m.C.xs m.C.e L2.out g2 H2.out).mono ?_
     rintro e w4 ⟨rfl, hB⟩
     clear k0 k1 k2 k3 k4 k5 k6 k7 k8 k9 k10 k11 kf
     have l4 := hB.size
     replace hM1 : MBox w4 w.heap.size m := box_on hM1 hB (by omega)
     replace hb := hb.trans (hB.mono (by omega))
     clear hB
     cases g2
     rotate_left
     · go_wp2
       go_ret
       exact ⟨by rw [← HK.out]; simp, hb⟩
     · skip
       obtain ⟨⟨k0, k1, k2, k3, k4, k5, k6, k7, k8, k9, k10, k11⟩, kf⟩ := MBox.cells hM1
       go_wp2_with fail
       refine (Pa.rGreat_any w4 m.A.s m.A.A m.A.n m.A.c m.A.xs m.A.e L3.out g3 H3.out).mono ?_
       rintro e w5 ⟨rfl, hB⟩
       clear k0 k1 k2 k3 k4 k5 k6 k7 k8 k9 k10 k11 kf
       have l5 := hB.size
       replace hM1 : MBox w5 w.heap.size m := box_on hM1 hB (by omega)
       replace hb := hb.trans (hB.mono (by omega))
       clear hB
       go_wp2
       go_ret
       exact ⟨by rw [← HK.out]; simp, hb⟩
end Ma
end Go.Proofs.Ytbbnbgllgomolaa
namespace Go.Proofs.Ytbbnbgllgomolaa
open Go.RowKit
namespace Ma
open Dp Dy
/-- Each row lies in one of two ranges. -/
def TwoR (w : World) (lo hi lo' hi' : Nat) (m : Mv) : Prop := ∀ x, x < 4 → Ints w lo hi .u32 (m.get x).A (m.get x).n (m.get x).xs ∨ Ints w lo' hi' .u32 (m.get x).A (m.get x).n (m.get x).xs
theorem TwoR.below {w w' : World} {lo hi lo' hi' B : Nat} {m : Mv} (h : TwoR w lo hi lo' hi' m) (hb : Below B w w') (h1 : hi ≤ B) (h2 : hi' ≤ B) : TwoR w' lo hi lo' hi' m := fun x hx => (h x hx).imp (fun k => k.below hb h1) (fun k => k.below hb h2)
theorem TwoR.rows {w : World} {lo hi lo' hi' : Nat} {m : Mv} (h : TwoR w lo hi lo' hi' m) (h1 : hi ≤ w.heap.size) (h2 : hi' ≤ w.heap.size) : MRows w 0 w.heap.size m :=
 have k : ∀ x, x < 4 → Ints w 0 w.heap.size .u32 (m.get x).A (m.get x).n (m.get x).xs := fun x hx => (h x hx).elim (fun k => k.more (Nat.zero_le _) h1) (fun k => k.more (Nat.zero_le _) h2)
 ⟨k 0 (by decide), k 1 (by decide), k 2 (by decide), k 3 (by decide)⟩
end Ma
end Go.Proofs.Ytbbnbgllgomolaa
namespace Go.Proofs.Ytbbnbgllgomolaa
open Go.RowKit
namespace Ma
open Dp Dy
def WrM (w : World) (lo hi : Nat) (m : Mv) : Prop := ∀ x, x < 4 → 0 < (m.get x).n → ∃ b off, (m.get x).A = some ⟨b, off, none⟩ ∧ lo ≤ b ∧ b < hi ∧ WrD w b off (m.get x).n
theorem WrM.of {w w' : World} {lo hi : Nat} {m : Mv} (h : MRows w lo hi m) (hk : ∀ b, b < hi → w'.heap[b]? = w.heap[b]?) : WrM w' lo hi m := fun x hx h0 => by
 obtain ⟨b, off, e, h1, h2, hc⟩ := (h.get x).row h0
 refine ⟨b, off, e, h1, h2, fun j hj => ?_⟩
 have h3 := hk b h2
 obtain ⟨h4, h5⟩ := hc j hj
 exact ⟨⟨_, by rw [World.cell?_of_block h3]; exact h4⟩, by rw [World.frozen?_of_block h3]; exact h5⟩
def LBox (w : World) (g : Nat) (m : Mv) : Prop := w.heap[g]? = some (.cells #[.slice m.S.A m.S.n m.S.c, .slice m.W.A m.W.n m.W.c, .slice m.C.A m.C.n m.C.c, .slice m.A.A m.A.n m.A.c] 23 (0, 0))
theorem LBox.at_ {w : World} {g : Nat} {m : Mv} (h : LBox w g m) {i : Nat} (hi : i < 4) : w.cell? ⟨g, i, none⟩ = some (.slice (m.get i).A (m.get i).n (m.get i).c) := by
 unfold LBox at h
 have hi' : i = 0 ∨ i = 1 ∨ i = 2 ∨ i = 3 := by omega
 rcases hi' with rfl | rfl | rfl | rfl
 · exact cell_of_row w g 0 _ _ _ h
 · exact cell_of_row w g 1 _ _ _ h
 · exact cell_of_row w g 2 _ _ _ h
 · exact cell_of_row w g 3 _ _ _ h
end Ma
end Go.Proofs.Ytbbnbgllgomolaa
namespace Go.Proofs.Ytbbnbgllgomolaa
open Go.RowKit
namespace Ma
open Dp Dy
theorem rows_spoilt {w w' : World} {lo hi l h : Nat} {m : Mv} (hI : MRows w l h m) (hb : Below lo w w') (hf : From hi w w') (hs : h ≤ w.heap.size) (hd : h ≤ lo ∨ hi ≤ l) : MRows w' l h m :=
 ⟨ints_spoilt hI.S hb hf hs hd, ints_spoilt hI.W hb hf hs hd, ints_spoilt hI.C hb hf hs hd, ints_spoilt hI.A hb hf hs hd⟩
theorem two_spoilt {w w' : World} {lo hi l h l' h' : Nat} {m : Mv} (hI : TwoR w l h l' h' m) (hb : Below lo w w') (hf : From hi w w') (hs : h ≤ w.heap.size) (hd : h ≤ lo ∨ hi ≤ l) (hs' : h' ≤ w.heap.size) (hd' : h' ≤ lo ∨ hi ≤ l') : TwoR w' l h l' h' m :=
 fun x hx => (hI x hx).imp (fun k => ints_spoilt k hb hf hs hd) (fun k => ints_spoilt k hb hf hs' hd')
/-- The rows lie in neither of two blocks. -/
def RowsOff (_w : World) (g g' : Nat) (m : Mv) : Prop := ∀ x, x < 4 → 0 < (m.get x).n → ∀ b off, (m.get x).A = some ⟨b, off, none⟩ → b ≠ g ∧ b ≠ g'
theorem RowsOff.on {w w' : World} {g g' j : Nat} {m : Mv} (ho : RowsOff w g g' m) (_hf : ∀ k, k ≠ j → w'.heap[k]? = w.heap[k]?) (_hj : j = g ∨ j = g') : RowsOff w' g g' m := ho
/-- Rows in a range of blocks that are there. -/
structure RB (w : World) (lo hi : Nat) (m : Mv) : Prop where
 rows : MRows w lo hi m
 le : hi ≤ w.heap.size
theorem RB.on {w w' : World} {lo hi : Nat} {m : Mv} (h : RB w lo hi m) (hb : Below w.heap.size w w') : RB w' lo hi m := ⟨h.rows.below hb h.le, Nat.le_trans h.le hb.size⟩
theorem RB.all {w : World} {lo hi : Nat} {m : Mv} (h : RB w lo hi m) : MRows w 0 w.heap.size m := h.rows.more (Nat.zero_le _) h.le
theorem RB.spoilt {w w' : World} {lo hi l k : Nat} {m : Mv} (h : RB w l k m) (hb : Below lo w w') (hf : From hi w w') (hd : k ≤ lo ∨ hi ≤ l) : RB w' l k m := ⟨rows_spoilt h.rows hb hf h.le hd, Nat.le_trans h.le hb.size⟩
structure TB (w : World) (lo hi lo' hi' : Nat) (m : Mv) : Prop where
 rows : TwoR w lo hi lo' hi' m
 le : hi ≤ w.heap.size
 le' : hi' ≤ w.heap.size
theorem TB.on {w w' : World} {lo hi lo' hi' : Nat} {m : Mv} (h : TB w lo hi lo' hi' m) (hb : Below w.heap.size w w') : TB w' lo hi lo' hi' m := ⟨h.rows.below hb h.le h.le', Nat.le_trans h.le hb.size, Nat.le_trans h.le' hb.size⟩
theorem TB.all {w : World} {lo hi lo' hi' : Nat} {m : Mv} (h : TB w lo hi lo' hi' m) : MRows w 0 w.heap.size m := h.rows.rows h.le h.le'
theorem TB.spoilt {w w' : World} {lo hi l k l' k' : Nat} {m : Mv} (h : TB w l k l' k' m) (hb : Below lo w w') (hf : From hi w w') (hd : k ≤ lo ∨ hi ≤ l) (hd' : k' ≤ lo ∨ hi ≤ l') : TB w' l k l' k' m := ⟨two_spoilt h.rows hb hf h.le hd h.le' hd', Nat.le_trans h.le hb.size, Nat.le_trans h.le' hb.size⟩
theorem twin_all {a u : Mv} (h : ∀ x, x < 4 → TwinV (a.get x) (u.get x)) (j : Nat) : TwinV (a.get j) (u.get j) := by
 have e : ∀ (m : Mv) (k : Nat), m.get (k + 4) = m.get 3 := fun _ _ => rfl
 by_cases hj : j < 4
 · exact h j hj
 · obtain ⟨k, rfl⟩ : ∃ k, j = k + 4 := ⟨j - 4, by omega⟩
   rw [e, e]
   exact h 3 (by decide)
theorem twin_may {a u : Mv} (h : ∀ x, x < 4 → TwinV (a.get x) (u.get x)) : u.may ↔ a.may := by
 have k : ∀ x, x < 4 → ((u.get x).may ↔ (a.get x).may) := fun x hx => by
  obtain ⟨h1, _, h3, h4, _⟩ := h x hx
  unfold Dv.may
  rw [h1, h3, h4]
 exact ⟨fun m x hx => (k x hx).1 (m x hx), fun m x hx => (k x hx).2 (m x hx)⟩
theorem twin_same {a u : Mv} (h : ∀ x, x < 4 → TwinV (a.get x) (u.get x)) : sameM u a = true := by
 unfold sameM
 have k : ∀ x, x < 4 → sameV (u.get x) (a.get x) = true := fun x hx => by
  unfold sameV
  rw [(h x hx).1, (h x hx).2.2.1, (h x hx).2.2.2.1]
  exact Pa.Dy.same_refl _
 have k0 := k 0 (by decide)
 have k1 := k 1 (by decide)
 have k2 := k 2 (by decide)
 have k3 := k 3 (by decide)
 simp only [Mv.get] at k0 k1 k2 k3
 rw [k0, k1, k2, k3]
 rfl
end Ma
end Go.Proofs.Ytbbnbgllgomolaa
namespace Go.Proofs.Ytbbnbgllgomolaa
open Go.RowKit
namespace Ma
open Dp Dy
/-- A mass's twelve cells amid a row. -/
def MCells (w : World) (b o : Nat) (m : Mv) : Prop := w.cell? ⟨b, o, none⟩ = some (.bool m.S.s) ∧ w.cell? ⟨b, o + 1, none⟩ = some (.slice m.S.A m.S.n m.S.c) ∧ w.cell? ⟨b, o + 2, none⟩ = some (.int .i64 m.S.e) ∧ w.cell? ⟨b, o + 3, none⟩ = some (.bool m.W.s) ∧ w.cell? ⟨b, o + 4, none⟩ = some (.slice m.W.A m.W.n m.W.c) ∧ w.cell? ⟨b, o + 5, none⟩ = some (.int .i64 m.W.e) ∧ w.cell? ⟨b, o + 6, none⟩ = some (.bool m.C.s) ∧ w.cell? ⟨b, o + 7, none⟩ = some (.slice m.C.A m.C.n m.C.c) ∧ w.cell? ⟨b, o + 8, none⟩ = some (.int .i64 m.C.e) ∧ w.cell? ⟨b, o + 9, none⟩ = some (.bool m.A.s) ∧ w.cell? ⟨b, o + 10, none⟩ = some (.slice m.A.A m.A.n m.A.c) ∧ w.cell? ⟨b, o + 11, none⟩ = some (.int .i64 m.A.e)
/-- Masses in a row. -/
structure LMs (w : World) (lo hi : Nat) (A : Option Addr) (n : Nat) (ms : List Mv) : Prop where
 len : ms.length = n
 big : n ≤ 9223372036854775807
 row : 0 < n → ∃ b off, A = some ⟨b, off, none⟩ ∧ lo ≤ b ∧ b < hi ∧ ∀ j (h : j < ms.length), MCells w b (off + j * 12) ms[j]
 rows : ∀ j (h : j < ms.length), MRows w lo hi ms[j]
theorem infoM : (Try.prog.info? 27).map (fun i => (i.zero, i.size, i.bytes)) = some (some (.agg #[.bool false, .slice none 0 0, .int .i64 0, .bool false, .slice none 0 0, .int .i64 0, .bool false, .slice none 0 0, .int .i64 0, .bool false, .slice none 0 0, .int .i64 0]), 12, 160) := by kernel_rfl
theorem MCells.blk {w w' : World} {b o : Nat} {m : Mv} (h : MCells w b o m) (hk : w'.heap[b]? = w.heap[b]?) : MCells w' b o m := by
 obtain ⟨h0, h1, h2, h3, h4, h5, h6, h7, h8, h9, h10, h11⟩ := h
 exact ⟨by rw [World.cell?_of_block hk]; exact h0, by rw [World.cell?_of_block hk]; exact h1, by rw [World.cell?_of_block hk]; exact h2, by rw [World.cell?_of_block hk]; exact h3, by rw [World.cell?_of_block hk]; exact h4, by rw [World.cell?_of_block hk]; exact h5, by rw [World.cell?_of_block hk]; exact h6, by rw [World.cell?_of_block hk]; exact h7, by rw [World.cell?_of_block hk]; exact h8, by rw [World.cell?_of_block hk]; exact h9, by rw [World.cell?_of_block hk]; exact h10, by rw [World.cell?_of_block hk]; exact h11⟩
theorem LMs.below {w w' : World} {lo hi B : Nat} {A : Option Addr} {n : Nat} {ms : List Mv} (h : LMs w lo hi A n ms) (hb : Below B w w') (hB : hi ≤ B) : LMs w' lo hi A n ms :=
 ⟨h.len, h.big, fun h0 => by
  obtain ⟨b, off, e, h1, h2, hc⟩ := h.row h0
  exact ⟨b, off, e, h1, h2, fun j hj => (hc j hj).blk (hb.block b (by omega))⟩, fun j hj => (h.rows j hj).below hb hB⟩
theorem LMs.more {w : World} {lo hi lo' hi' : Nat} {A : Option Addr} {n : Nat} {ms : List Mv} (h : LMs w lo hi A n ms) (hl : lo' ≤ lo) (hh : hi ≤ hi') : LMs w lo' hi' A n ms :=
 ⟨h.len, h.big, fun h0 => by
  obtain ⟨b, off, e, h1, h2, hc⟩ := h.row h0
  exact ⟨b, off, e, by omega, by omega, hc⟩, fun j hj => (h.rows j hj).more hl hh⟩
open Classical in
noncomputable def foldM : (Nat → Dn) → List Mv → Option (Nat → Dn)
 | R, [] => some R
 | R, m :: l => if ∀ x, x < 4 → (addD (R x) (dnM m x)).2 = 0 then foldM (fun x => (addD (R x) (dnM m x)).1) l else none
open Classical in
/-- What the sum of all is. -/
noncomputable def sumM (ms : List Mv) : (Nat → Dn) × Int :=
 if 4096 < ms.length then (zR, 4) else if ∃ m ∈ ms, ¬ m.may then (zR, 8) else match foldM zR ms with
  | some R => (R, 0)
  | none => (zR, 10)
open Classical in
theorem foldM_cons (R : Nat → Dn) (m : Mv) (l : List Mv) : foldM R (m :: l) = if ∀ x, x < 4 → (addD (R x) (dnM m x)).2 = 0 then foldM (fun x => (addD (R x) (dnM m x)).1) l else none := rfl
end Ma
end Go.Proofs.Ytbbnbgllgomolaa
namespace Go.Proofs.Ytbbnbgllgomolaa
open Go.RowKit
namespace Ma
open Dp Dy
/-- A mass's cells. -/
def cells12 (m : Mv) : List Value := [.bool m.S.s, .slice m.S.A m.S.n m.S.c, .int .i64 m.S.e, .bool m.W.s, .slice m.W.A m.W.n m.W.c, .int .i64 m.W.e, .bool m.C.s, .slice m.C.A m.C.n m.C.c, .int .i64 m.C.e, .bool m.A.s, .slice m.A.A m.A.n m.A.c, .int .i64 m.A.e]
/-- Those of masses. -/
def flatM : List Mv → List Value
 | [] => []
 | m :: l => cells12 m ++ flatM l
theorem flatM_append : ∀ l k, flatM (l ++ k) = flatM l ++ flatM k
 | [], _ => rfl
 | m :: l, k => by simp [flatM, flatM_append l k]
theorem flatM_one (m : Mv) : flatM [m] = cells12 m := by simp [flatM]
/-- A dyad's limbs lie in another block. -/
def Dv.off (d : Dv) (g : Option Nat) : Prop := ∀ a, d.A = some a → 0 < d.n → g ≠ some a.block
def Mv.off (m : Mv) (g : Option Nat) : Prop := ∀ x, x < 4 → (m.get x).off g
theorem ints_grown {w w' : World} {row : Option Nat} {k : IntKind} {A : Option Addr} {n : Nat} {xs : List Int} (h : Ints w 0 w.heap.size k A n xs) (hg : w.grownBy w' row) (hr : ∀ a, A = some a → 0 < n → row ≠ some a.block) : Ints w' 0 w'.heap.size k A n xs := by
 refine ⟨h.len, h.wf, h.big, fun h0 => ?_⟩
 obtain ⟨b, off, e, h1, h2, hc⟩ := h.row h0
 have hb := hg.block b h2 (fun k => hr _ e h0 k.symm)
 exact ⟨b, off, e, h1, Nat.lt_of_lt_of_le h2 hg.size, fun j hj => ⟨(World.cell?_of_block hb).trans (hc j hj).1, (World.frozen?_of_block hb).trans (hc j hj).2⟩⟩
theorem rows_grown {w w' : World} {row : Option Nat} {m : Mv} (h : MRows w 0 w.heap.size m) (hg : w.grownBy w' row) (hr : m.off row) : MRows w' 0 w'.heap.size m :=
 ⟨ints_grown h.S hg (hr 0 (by decide)), ints_grown h.W hg (hr 1 (by decide)), ints_grown h.C hg (hr 2 (by decide)), ints_grown h.A hg (hr 3 (by decide))⟩
/-- Rows below a block, or behind it, are off it. -/
theorem rows_off {w : World} {lo hi : Nat} {m : Mv} (h : MRows w lo hi m) {g : Option Nat} (hg : ∀ k, g = some k → k < lo ∨ hi ≤ k) : m.off g := fun x _ a e h0 hk => by
 obtain ⟨b, off, e', h1, h2, _⟩ := (h.get x).row h0
 rw [e'] at e
 injection e with e
 subst e
 have := hg _ hk
 simp only at this
 omega
theorem grown_of_below {w w' : World} (hb : Below w.heap.size w w') (row : Option Nat) : w.grownBy w' row := ⟨hb.os, hb.tape, hb.output, hb.size, fun k hk _ => hb.block k hk⟩
/-- A list of masses that the call owns. -/
structure OwnM (w : World) (base : Nat) (v : Value) (n : Nat) (ms : List Mv) : Prop where
 own : w.ownsRow base 27 12 v n (flatM ms)
 len : ms.length = n
 rows : ∀ m ∈ ms, MRows w 0 w.heap.size m
 off : ∀ m ∈ ms, m.off v.ownBlock
theorem OwnM.nil_ (w : World) (base : Nat) : OwnM w base (.slice none 0 0) 0 [] := ⟨World.ownsRow_nil .., rfl, fun _ h => absurd h (by simp), fun _ h => absurd h (by simp)⟩
theorem OwnM.on {w w' : World} {base : Nat} {v : Value} {n : Nat} {ms : List Mv} (h : OwnM w base v n ms) (hb : Below w.heap.size w w') : OwnM w' base v n ms :=
 ⟨h.own.kept (grown_of_below hb none) (by cases v.ownBlock <;> simp), h.len, fun m hm => ((h.rows m hm).below hb (Nat.le_refl _)).more (Nat.le_refl _) hb.size, h.off⟩
theorem OwnM.push {w w' : World} {base : Nat} {v v' : Value} {n : Nat} {ms : List Mv} (h : OwnM w base v n ms) {d : Mv} (hd : MRows w 0 w.heap.size d) (ho : d.off v.ownBlock)
  (hown : w'.ownsRow base 27 12 v' (n + 1) (flatM ms ++ cells12 d)) (hg : w.grownBy w' v.ownBlock) (hob : v'.ownBlock = v.ownBlock ∨ v'.ownBlock = some w.heap.size) : OwnM w' base v' (n + 1) (ms ++ [d]) := by
 refine ⟨by rw [flatM_append, flatM_one]; exact hown, by simp [h.len], fun m hm => ?_, fun m hm => ?_⟩
 · rcases List.mem_append.1 hm with hm | hm
   · exact rows_grown (h.rows m hm) hg (h.off m hm)
   · obtain rfl : m = d := by simpa using hm
     exact rows_grown hd hg ho
 · have hrow : MRows w 0 w.heap.size m ∧ m.off v.ownBlock := by
     rcases List.mem_append.1 hm with hm | hm
     · exact ⟨h.rows m hm, h.off m hm⟩
     · obtain rfl : m = d := by simpa using hm
       exact ⟨hd, ho⟩
   rcases hob with e | e
   · rw [e]
     exact hrow.2
   · rw [e]
     exact rows_off hrow.1 fun k hk => by
      injection hk with hk
      omega
theorem OwnM.shape {w : World} {base : Nat} {v : Value} {n : Nat} {ms : List Mv} (h : OwnM w base v n ms) : ∃ A c, v = .slice A n c ∧ n ≤ c ∧ c ≤ maxLen := own_shape h.own
theorem LMs.rng {w w' : World} {lo hi : Nat} {A : Option Addr} {n : Nat} {ms : List Mv} (h : LMs w lo hi A n ms) (hk : ∀ b, lo ≤ b → b < hi → w'.heap[b]? = w.heap[b]?) : LMs w' lo hi A n ms :=
 ⟨h.len, h.big, fun h0 => by
  obtain ⟨b, off, e, h1, h2, hc⟩ := h.row h0
  exact ⟨b, off, e, h1, h2, fun j hj => (hc j hj).blk (hk b h1 h2)⟩, fun j hj => rows_rng (h.rows j hj) hk⟩
theorem LMs.on {w w' : World} {A : Option Addr} {n : Nat} {ms : List Mv} (h : LMs w 0 w.heap.size A n ms) (hb : Below w.heap.size w w') : LMs w' 0 w'.heap.size A n ms := (h.below hb (Nat.le_refl _)).more (Nat.le_refl _) hb.size
end Ma
end Go.Proofs.Ytbbnbgllgomolaa
namespace Go.Proofs.Ytbbnbgllgomolaa
open Go.RowKit
namespace Ma
open Dp Dy
/-- Copies, one by one. -/
def Twins : List Mv → List Mv → Prop
 | [], [] => True
 | a :: l, u :: k => (∀ x, x < 4 → TwinV (a.get x) (u.get x)) ∧ Twins l k
 | _, _ => False
theorem Twins.len : ∀ {l k : List Mv}, Twins l k → k.length = l.length
 | [], [], _ => rfl
 | _ :: _, _ :: _, h => by simp [Twins.len h.2]
 | [], _ :: _, h => h.elim
 | _ :: _, [], h => h.elim
theorem Twins.get : ∀ {l k : List Mv}, Twins l k → ∀ (j : Nat) (h : j < l.length) (h' : j < k.length), ∀ x, x < 4 → TwinV (l[j].get x) (k[j].get x)
 | [], [], _, j, h, _ => absurd h (Nat.not_lt_zero _)
 | _ :: _, _ :: _, h, 0, _, _ => h.1
 | _ :: _, _ :: _, h, j + 1, h1, h2 => Twins.get h.2 j (by simpa using h1) (by simpa using h2)
 | [], _ :: _, h, _, _, _ => h.elim
 | _ :: _, [], h, _, _, _ => h.elim
theorem twins_dn {a u : Mv} (h : ∀ x, x < 4 → TwinV (a.get x) (u.get x)) : dnM u = dnM a := by
 funext j
 obtain ⟨g1, _, g3, g4, _⟩ := twin_all h j
 unfold dnM
 rw [g1, g3, g4]
theorem Twins.fold : ∀ {l k : List Mv}, Twins l k → ∀ R, foldM R k = foldM R l
 | [], [], _, _ => rfl
 | a :: l, u :: k, h, R => by
  rw [foldM_cons, foldM_cons, twins_dn h.1]
  by_cases hc : ∀ x, x < 4 → (addD (R x) (dnM a x)).2 = 0
  · rw [if_pos hc, if_pos hc]
    exact Twins.fold h.2 _
  · rw [if_neg hc, if_neg hc]
 | [], _ :: _, h, _ => h.elim
 | _ :: _, [], h, _ => h.elim
theorem Twins.bad : ∀ {l k : List Mv}, Twins l k → ((∃ m ∈ k, ¬ m.may) ↔ ∃ m ∈ l, ¬ m.may)
 | [], [], _ => by simp
 | a :: l, u :: k, h => by
  have ih := Twins.bad h.2
  have hm := twin_may h.1
  simp only [List.mem_cons, exists_eq_or_imp]
  rw [ih, hm]
 | [], _ :: _, h => h.elim
 | _ :: _, [], h => h.elim
theorem Twins.sum {l k : List Mv} (h : Twins l k) : sumM k = sumM l := by
 unfold sumM
 rw [h.len, h.fold]
 by_cases hl : 4096 < l.length
 · rw [if_pos hl, if_pos hl]
 · rw [if_neg hl, if_neg hl]
   by_cases hb : ∃ m ∈ l, ¬ m.may
   · rw [if_pos hb, if_pos (h.bad.2 hb)]
   · rw [if_neg hb, if_neg (fun k => hb (h.bad.1 k))]
end Ma
end Go.Proofs.Ytbbnbgllgomolaa
namespace Go.Proofs.Ytbbnbgllgomolaa
open Go.ChangeShapes Go.WideShapes Go.ChangeAt Go.RowKit
section
variable {H : Type} {enc : TypeId × Value → H} {P : Program} {W W' : World}
theorem trodAll_below (hl : laidOutB P = true) (hb : Below W.heap.size W W') : ∀ (ts : List TypeId) (vs : List Value) (ds : List (DataW H)) (ps : List MemPlace),
  DataW.TrodAll enc P W 0 (fun _ => true) true ts vs ds ps → (∀ t ∈ ts, P.readableRec t = true ∧ t < P.types.size) → (∀ x ∈ ps, x.block < W.heap.size) →
  DataW.TrodAll enc P W' 0 (fun b => decide (b < W.heap.size)) true ts vs ds ps
 | [], vs, ds, ps, h, _, _ => by
  obtain ⟨rfl, rfl, rfl⟩ := trodAll_nil h
  exact rfl
 | t :: ts, vs, ds, ps, h, hr, hlt => by
  obtain ⟨v, vs', d, ds', p, q, rfl, rfl, rfl, h1, h2⟩ := trodAll_cons h
  obtain ⟨r1, r2⟩ := hr t (List.mem_cons_self ..)
  exact ⟨p, q, Below.trod hl r1 r2 h1 hb fun x hx => hlt x (List.mem_append_left _ hx), trodAll_below hl hb ts vs' ds' q h2 (fun t ht => hr t (List.mem_cons_of_mem _ ht)) fun x hx => hlt x (List.mem_append_right _ hx), rfl⟩
/-- A law that answers true and leaves what was there as it was. -/
theorem law_post {f : Func} {s : ChangeSpec} {args : Array Value} {ds gs : List (DataW H)} {before : List MemPlace} (hW : DataW.Whole enc P f.params.toList s.vars false W args.toList ds gs before)
  (hv : s.vars = []) (hl : laidOutB P = true) (hr : f.params.toList.all (fun t => P.readableRec t && decide (t < P.types.size)) = true) {tb : TypeId} (hres : f.resultTypes = #[tb]) (htb : P.underlying tb = some .bool)
  (h1 : (s.fn H (ds ++ gs)).results = [.lit (.bool true)]) (h2 : (s.fn H (ds ++ gs)).args = ds) (h3 : (s.fn H (ds ++ gs)).vars = []) (hb : Below W.heap.size W W') : s.post enc P f false true false false W args (.bool true) W' := by
 have hW' := hW
 obtain ⟨p, q, hA, hV, rfl, hfz, hnd⟩ := hW
 have hr' : ∀ t ∈ f.params.toList, P.readableRec t = true ∧ t < P.types.size := fun t ht => by
  have := List.all_eq_true.1 hr t ht
  simpa using this
 refine ⟨ds, gs, _, [], p, [], hW', ?_, ?_, ?_, hb.frame _, fun h => by cases h⟩
 · rw [h1, hres]
   exact trodAll_mk1 (shut_bool htb true)
 · rw [h2]
   exact trodAll_below hl hb _ _ _ _ hA hr' fun x hx => hW'.lt x (List.mem_append_left _ hx)
 · rw [h3, hv]
   rfl
/-- A slice of whole numbers among the arguments. -/
theorem ints_open {t e : TypeId} {k : IntKind} {r : Reach} {b0 : Nat} {v : Value} {d : DataW H} {p : List MemPlace} (ht : P.underlying t = some (.slice e)) (he : P.underlying e = some (.int k)) (hc : P.cellsOf e = 1)
  (hval : Value.okWide P W r b0 t v) (h : DataW.Trod enc P W 0 (fun _ => true) true t v d p) (hfz : ∀ b off, MemPlace.cell b off ∈ p → W.frozen? ⟨b, off, none⟩ = false) (hlt : ∀ x ∈ p, x.block < W.heap.size) :
  ∃ A n c xs, v = .slice A n c ∧ n ≤ c ∧ Ints W 0 W.heap.size k A n xs := by
 obtain ⟨A, n, c, rfl⟩ := okWide_slice ht hval
 obtain ⟨fuel, hf⟩ := h
 rcases open_ints ht he hc hf with ⟨hcs, hx⟩ | ⟨a, len, cap, zs, hcs, _, hl, hm, hz, hx, hcell, hwz⟩
 · simp [Value.cells] at hcs
   obtain ⟨rfl, rfl, rfl⟩ := hcs
   exact ⟨none, 0, 0, [], rfl, Nat.le_refl _, Ints.nil_ ..⟩
 · simp [Value.cells] at hcs
   obtain ⟨rfl, rfl, rfl⟩ := hcs
   simp only [if_true] at hz
   refine ⟨some a, n, c, zs.take n, rfl, hl, by simp; omega, fun x hx => ?_, by unfold maxLen at hm; omega, fun h0 => ?_⟩
   · have := hwz x (List.mem_of_mem_take hx)
     simpa [Lit.wf] using this
   · obtain ⟨b, off, spot⟩ := a
     have hspot : spot = none := by simpa [Addr.add] using World.cell?_spot (hcell 0 (by omega))
     subst hspot
     simp only [Prod.mk.injEq] at hx
     obtain ⟨_, rfl⟩ := hx
     have hmem : ∀ j, j < n → MemPlace.cell b (off + j) ∈ MemPlace.row ⟨b, off, none⟩ zs.length := fun j hj => MemPlace.mem_row.2 ⟨j, by omega, rfl⟩
     refine ⟨b, off, rfl, Nat.zero_le _, hlt _ (hmem 0 h0), fun j hj => ⟨?_, hfz _ _ (hmem j hj)⟩⟩
     have := hcell j (by omega)
     rw [add_plain] at this
     rw [this, List.getElem?_take, if_pos hj]
     simp [List.getD]
end
end Go.Proofs.Ytbbnbgllgomolaa