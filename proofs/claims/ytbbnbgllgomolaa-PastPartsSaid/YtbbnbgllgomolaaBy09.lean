/- push.both$1: whatever comes of the two calls; small laws for push.Take. -/
/- Shares' means, and what they lie between, in numbers. No program in sight. -/
/- RegionE: ways that meet: what stands where they meet is said once, and walked once. No program in sight. -/
/- The laws of shares: what push.Between tells. No program in sight. -/
/- Shares with known numbers: what is kept, sent, taken, told. No program in sight. -/
/- headcountlaw15.spoil: a walk; rows that are spoilt one behind the other. -/
/- headcountref15: zero, May, Check, Give, Take: walks (printed by a program of mine). -/
/- Quotients of bits: headcountref01.Into, by a walk. -/
import Derived.Test.YtbbnbgllgomolaaBy08
import Derived.Test.YtbbnbgllgomolaaBy02
import Derived.Deep.Cut
import Derived.Laws.StructEq
import Derived.Test.YtbbnbgllgomolaaBy04
import Derived.Test.YtbbnbgllgomolaaBy03
import Derived.Test.YtbbnbgllgomolaaBy05
import Derived.Test.YtbbnbgllgomolaaBy07
namespace Go.Proofs.Ytbbnbgllgomolaa
open Go.RowKit
namespace Ma
open Dp Dy
/-- What both tells. -/
def BothR (a b : Dv) (q f : Int) (X Y : Dv) (c : Int) : Prop :=
 (q = 0 ∧ f = 0 ∧ X = a ∧ Y = b ∧ c = 0) ∨ (q ≠ 0 ∧ X = ZM.C ∧ Y = ZM.C ∧ c = q) ∨ (q = 0 ∧ f ≠ 0 ∧ X = ZM.C ∧ Y = ZM.C ∧ c = f)
theorem BothR.all {a b : Dv} {q f : Int} {X Y : Dv} {c : Int} (h : BothR a b q f X Y c) {P : Dv → Prop} (ha : P a) (hb : P b) (hz : P ZM.C) : P X ∧ P Y := by
 rcases h with ⟨_, _, rfl, rfl, _⟩ | ⟨_, rfl, rfl, _⟩ | ⟨_, _, rfl, rfl, _⟩
 · exact ⟨ha, hb⟩
 · exact ⟨hz, hz⟩
 · exact ⟨hz, hz⟩
/-- A row, in neither of two blocks. -/
def OffD (w : World) (lo g g' : Nat) (d : Dv) : Prop := Ints w lo w.heap.size .u32 d.A d.n d.xs ∧ (0 < d.n → ∀ b off, d.A = some ⟨b, off, none⟩ → b ≠ g ∧ b ≠ g')
theorem OffD.zero (w : World) (lo g g' : Nat) : OffD w lo g g' ZM.C := ⟨Ints.nil_ .., fun h => absurd h (Nat.lt_irrefl 0)⟩
theorem OffD.of {w : World} {lo l h g g' : Nat} {d : Dv} (hI : Ints w l h .u32 d.A d.n d.xs) (hl : lo ≤ l) (hh : h ≤ w.heap.size) (h1 : g < l ∨ h ≤ g) (h2 : g' < l ∨ h ≤ g') : OffD w lo g g' d :=
 ⟨hI.more hl hh, fun h0 b off e => by
  obtain ⟨b', off', e', k1, k2, _⟩ := hI.row h0
  rw [e] at e'
  injection e' with e'
  injection e' with e1 _ _
  subst e1
  exact ⟨by omega, by omega⟩⟩
theorem OffD.far {w w' : World} {lo g g' j : Nat} {d : Dv} (h : OffD w lo g g' d) (hf : ∀ k, k ≠ j → w'.heap[k]? = w.heap[k]?) (hs : w'.heap.size = w.heap.size) (hj : j = g ∨ j = g') : OffD w' lo g g' d :=
 ⟨by rw [hs]; exact ints_off h.1 h.2 hf hj, h.2⟩
end Ma
end Go.Proofs.Ytbbnbgllgomolaa
namespace Go.Proofs.Ytbbnbgllgomolaa
open Go.RowKit
namespace Ma
open Dp Dy
theorem BothR.two {a b : Dv} {q f : Int} {X Y : Dv} {c : Int} (h : BothR a b q f X Y c) {P Q : Dv → Prop} (ha : P a) (hb : Q b) (hz : P ZM.C) (hz' : Q ZM.C) : P X ∧ Q Y := by
 rcases h with ⟨_, _, rfl, rfl, _⟩ | ⟨_, rfl, rfl, _⟩ | ⟨_, _, rfl, rfl, _⟩
 · exact ⟨ha, hb⟩
 · exact ⟨hz, hz'⟩
 · exact ⟨hz, hz'⟩
end Ma
end Go.Proofs.Ytbbnbgllgomolaa
namespace Go.Proofs.Ytbbnbgllgomolaa
open Go.RowKit
section
variable {P : Program} {os : List Oper} {Q : Exit → Act → World → Prop} {md : Region.Mode} {S : World → Prop} {E : List Nat} {B : Act → World → Prop} {Lf : Array Bool} {m : Nat}
/-- A way that may end where B stands and Lf is listed. -/
def wpAnyC (B : Act → World → Prop) (Lf : Array Bool) (m : Nat) (P : Program) (md : Region.Mode) (ops : Array Oper) (Q : Exit → Act → World → Prop) (S : World → Prop) (E : List Nat) (n : Nat) (L : Array Bool) (a : Act) (w : World) : Prop :=
 (∀ a' w', B a' w' → wpAnyE P md ops Q S E m Lf a' w') → wpAnyE P md ops Q S E n L a w
theorem E_of_C {ops : Array Oper} (B : Act → Act → World → Prop) (Lf : Array Bool) (m : Nat) {k : Nat} {L : Array Bool} {a : Act} {w : World} (h : ∀ a' w', B a a' w' → wpAnyE P md ops Q S E m Lf a' w')
  (hg : wpAnyC (B a) Lf m P md ops Q S E k L a w) : wpAnyE P md ops Q S E k L a w := hg h
theorem leafC {ops : Array Oper} {a : Act} {w : World} (h : B a w) : wpAnyC B Lf m P md ops Q S E m Lf a w := fun hl => hl a w h
theorem pureC {i n : Nat} {oi : Oper} {v : Value} {listed L : Array Bool} {a : Act} {w : World} (hi : os[i]? = some oi) (hL : listed.setIfInBounds i true = L)
  (hs : Region.noSelect os.toArray = true) (hf : Region.free md os.toArray listed i = true) (hr : (Region.ready md os.toArray listed).contains i = true)
  (hQ : ∀ c a w, Q (.panic c) (a.put oi.dst v) w → Q (.panic c) a w) (hw : Region.wanted oi (yielded os.toArray a.tmps) = true) (hy : ∀ w, (execOp a.eval oi).run P w = .ok (.value v) w)
  (h : wpAnyC B Lf m P md os.toArray Q S E n L (a.put oi.dst v) w) : wpAnyC B Lf m P md os.toArray Q S E (n + 1) listed a w := fun hl => pureE hi hL hs hf hr hQ hw hy (h hl)
theorem zC (i : Nat) (L : Array Bool) (v : Value) {n : Nat} {oi : Oper} {listed : Array Bool} {a : Act} {w : World} (hi : os[i]? = some oi) (hy : ∀ w, (execOp a.eval oi).run P w = .ok (.value v) w)
  (h : wpAnyC B Lf m P md os.toArray Q S E n L (a.put oi.dst v) w) (hL : listed.setIfInBounds i true = L := by rfl)
  (hs : Region.noSelect os.toArray = true := by kernel_rfl) (hf : Region.free md os.toArray listed i = true := by kernel_rfl) (hr : (Region.ready md os.toArray listed).contains i = true := by kernel_rfl)
  (hQ : ∀ c a w, Q (.panic c) (a.put oi.dst v) w → Q (.panic c) a w := by exact fun _ _ _ h => h) (hw : Region.wanted oi (yielded os.toArray a.tmps) = true := by rfl) : wpAnyC B Lf m P md os.toArray Q S E (n + 1) listed a w := pureC hi hL hs hf hr hQ hw hy h
theorem stepC {i n : Nat} {oi : Oper} {listed L : Array Bool} {a : Act} {w : World} (hi : os[i]? = some oi) (hL : listed.setIfInBounds i true = L)
  (hr : Region.ready md os.toArray listed = [i]) (hw : Region.wanted oi (yielded os.toArray a.tmps) = true)
  (h : ∀ K' : Act → World → Prop, Shut (∀ a w', ((E.contains i = false → S w → S w') ∧ wpAnyC B Lf m P md os.toArray Q S E n L a w') → K' a w') → Oper.wp P oi a w K' Q) :
  wpAnyC B Lf m P md os.toArray Q S E (n + 1) listed a w := fun hl => stepK hi hL hr hw fun K' hK => h K' fun a w' hh => hK a w' ⟨hh.1, hh.2 hl⟩
theorem stepC2 {i j n : Nat} {oi oj : Oper} {listed Li Lj : Array Bool} {a : Act} {w : World} (hi : os[i]? = some oi) (hj : os[j]? = some oj) (hLi : listed.setIfInBounds i true = Li) (hLj : listed.setIfInBounds j true = Lj)
  (hr : Region.ready md os.toArray listed = [i, j]) (hwi : Region.wanted oi (yielded os.toArray a.tmps) = true) (hwj : Region.wanted oj (yielded os.toArray a.tmps) = true)
  (h : ∀ K' : Act → World → Prop, Shut (∀ a w', ((E.contains i = false → S w → S w') ∧ wpAnyC B Lf m P md os.toArray Q S E n Li a w') → K' a w') → Oper.wp P oi a w K' Q)
  (h' : ∀ K' : Act → World → Prop, Shut (∀ a w', ((E.contains j = false → S w → S w') ∧ wpAnyC B Lf m P md os.toArray Q S E n Lj a w') → K' a w') → Oper.wp P oj a w K' Q) :
  wpAnyC B Lf m P md os.toArray Q S E (n + 1) listed a w := fun hl => stepK2 hi hj hLi hLj hr hwi hwj (fun K' hK => h K' fun a w' hh => hK a w' ⟨hh.1, hh.2 hl⟩) (fun K' hK => h' K' fun a w' hh => hK a w' ⟨hh.1, hh.2 hl⟩)
end
end Go.Proofs.Ytbbnbgllgomolaa
namespace Go.Proofs.Ytbbnbgllgomolaa
open Go.RowKit
namespace Ma
open Dp Dy
theorem xs_nil {w : World} {lo hi : Nat} {A : Option Addr} {n : Nat} {xs : List Int} (h : Ints w lo hi .u32 A n xs) : n = 0 ↔ xs = [] := by
 have := h.len
 constructor
 · intro h0
   exact List.length_eq_zero_iff.1 (by omega)
 · intro h0
   rw [h0] at this
   exact this.symm
end Ma
end Go.Proofs.Ytbbnbgllgomolaa
namespace Go.Proofs.Ytbbnbgllgomolaa
open Go.RowKit
namespace Ma
open Dp Dy
theorem IsM.dn {R : Nat → Dn} {m : Mv} (h : IsM R m) {x : Nat} (hx : x < 4) : dnM m x = R x := by
 obtain ⟨h1, h2, h3⟩ := h x hx
 unfold dnM
 rw [h1, h2, h3]
 exact dn_of
theorem can_nil {r : Dn} (h : canon 4294967296 r.m = []) : r.m = 0 := by
 have e : (Dy.dn r.neg (canon 4294967296 r.m) r.e).m = r.m := by rw [dn_of]
 rw [h] at e
 exact e.symm
theorem Is.len {w : World} {lo hi : Nat} {r : Dn} {d : Dv} (h : Is r d) (hI : Ints w lo hi .u32 d.A d.n d.xs) : d.n = 0 ↔ r.m = 0 := by
 rw [xs_nil hI, h.2.2]
 exact ⟨can_nil, fun h0 => by rw [h0]; rfl⟩
theorem share_is {w : World} {lo hi : Nat} {m : Mv} {R : Nat → Dn} (hR : MRows w lo hi m) (h : IsM R m) (hr : MayR R) : m.share ↔ ((R 1).neg = false ∧ ((R 1).m = 0 → (R 0).m = 0)) := by
 have l1 : m.W.n = 0 ↔ (R 1).m = 0 := Is.len (h 1 (by decide)) hR.W
 have l0 : m.S.n = 0 ↔ (R 0).m = 0 := Is.len (h 0 (by decide)) hR.S
 have s1 : m.W.s = (R 1).neg := (h 1 (by decide)).1
 unfold Mv.share
 rw [l1, l0, s1]
 exact ⟨fun k => k.2, fun k => ⟨h.may hr, k⟩⟩
/-- A share of S and W alone. -/
def twoR (a b : Dn) (x : Nat) : Dn := if x = 0 then a else if x = 1 then b else Dn.zero
theorem twoR_may {a b : Dn} (ha : a.May) (hb : b.May) : MayR (twoR a b) := four ha hb zero_may zero_may
theorem twoR_is {a b : Dn} {d e : Dv} (hd : Is a d) (he : Is b e) : IsM (twoR a b) ⟨d, e, ZM.C, ZM.A⟩ := four hd he Is.zero Is.zero
theorem sm (m e : Nat) (h0 : m ≠ 0) (h1 : m < 16) (h2 : e ≤ 1024) (h3 : 0 < e → m % 2 = 1) : Dn.May ⟨false, m, e⟩ := may_small _ _ _ h0 h1 h2 h3
end Ma
end Go.Proofs.Ytbbnbgllgomolaa
namespace Go.Proofs.Ytbbnbgllgomolaa
open Go.RowKit
namespace Dy
open Dp
/-- Cells that may be written. -/
def WrS (w : World) (b off n : Nat) : Prop := ∀ j, j < n → (∃ u, w.cell? ⟨b, off + j, none⟩ = some u) ∧ w.frozen? ⟨b, off + j, none⟩ = false
theorem WrS.set_ {w : World} {b off n : Nat} (h : WrS w b off n) (p : Addr) (v : Value) : WrS (w.setCell p v) b off n := fun j hj => by
 obtain ⟨⟨u, h1⟩, h2⟩ := h j hj
 refine ⟨?_, by rw [World.frozen?_setCell]; exact h2⟩
 by_cases e : p = ⟨b, off + j, none⟩
 · subst e
   exact ⟨v, World.cell?_setCell_same' _ _ _ (by rw [h1]; rfl)⟩
 · exact ⟨u, (World.cell?_setCell_other _ _ _ _ e).trans h1⟩
theorem WrS.blk {w w' : World} {b off n : Nat} (h : WrS w b off n) (hk : w'.heap[b]? = w.heap[b]?) : WrS w' b off n := fun j hj => by
 obtain ⟨⟨u, h1⟩, h2⟩ := h j hj
 exact ⟨⟨u, by rw [World.cell?_of_block hk]; exact h1⟩, by rw [World.frozen?_of_block hk]; exact h2⟩
/-- A row that may be written. -/
def WrR (w : World) (lo hi : Nat) (A : Option Addr) (n : Nat) : Prop := 0 < n → ∃ b off, A = some ⟨b, off, none⟩ ∧ lo ≤ b ∧ b < hi ∧ WrS w b off n
theorem WrR.of {w : World} {lo hi n : Nat} {A : Option Addr} {xs : List Int} (h : Ints w lo hi .u32 A n xs) : WrR w lo hi A n := fun h0 => by
 obtain ⟨b, off, e, h1, h2, hc⟩ := h.row h0
 exact ⟨b, off, e, h1, h2, fun j hj => ⟨⟨_, (hc j hj).1⟩, (hc j hj).2⟩⟩
theorem WrR.below {w w' : World} {lo hi B n : Nat} {A : Option Addr} (h : WrR w lo hi A n) (hb : Below B w w') (hB : hi ≤ B) : WrR w' lo hi A n := fun h0 => by
 obtain ⟨b, off, e, h1, h2, hW⟩ := h h0
 exact ⟨b, off, e, h1, h2, hW.blk (hb.block b (by omega))⟩
theorem WrR.keep {w w' : World} {lo hi n : Nat} {A : Option Addr} (h : WrR w lo hi A n) (hk : ∀ b off k, WrS w b off k → WrS w' b off k) : WrR w' lo hi A n := fun h0 => by
 obtain ⟨b, off, e, h1, h2, hW⟩ := h h0
 exact ⟨b, off, e, h1, h2, hk _ _ _ hW⟩
end Dy
end Go.Proofs.Ytbbnbgllgomolaa
namespace Go.Proofs.Ytbbnbgllgomolaa
open Go.RowKit
namespace Ma
open Dp Dy
set_option maxHeartbeats 3200000 in
/-- headcountref15.zero. -/
theorem rzero_any (w : World) (s : Bool) (A : Option Addr) (n c : Nat) (e : Int) (b : Bool) (hb : decide (n = 0) = b) :
  Calls Try.prog 91 #[.agg #[.bool s, .slice A n c, .int .i64 e]] w fun e w' => e = .returned (.bool b) ∧ Below w.heap.size w w' := by
 have fin := (Below.refl w.heap.size w).alloc (Nat.le_refl _) (.cells #[.bool s, .slice A n c, .int .i64 e] 25)
 have B1 := heap_alloc_last w (.cells #[.bool s, .slice A n c, .int .i64 e] 25)
 generalize hw : w.alloc (.cells #[.bool s, .slice A n c, .int .i64 e] 25) = w1 at *
 obtain ⟨⟨p1, p2, p3⟩, p4, p5, p6⟩ := boxD B1
 by_cases h : n = 0
 · have hb' : b = true := by rw [← hb]; exact decide_eq_true h
   subst hb'
   subst h
   go_enter Try.func91, Try.ntmps91
   go_wp2
   go_ret
   exact ⟨rfl, fin⟩
 · have hb' : b = false := by rw [← hb]; exact decide_eq_false h
   subst hb'
   have hxb : ((n : Int) == 0) = false := by
    have : (n : Int) ≠ 0 := by omega
    simpa using this
   go_enter Try.func91, Try.ntmps91
   go_wp2
   go_ret
   exact ⟨rfl, fin⟩
set_option maxHeartbeats 12800000 in
set_option maxRecDepth 100000 in
/-- headcountref15.May. -/
theorem RMayS_any (w : World) (m : Mv) (hR : MRows w 0 w.heap.size m) (b : Bool) (hb : badS [m] = b) :
  Calls Try.prog 90 #[.agg #[.bool m.S.s, .slice m.S.A m.S.n m.S.c, .int .i64 m.S.e, .bool m.W.s, .slice m.W.A m.W.n m.W.c, .int .i64 m.W.e, .bool m.C.s, .slice m.C.A m.C.n m.C.c, .int .i64 m.C.e, .bool m.A.s, .slice m.A.A m.A.n m.A.c, .int .i64 m.A.e]] w fun e w' => e = .returned (.bool (!b)) ∧ Below w.heap.size w w' := by
 have HB := Lib.hid hb
 clear hb
 have hM := heap_alloc_last w (.cells #[.bool m.S.s, .slice m.S.A m.S.n m.S.c, .int .i64 m.S.e, .bool m.W.s, .slice m.W.A m.W.n m.W.c, .int .i64 m.W.e, .bool m.C.s, .slice m.C.A m.C.n m.C.c, .int .i64 m.C.e, .bool m.A.s, .slice m.A.A m.A.n m.A.c, .int .i64 m.A.e] 27)
 have j1 := (Below.refl w.heap.size w).alloc (Nat.le_refl _) (.cells #[.bool m.S.s, .slice m.S.A m.S.n m.S.c, .int .i64 m.S.e, .bool m.W.s, .slice m.W.A m.W.n m.W.c, .int .i64 m.W.e, .bool m.C.s, .slice m.C.A m.C.n m.C.c, .int .i64 m.C.e, .bool m.A.s, .slice m.A.A m.A.n m.A.c, .int .i64 m.A.e] 27)
 have S1 : w.heap.size < (w.alloc (.cells #[.bool m.S.s, .slice m.S.A m.S.n m.S.c, .int .i64 m.S.e, .bool m.W.s, .slice m.W.A m.W.n m.W.c, .int .i64 m.W.e, .bool m.C.s, .slice m.C.A m.C.n m.C.c, .int .i64 m.C.e, .bool m.A.s, .slice m.A.A m.A.n m.A.c, .int .i64 m.A.e] 27)).heap.size := by simp
 generalize hw : w.alloc (.cells #[.bool m.S.s, .slice m.S.A m.S.n m.S.c, .int .i64 m.S.e, .bool m.W.s, .slice m.W.A m.W.n m.W.c, .int .i64 m.W.e, .bool m.C.s, .slice m.C.A m.C.n m.C.c, .int .i64 m.C.e, .bool m.A.s, .slice m.A.A m.A.n m.A.c, .int .i64 m.A.e] 27) = w1 at *
 replace hM : MBox w1 w.heap.size m := hM
 have Rm : MRows w1 0 w1.heap.size m := hR.on j1
 have no : ¬ m.share → b = true := fun h => by rw [← HB.out]; exact badS_yes (List.mem_singleton.2 rfl) h
 have yes : m.share → b = false := fun h => by rw [← HB.out]; exact badS_one.2 h
 go_enter Try.func90, Try.ntmps90
 obtain ⟨⟨q1_0, q1_1, q1_2, q1_3, q1_4, q1_5, q1_6, q1_7, q1_8, q1_9, q1_10, q1_11⟩, q1f⟩ := MBox.cells hM
 by_cases hm : m.may
 rotate_left
 · skip
   have hb' : b = true := no (fun h => hm h.1)
   subst hb'
   have HM : Hid (mayMB m = false) := Lib.hid (by cases h : mayMB m; rfl; exact absurd ((mayMB_iff m).1 h) hm)
   clear hm no yes
   go_wp2_with fail
   refine (RMay_any w1 m Rm false HM.out).mono ?_
   rintro e' v2 ⟨rfl, j3⟩
   clear q1_0 q1_1 q1_2 q1_3 q1_4 q1_5 q1_6 q1_7 q1_8 q1_9 q1_10 q1_11 q1f
   try clear hw
   go_wp2
   go_ret
   exact ⟨rfl, (later j1 j3)⟩
 · skip
   have HM := Lib.hid ((mayMB_iff m).2 hm)
   go_wp2_with fail
   refine (RMay_any w1 m Rm true HM.out).mono ?_
   rintro e' v4 ⟨rfl, j5⟩
   clear q1_0 q1_1 q1_2 q1_3 q1_4 q1_5 q1_6 q1_7 q1_8 q1_9 q1_10 q1_11 q1f
   try clear hw
   cases hs : m.W.s
   rotate_left
   · skip
     obtain ⟨⟨q6_0, q6_1, q6_2, q6_3, q6_4, q6_5, q6_6, q6_7, q6_8, q6_9, q6_10, q6_11⟩, q6f⟩ := MBox.cells (box_later hM j5 S1)
     rw [hs] at q6_3
     have hb' : b = true := no (fun h => by have := h.2.1; rw [hs] at this; cases this)
     subst hb'
     clear hs no yes hm
     go_wp2
     go_ret
     exact ⟨rfl, (later j1 j5)⟩
   · skip
     have HS := Lib.hid hs
     obtain ⟨⟨q7_0, q7_1, q7_2, q7_3, q7_4, q7_5, q7_6, q7_7, q7_8, q7_9, q7_10, q7_11⟩, q7f⟩ := MBox.cells (box_later hM j5 S1)
     rw [hs] at q7_3
     clear hs
     by_cases hn : m.W.n = 0
     rotate_left
     · skip
       have hb' : b = false := yes ⟨hm, HS.out, fun h => absurd h hn⟩
       subst hb'
       have HN := Lib.hid hn
       clear hn no yes hm
       go_wp2_with fail
       refine (rzero_any v4 false m.W.A m.W.n m.W.c m.W.e false (decide_eq_false HN.out)).mono ?_
       rintro e' v8 ⟨rfl, j9⟩
       clear q7_0 q7_1 q7_2 q7_3 q7_4 q7_5 q7_6 q7_7 q7_8 q7_9 q7_10 q7_11 q7f
       try clear hw
       go_wp2
       go_ret
       exact ⟨rfl, (later j1 (later j5 j9))⟩
     · skip
       have HN := Lib.hid hn
       clear hn
       go_wp2_with fail
       refine (rzero_any v4 false m.W.A m.W.n m.W.c m.W.e true (decide_eq_true HN.out)).mono ?_
       rintro e' v10 ⟨rfl, j11⟩
       clear q7_0 q7_1 q7_2 q7_3 q7_4 q7_5 q7_6 q7_7 q7_8 q7_9 q7_10 q7_11 q7f
       try clear hw
       obtain ⟨⟨q12_0, q12_1, q12_2, q12_3, q12_4, q12_5, q12_6, q12_7, q12_8, q12_9, q12_10, q12_11⟩, q12f⟩ := MBox.cells (box_later hM (later j5 j11) S1)
       by_cases hn : m.S.n = 0
       rotate_left
       · skip
         have hb' : b = true := no (fun h => hn (h.2.2 HN.out))
         subst hb'
         have HN1 := Lib.hid hn
         clear hn no yes hm
         go_wp2_with fail
         refine (rzero_any v10 m.S.s m.S.A m.S.n m.S.c m.S.e false (decide_eq_false HN1.out)).mono ?_
         rintro e' v13 ⟨rfl, j14⟩
         clear q12_0 q12_1 q12_2 q12_3 q12_4 q12_5 q12_6 q12_7 q12_8 q12_9 q12_10 q12_11 q12f
         try clear hw
         go_wp2
         go_ret
         exact ⟨rfl, (later j1 (later j5 (later j11 j14)))⟩
       · skip
         have hb' : b = false := yes ⟨hm, HS.out, fun _ => hn⟩
         subst hb'
         have HN1 := Lib.hid hn
         clear hn no yes hm
         go_wp2_with fail
         refine (rzero_any v10 m.S.s m.S.A m.S.n m.S.c m.S.e true (decide_eq_true HN1.out)).mono ?_
         rintro e' v15 ⟨rfl, j16⟩
         clear q12_0 q12_1 q12_2 q12_3 q12_4 q12_5 q12_6 q12_7 q12_8 q12_9 q12_10 q12_11 q12f
         try clear hw
         go_wp2
         go_ret
         exact ⟨rfl, (later j1 (later j5 (later j11 j16)))⟩
end Ma
end Go.Proofs.Ytbbnbgllgomolaa
namespace Go.Proofs.Ytbbnbgllgomolaa
open Go.RowKit
namespace Dy
open Dp
def rowB (ws : List Int) : Array Value := (ws.map (Value.int .u8)).toArray
theorem rowB_get (ws : List Int) {j : Nat} (h : j < ws.length) : (rowB ws)[j]? = some (.int .u8 (ws[j]?.getD 0)) := by
 simp [rowB, h]
theorem rowB_set (ws : List Int) (j : Nat) (v : Int) : (rowB ws).setIfInBounds j (.int .u8 v) = rowB (ws.set j v) := by
 simp [rowB, List.map_set]
/-- Digits from place t on, in a block of their own. -/
structure Qb (w : World) (g n t : Nat) (qh : List Int) : Prop where
 blk : w.heap[g]? = some (.cells (rowB (List.replicate t 0 ++ qh)) 5 (0, 0))
 len : t + qh.length = n
 dig : Dig 2 qh
theorem rep_set (t : Nat) (qh : List Int) (d : Int) : (List.replicate (t + 1) 0 ++ qh).set t d = List.replicate t 0 ++ (d :: qh) := by
 rw [List.replicate_succ', List.append_assoc, List.set_append]
 simp
theorem rep_zero (t : Nat) (qh : List Int) : (List.replicate (t + 1) (0 : Int) ++ qh) = List.replicate t 0 ++ (0 :: qh) := by
 rw [List.replicate_succ', List.append_assoc]
 rfl
theorem Qb.next {w : World} {g n t : Nat} {qh : List Int} (h : Qb w g n (t + 1) qh) : Qb w g n t (0 :: qh) :=
 ⟨by rw [← rep_zero]; exact h.blk, by have := h.len; simp; omega, fun x hx => by
  rcases List.mem_cons.1 hx with rfl | hx
  · decide
  · exact h.dig x hx⟩
theorem Qb.set {w : World} {g n t : Nat} {qh : List Int} (h : Qb w g n (t + 1) qh) : Qb (w.setCell ⟨g, t, none⟩ (.int .u8 1)) g n t (1 :: qh) :=
 ⟨by rw [heap_setCell_same w g t _ _ _ h.blk, rowB_set, rep_set], by have := h.len; simp; omega, fun x hx => by
  rcases List.mem_cons.1 hx with rfl | hx
  · decide
  · exact h.dig x hx⟩
theorem Qb.on {w w' : World} {g n t B : Nat} {qh : List Int} (h : Qb w g n t qh) (hb : Below B w w') (hB : g < B) : Qb w' g n t qh := ⟨(hb.block g hB).trans h.blk, h.len, h.dig⟩
theorem Qb.cell {w : World} {g n t : Nat} {qh : List Int} (h : Qb w g n t qh) {j : Nat} (hj : j < n) : w.cell? ⟨g, j, none⟩ = some (.int .u8 ((List.replicate t 0 ++ qh)[j]?.getD 0)) := by
 rw [cell_of_row w g j _ _ _ h.blk]
 exact rowB_get _ (by have := h.len; simp; omega)
theorem Qb.free {w : World} {g n t : Nat} {qh : List Int} (h : Qb w g n t qh) (j : Nat) : w.frozen? ⟨g, j, none⟩ = false := frozen_of_row w g j _ _ h.blk
end Dy
end Go.Proofs.Ytbbnbgllgomolaa