/- headcountref01.Of, headcountref02.Of: walks. -/
/- headcountref06.Seeded, Seed: walks (printed by a program of mine). -/
/- headcountlaw06.spoil: a walk (printed by a program of mine). -/
/- RegionE: ways that meet: what stands behind so many operations is said once. No program in sight. -/
/- Laws for MassTells: walks (printed by a program of mine). -/
/- mass.Sum: a walk (printed by a program of mine). -/
/- Lists of masses that a call owns: appended to, stored in; no function in sight (printed by a program of mine). -/
/- Lists of copies: no program in sight but in the contracts joined (printed by a program of mine). -/
import Derived.Test.YtmbppgjhdcmckaaGreatDoorBg12
import Derived.Test.YtmbppgjhdcmckaaGreatDoorBg09
import Derived.Test.YtmbppgjhdcmckaaGreatDoorBg14
import Derived.Test.YtmbppgjhdcmckaaGreatDoorBg04
import Derived.Lib.MinMax
import Derived.Test.YtmbppgjhdcmckaaGreatDoorBg01
namespace Go.Proofs.YtmbppgjhdcmckaaGreatDoor
open Go.RowKit
namespace Dy
open Dp
theorem of_bound {k r v : Nat} {o : Nat} (h : o + 2 ^ k * r = v) (h0 : 0 < r) (hv : v < 18446744073709551616) : k < 64 := by
 have h1 : 2 ^ k * 1 ≤ 2 ^ k * r := Nat.mul_le_mul_left _ h0
 have h2 : 2 ^ k < 2 ^ 64 := by
  have e : (2 : Nat) ^ 64 = 18446744073709551616 := by decide
  rw [e]
  omega
 exact (Nat.pow_lt_pow_iff_right (by decide)).1 h2
theorem of_step {k r v : Nat} {out : List Int} (hl : out.length = k) (h : num 2 out + 2 ^ k * r = v) : num 2 (out ++ [((r % 2 : Nat) : Int)]) + 2 ^ (k + 1) * (r / 2) = v := by
 rw [num_append, hl, ← h]
 have e1 : num 2 [((r % 2 : Nat) : Int)] = r % 2 := by
  simp [num]
  omega
 have e2 : 2 ^ k * r = 2 ^ k * (r % 2) + 2 ^ k * (2 * (r / 2)) := by
  rw [← Nat.mul_add]
  congr 1
  omega
 rw [e1, e2, Nat.pow_succ, Nat.mul_assoc]
 omega
set_option maxHeartbeats 3200000 in
set_option maxRecDepth 100000 in
/-- headcountref01.Of. -/
theorem rOf1_any (w : World) (v : Nat) (hv : v < 18446744073709551616) :
  Calls Tryz.prog 149 #[.int .u64 v] w fun e w' => ∃ A n c, e = .returned (.slice A n c) ∧ n ≤ c ∧ Below w.heap.size w w' ∧ Ints w' w.heap.size w'.heap.size .u32 A n (canon 4294967296 v) := by
 obtain ⟨i0, hi0, hz0, hz1, hz2⟩ := info_parts Tryz.info5
 go_enter Tryz.func149, Tryz.ntmps149
 go_wp2
 go_loopw [0, 3] (fun nv o wr => ∃ k r : Nat, ∃ out : List Int, nv = .int .u64 r ∧ r ≤ 18446744073709551615 ∧ k ≤ 64 ∧ wr.ownsRow w.heap.size 5 1 o k (out.map (Value.int .u8)) ∧ Dig 2 out ∧ Hid (num 2 out + 2 ^ k * r = v) ∧ Below w.heap.size w wr)
  (fun nv _ _ => (intOf nv).toNat)
 case atStart => exact ⟨0, v, [], rfl, by omega, by omega, ⟨rfl, .inl ⟨rfl, rfl⟩⟩, fun x hx => (by simp at hx), by simp [Hid, num], Below.refl _ _⟩
 case round =>
  obtain ⟨k, r, out, rfl, hr, hk, hown, hdo, hnum, hnx⟩ := hrel
  by_cases h0 : 0 < r
  · have hol : out.length = k := by have := hown.1; simpa using this
    have hk64 := of_bound hnum.out h0 hv
    have hnum2 := Lib.hid (of_step hol hnum.out)
    have hdo2 := dig_snoc hdo (r % 2) (by omega)
    clear hol hnum
    go_wp2_with (first
     | (at_builtin; refine wpList_append_raw _ rfl (.tmp 6) (.tmp 10) 171 rfl w.heap.size 5 i0 (.int .u8 0) 1 1 Tryz.underlying171 hi0 hz0 hz1 hz2 rfl (by decide) _ _ _ rfl (hown.alloc _) _ _ _ 1 1 [.int .u8 ((r : Int) % 2)] rfl (raw_one _ _ _ _) ?c1 ?c2 ?c3 ?c4 ?_))
    case c1 => first | rfl | (intro u hu; simp at hu; subst hu; rfl)
    case c2 => unfold maxLen; omega
    case c3 => omega
    case c4 => have := hnx.size; simp; omega
    intro A2 c2 w3 hown2 hgrow2 _
    have hnx2 : Below w.heap.size w w3 := (hnx.alloc hnx.size _).grown hgrow2 (by have := hnx.size; simp; omega) (fun q hq => (hown.lt q hq).1)
    have hs : (r : Int) % 2 = ((r % 2 : Nat) : Int) := by omega
    rw [hs] at hown2
    have hown3 : w3.ownsRow w.heap.size 5 1 (.slice A2 (k + 1) c2) (k + 1) ((out ++ [((r % 2 : Nat) : Int)]).map (Value.int .u8)) := by simpa [Nat.add_assoc] using hown2
    clear hs hown2 hgrow2 hown
    go_wp2
    go_roundw
    case rel => exact ⟨k + 1, r / 2, _, by congr 1, by omega, by omega, hown3, hdo2, hnum2, hnx2⟩
    case measure => simp [intOf]; omega
  · obtain rfl : r = 0 := by omega
    obtain ⟨A2, c2, rfl, hc2, _⟩ := own_shape hown
    have hend : num 2 out = v := by have := hnum.out; omega
    have hwf : ∀ x ∈ out, IntKind.u8.min ≤ x ∧ x ≤ IntKind.u8.max := fun x hx => by
     have := hdo x hx
     simp only [IntKind.min, IntKind.max, IntKind.signed, IntKind.bits]
     omega
    have hI := Ints.of_own hown hwf (by omega)
    have HE := Lib.hid hend
    clear hown hnum hend
    go_wp2_with fail
    refine (Limbs_any _ _ _ _ _ _ out hI hdo hc2 (Nat.le_refl _) (by omega) v HE.out).mono ?_
    rintro e w4 ⟨A4, n4, c4, rfl, hn4, hB, hI4⟩
    go_wp2
    go_ret
    exact ⟨A4, n4, c4, rfl, hn4, hnx.trans (hB.mono hnx.size), hI4.more hnx.size (Nat.le_refl _)⟩
set_option maxHeartbeats 3200000 in
set_option maxRecDepth 100000 in
/-- headcountref02.Of. -/
theorem rOf_any (w : World) (z : Int) (h0 : -9223372036854775808 ≤ z) (h1 : z ≤ 9223372036854775807) (s : Bool) (v : Nat) (hs : decide (z < 0) = s) (hv : z.natAbs = v) :
  Calls Tryz.prog 88 #[.int .i64 z] w fun e w' => ∃ A n c, e = .returned (.agg #[.bool s, .slice A n c, .int .i64 0]) ∧ n ≤ c ∧ Below w.heap.size w w' ∧ Ints w' w.heap.size w'.heap.size .u32 A n (canon 4294967296 v) := by
 generalize hw : w.alloc (.cells #[.bool false, .slice none 0 0, .int .i64 0] 24) = w1
 have X1 : w1.heap[w.heap.size]? = some (.cells #[.bool false, .slice none 0 0, .int .i64 0] 24 (0, 0)) := by rw [← hw]; exact heap_alloc_last _ _
 have hb : Below w.heap.size w w1 := by rw [← hw]; exact (Below.refl _ w).alloc (Nat.le_refl _) _
 have l1 : w.heap.size < w1.heap.size := by rw [← hw]; simp
 have hv64 : v < 18446744073709551616 := by omega
 by_cases hz : z < 0
 · obtain rfl : s = true := by rw [← hs]; simpa using hz
   obtain ⟨u, hu⟩ : ∃ u : Nat, v = u + 1 := ⟨v - 1, by omega⟩
   obtain rfl : z = -((u : Int) + 1) := by omega
   subst hu
   have e1 : IntKind.i64.wrap (-((u : Int) + 1) + 1) = -(u : Int) := by rw [IntKind.wrap_i64]; omega
   have e2 : wrap64 (u : Int) = u := by unfold wrap64; omega
   have e3 : IntKind.u64.wrap (u : Int) = u := by rw [IntKind.wrap_u64]; omega
   have e4 : IntKind.u64.wrap ((u : Int) + 1) = ((u + 1 : Nat) : Int) := by rw [IntKind.wrap_u64]; omega
   clear hs hv h0
   obtain ⟨⟨p0, p1, p2⟩, p3, p4, p5⟩ := boxD X1
   go_enter Tryz.func88, Tryz.ntmps88
   go_wp2_with fail
   try clear hw
   clear p0 p1 p2 p3 p4 p5 e1 e2 e3 e4
   refine (rOf1_any w1 (u + 1) hv64).mono ?_
   rintro e w2 ⟨A, n, c, rfl, hc, hB, hI⟩
   have l2 := hB.size
   replace X1 := (hB.block _ l1).trans X1
   replace hb := hb.trans (hB.mono (by omega))
   clear hB
   obtain ⟨⟨p0, p1, p2⟩, p3, p4, p5⟩ := boxD X1
   go_wp2
   clear p0 p1 p2 p3 p4 p5
   have X5 := box_put X1 (.bool true) (.slice A n c) (.int .i64 0)
   have b5 := below_put hb (g := w.heap.size) (Nat.le_refl _) (.bool true) (.slice A n c) (.int .i64 0)
   have I5 := ints_put hI (g := w.heap.size) (.inl (by omega)) (.bool true) (.slice A n c) (.int .i64 0)
   have s5 := size_put (w := w2) (g := w.heap.size) (.bool true) (.slice A n c) (.int .i64 0)
   obtain ⟨⟨q0, q1, q2⟩, q3, q4, q5⟩ := boxD X5
   exact bodyPost_ret (v := .agg #[.bool true, .slice A n c, .int .i64 0]) (by simp [results, Tryz.results88, go_sem, q0, q1, q2]) rfl ⟨A, n, c, rfl, hc, b5, I5.more (by omega) (by omega)⟩
 · obtain rfl : s = false := by rw [← hs]; simpa using hz
   obtain rfl : z = (v : Int) := by omega
   clear hs hv h0
   obtain ⟨⟨p0, p1, p2⟩, p3, p4, p5⟩ := boxD X1
   go_enter Tryz.func88, Tryz.ntmps88
   go_wp2_with fail
   try clear hw
   clear p0 p1 p2 p3 p4 p5
   refine (rOf1_any w1 v hv64).mono ?_
   rintro e w2 ⟨A, n, c, rfl, hc, hB, hI⟩
   have l2 := hB.size
   replace X1 := (hB.block _ l1).trans X1
   replace hb := hb.trans (hB.mono (by omega))
   clear hB
   obtain ⟨⟨p0, p1, p2⟩, p3, p4, p5⟩ := boxD X1
   go_wp2
   clear p0 p1 p2 p3 p4 p5
   have X5 := box_put X1 (.bool false) (.slice A n c) (.int .i64 0)
   have b5 := below_put hb (g := w.heap.size) (Nat.le_refl _) (.bool false) (.slice A n c) (.int .i64 0)
   have I5 := ints_put hI (g := w.heap.size) (.inl (by omega)) (.bool false) (.slice A n c) (.int .i64 0)
   have s5 := size_put (w := w2) (g := w.heap.size) (.bool false) (.slice A n c) (.int .i64 0)
   obtain ⟨⟨q0, q1, q2⟩, q3, q4, q5⟩ := boxD X5
   exact bodyPost_ret (v := .agg #[.bool false, .slice A n c, .int .i64 0]) (by simp [results, Tryz.results88, go_sem, q0, q1, q2]) rfl ⟨A, n, c, rfl, hc, b5, I5.more (by omega) (by omega)⟩
end Dy
end Go.Proofs.YtmbppgjhdcmckaaGreatDoor
namespace Go.Proofs.YtmbppgjhdcmckaaGreatDoor
open Go.RowKit
namespace Ma
open Dp Dy
open Classical in
/-- What a node begins with, or the error. -/
noncomputable def seedM (x : Int) (first : Bool) : (Nat → Dn) × Int := if x < -2147483647 ∨ 2147483647 < x then (zR, 2) else (seedD x first, 0)
end Ma
end Go.Proofs.YtmbppgjhdcmckaaGreatDoor
namespace Go.Proofs.YtmbppgjhdcmckaaGreatDoor
open Go.RowKit
namespace Ma
open Dp Dy
def WrM (w : World) (lo hi : Nat) (m : Mv) : Prop := ∀ x, x < 4 → 0 < (m.get x).n → ∃ b off, (m.get x).A = some ⟨b, off, none⟩ ∧ lo ≤ b ∧ b < hi ∧ WrD w b off (m.get x).n
theorem WrM.of {w w' : World} {lo hi : Nat} {m : Mv} (h : MRows w lo hi m) (hk : ∀ b, b < hi → w'.heap[b]? = w.heap[b]?) : WrM w' lo hi m := fun x hx h0 => by
 obtain ⟨b, off, e, h1, h2, hc⟩ := (h.get x).row h0
 refine ⟨b, off, e, h1, h2, fun j hj => ?_⟩
 have h3 := hk b h2
 obtain ⟨h4, h5⟩ := hc j hj
 exact ⟨⟨_, by rw [World.cell?_of_block h3]; exact h4⟩, by rw [World.frozen?_of_block h3]; exact h5⟩
theorem WrM.set_ {w : World} {lo hi : Nat} {m : Mv} (h : WrM w lo hi m) (p : Addr) (v : Value) : WrM (w.setCell p v) lo hi m := fun x hx h0 => by
 obtain ⟨b, off, e, h1, h2, hW⟩ := h x hx h0
 exact ⟨b, off, e, h1, h2, hW.set_ _ _⟩
def LBox (w : World) (g : Nat) (m : Mv) : Prop := w.heap[g]? = some (.cells #[.slice m.S.A m.S.n m.S.c, .slice m.W.A m.W.n m.W.c, .slice m.C.A m.C.n m.C.c, .slice m.A.A m.A.n m.A.c] 22 (0, 0))
theorem LBox.at_ {w : World} {g : Nat} {m : Mv} (h : LBox w g m) {i : Nat} (hi : i < 4) : w.cell? ⟨g, i, none⟩ = some (.slice (m.get i).A (m.get i).n (m.get i).c) := by
 unfold LBox at h
 have hi' : i = 0 ∨ i = 1 ∨ i = 2 ∨ i = 3 := by omega
 rcases hi' with rfl | rfl | rfl | rfl
 · exact cell_of_row w g 0 _ _ _ h
 · exact cell_of_row w g 1 _ _ _ h
 · exact cell_of_row w g 2 _ _ _ h
 · exact cell_of_row w g 3 _ _ _ h
end Ma
end Go.Proofs.YtmbppgjhdcmckaaGreatDoor
namespace Go.Proofs.YtmbppgjhdcmckaaGreatDoor
open Go.RowKit
section
variable {P : Program} {os : List Oper} {Q : Exit → Act → World → Prop} {md : Region.Mode} {S : World → Prop} {E : List Nat} {B : Array Bool → Act → World → Prop}
/-- As wpAnyE; behind n operations B stands. -/
def wpAnyG (B : Array Bool → Act → World → Prop) (P : Program) (md : Region.Mode) (ops : Array Oper) (Q : Exit → Act → World → Prop) (S : World → Prop) (E : List Nat) : Nat → Array Bool → Act → World → Prop
 | 0, L, a, w => B L a w
 | n + 1, L, a, w => (Region.ready md ops L = [] → Q .normal a w) ∧ ∀ i ∈ Region.ready md ops L, wpOp P ops Q i (fun a' w' => (E.contains i = false → S w → S w') ∧ wpAnyG B P md ops Q S E n (L.setIfInBounds i true) a' w') a w
theorem E_of_G' {ops : Array Oper} (m : Nat) (h : ∀ L a w, B L a w → wpAnyE P md ops Q S E m L a w) : ∀ (n : Nat) (L : Array Bool) (a : Act) (w : World), wpAnyG B P md ops Q S E n L a w → wpAnyE P md ops Q S E (n + m) L a w
 | 0, L, a, w, hg => by
  rw [Nat.zero_add]
  exact h L a w hg
 | n + 1, L, a, w, hg => by
  rw [Nat.add_right_comm]
  exact ⟨hg.1, fun i hi => wpOp_mono (fun a' w' h' => ⟨h'.1, E_of_G' m h n _ a' w' h'.2⟩) (hg.2 i hi)⟩
theorem E_of_G {ops : Array Oper} (n m : Nat) (B : Act → Array Bool → Act → World → Prop) {k : Nat} (hk : n + m = k) {L : Array Bool} {a : Act} {w : World} (hg : wpAnyG (B a) P md ops Q S E n L a w) (h : ∀ L' a' w', B a L' a' w' → wpAnyE P md ops Q S E m L' a' w') : wpAnyE P md ops Q S E k L a w := by
 subst hk
 exact E_of_G' m h n L a w hg
/-- The same, what follows under a name. -/
theorem stepG {i n : Nat} {oi : Oper} {listed L : Array Bool} {a : Act} {w : World} (hi : os[i]? = some oi) (hL : listed.setIfInBounds i true = L)
  (hr : Region.ready md os.toArray listed = [i]) (hw : Region.wanted oi (yielded os.toArray a.tmps) = true)
  (h : ∀ K' : Act → World → Prop, Shut (∀ a w', ((E.contains i = false → S w → S w') ∧ wpAnyG B P md os.toArray Q S E n L a w') → K' a w') → Oper.wp P oi a w K' Q) :
  wpAnyG B P md os.toArray Q S E (n + 1) listed a w := by
 subst hL
 refine ⟨fun h0 => (by rw [hr] at h0; cases h0), fun j hj => ?_⟩
 rw [hr] at hj
 obtain rfl := List.mem_singleton.1 hj
 refine wpOp_step (by simpa using hi) (fun K' hK => ?_)
 rw [if_pos hw]
 exact h K' hK
/-- Two may come up: whichever. -/
theorem stepG2 {i j n : Nat} {oi oj : Oper} {listed Li Lj : Array Bool} {a : Act} {w : World} (hi : os[i]? = some oi) (hj : os[j]? = some oj) (hLi : listed.setIfInBounds i true = Li) (hLj : listed.setIfInBounds j true = Lj)
  (hr : Region.ready md os.toArray listed = [i, j]) (hwi : Region.wanted oi (yielded os.toArray a.tmps) = true) (hwj : Region.wanted oj (yielded os.toArray a.tmps) = true)
  (h : ∀ K' : Act → World → Prop, Shut (∀ a w', ((E.contains i = false → S w → S w') ∧ wpAnyG B P md os.toArray Q S E n Li a w') → K' a w') → Oper.wp P oi a w K' Q)
  (h' : ∀ K' : Act → World → Prop, Shut (∀ a w', ((E.contains j = false → S w → S w') ∧ wpAnyG B P md os.toArray Q S E n Lj a w') → K' a w') → Oper.wp P oj a w K' Q) :
  wpAnyG B P md os.toArray Q S E (n + 1) listed a w := by
 subst hLi
 subst hLj
 refine ⟨fun h0 => (by rw [hr] at h0; cases h0), fun m hm => ?_⟩
 rw [hr] at hm
 simp only [List.mem_cons, List.not_mem_nil, or_false] at hm
 rcases hm with rfl | rfl
 · refine wpOp_step (by simpa using hi) (fun K' hK => ?_)
   rw [if_pos hwi]
   exact h K' hK
 · refine wpOp_step (by simpa using hj) (fun K' hK => ?_)
   rw [if_pos hwj]
   exact h' K' hK
/-- Three may come up: whichever. -/
theorem stepG3 {i j k n : Nat} {oi oj ok : Oper} {listed Li Lj Lk : Array Bool} {a : Act} {w : World} (hi : os[i]? = some oi) (hj : os[j]? = some oj) (hk : os[k]? = some ok) (hLi : listed.setIfInBounds i true = Li) (hLj : listed.setIfInBounds j true = Lj) (hLk : listed.setIfInBounds k true = Lk)
  (hr : Region.ready md os.toArray listed = [i, j, k]) (hwi : Region.wanted oi (yielded os.toArray a.tmps) = true) (hwj : Region.wanted oj (yielded os.toArray a.tmps) = true) (hwk : Region.wanted ok (yielded os.toArray a.tmps) = true)
  (h : ∀ K' : Act → World → Prop, Shut (∀ a w', ((E.contains i = false → S w → S w') ∧ wpAnyG B P md os.toArray Q S E n Li a w') → K' a w') → Oper.wp P oi a w K' Q)
  (h' : ∀ K' : Act → World → Prop, Shut (∀ a w', ((E.contains j = false → S w → S w') ∧ wpAnyG B P md os.toArray Q S E n Lj a w') → K' a w') → Oper.wp P oj a w K' Q)
  (h'' : ∀ K' : Act → World → Prop, Shut (∀ a w', ((E.contains k = false → S w → S w') ∧ wpAnyG B P md os.toArray Q S E n Lk a w') → K' a w') → Oper.wp P ok a w K' Q) :
  wpAnyG B P md os.toArray Q S E (n + 1) listed a w := by
 subst hLi
 subst hLj
 subst hLk
 refine ⟨fun h0 => (by rw [hr] at h0; cases h0), fun m hm => ?_⟩
 rw [hr] at hm
 simp only [List.mem_cons, List.not_mem_nil, or_false] at hm
 rcases hm with rfl | rfl | rfl
 · refine wpOp_step (by simpa using hi) (fun K' hK => ?_)
   rw [if_pos hwi]
   exact h K' hK
 · refine wpOp_step (by simpa using hj) (fun K' hK => ?_)
   rw [if_pos hwj]
   exact h' K' hK
 · refine wpOp_step (by simpa using hk) (fun K' hK => ?_)
   rw [if_pos hwk]
   exact h'' K' hK
end
end Go.Proofs.YtmbppgjhdcmckaaGreatDoor
namespace Go.Proofs.YtmbppgjhdcmckaaGreatDoor
open Go.RowKit
namespace Ma
open Dp Dy
theorem rows_spoilt {w w' : World} {lo hi l h : Nat} {m : Mv} (hI : MRows w l h m) (hb : Below lo w w') (hf : From hi w w') (hs : h ≤ w.heap.size) (hd : h ≤ lo ∨ hi ≤ l) : MRows w' l h m :=
 ⟨ints_spoilt hI.S hb hf hs hd, ints_spoilt hI.W hb hf hs hd, ints_spoilt hI.C hb hf hs hd, ints_spoilt hI.A hb hf hs hd⟩
theorem two_spoilt {w w' : World} {lo hi l h l' h' : Nat} {m : Mv} (hI : TwoR w l h l' h' m) (hb : Below lo w w') (hf : From hi w w') (hs : h ≤ w.heap.size) (hd : h ≤ lo ∨ hi ≤ l) (hs' : h' ≤ w.heap.size) (hd' : h' ≤ lo ∨ hi ≤ l') : TwoR w' l h l' h' m :=
 fun x hx => (hI x hx).imp (fun k => ints_spoilt k hb hf hs hd) (fun k => ints_spoilt k hb hf hs' hd')
/-- The rows lie in neither of two blocks. -/
def RowsOff (_w : World) (g g' : Nat) (m : Mv) : Prop := ∀ x, x < 4 → 0 < (m.get x).n → ∀ b off, (m.get x).A = some ⟨b, off, none⟩ → b ≠ g ∧ b ≠ g'
theorem rows_or {w : World} {lo hi g g' : Nat} {m : Mv} (h : MRows w lo hi m) (h1 : g < lo ∨ hi ≤ g) (h2 : g' < lo ∨ hi ≤ g') : RowsOff w g g' m := fun x _ h0 b off e => by
 obtain ⟨b', off', e', k1, k2, _⟩ := (h.get x).row h0
 rw [e] at e'
 injection e' with e'
 injection e' with e1 _ _
 subst e1
 exact ⟨by omega, by omega⟩
theorem ints_off {w w' : World} {lo hi g g' j : Nat} {d : Dv} (h : Ints w lo hi .u32 d.A d.n d.xs) (ho : 0 < d.n → ∀ b off, d.A = some ⟨b, off, none⟩ → b ≠ g ∧ b ≠ g') (hf : ∀ k, k ≠ j → w'.heap[k]? = w.heap[k]?) (hj : j = g ∨ j = g') : Ints w' lo hi .u32 d.A d.n d.xs :=
 ⟨h.len, h.wf, h.big, fun h0 => by
  obtain ⟨b, off, e, h1, h2, hc⟩ := h.row h0
  obtain ⟨n1, n2⟩ := ho h0 b off e
  have h3 := hf b (by rcases hj with rfl | rfl; exact n1; exact n2)
  exact ⟨b, off, e, h1, h2, fun i hi => ⟨by rw [World.cell?_of_block h3]; exact (hc i hi).1, by rw [World.frozen?_of_block h3]; exact (hc i hi).2⟩⟩⟩
theorem RowsOff.far {w w' : World} {g g' lo hi j : Nat} {m : Mv} (ho : RowsOff w g g' m) (h : MRows w lo hi m) (hf : ∀ k, k ≠ j → w'.heap[k]? = w.heap[k]?) (hj : j = g ∨ j = g') : MRows w' lo hi m :=
 ⟨ints_off h.S (ho 0 (by decide)) hf hj, ints_off h.W (ho 1 (by decide)) hf hj, ints_off h.C (ho 2 (by decide)) hf hj, ints_off h.A (ho 3 (by decide)) hf hj⟩
theorem RowsOff.on {w w' : World} {g g' j : Nat} {m : Mv} (ho : RowsOff w g g' m) (_hf : ∀ k, k ≠ j → w'.heap[k]? = w.heap[k]?) (_hj : j = g ∨ j = g') : RowsOff w' g g' m := ho
theorem amid_spoilt {w0 w w' : World} {lo : Nat} (h : Amid w0 w) (hb : Below lo w w') (h0 : w0.heap.size ≤ lo) (h1 : 0 < lo) : Amid w0 w' := ⟨h.below.trans (hb.mono h0), h.tab.below hb h1⟩
/-- Rows in a range of blocks that are there. -/
structure RB (w : World) (lo hi : Nat) (m : Mv) : Prop where
 rows : MRows w lo hi m
 le : hi ≤ w.heap.size
theorem RB.on {w w' : World} {lo hi : Nat} {m : Mv} (h : RB w lo hi m) (hb : Below w.heap.size w w') : RB w' lo hi m := ⟨h.rows.below hb h.le, Nat.le_trans h.le hb.size⟩
theorem RB.all {w : World} {lo hi : Nat} {m : Mv} (h : RB w lo hi m) : MRows w 0 w.heap.size m := h.rows.more (Nat.zero_le _) h.le
theorem RB.spoilt {w w' : World} {lo hi l k : Nat} {m : Mv} (h : RB w l k m) (hb : Below lo w w') (hf : From hi w w') (hd : k ≤ lo ∨ hi ≤ l) : RB w' l k m := ⟨rows_spoilt h.rows hb hf h.le hd, Nat.le_trans h.le hb.size⟩
structure TB (w : World) (lo hi lo' hi' : Nat) (m : Mv) : Prop where
 rows : TwoR w lo hi lo' hi' m
 le : hi ≤ w.heap.size
 le' : hi' ≤ w.heap.size
theorem TB.on {w w' : World} {lo hi lo' hi' : Nat} {m : Mv} (h : TB w lo hi lo' hi' m) (hb : Below w.heap.size w w') : TB w' lo hi lo' hi' m := ⟨h.rows.below hb h.le h.le', Nat.le_trans h.le hb.size, Nat.le_trans h.le' hb.size⟩
theorem TB.all {w : World} {lo hi lo' hi' : Nat} {m : Mv} (h : TB w lo hi lo' hi' m) : MRows w 0 w.heap.size m := h.rows.rows h.le h.le'
theorem TB.spoilt {w w' : World} {lo hi l k l' k' : Nat} {m : Mv} (h : TB w l k l' k' m) (hb : Below lo w w') (hf : From hi w w') (hd : k ≤ lo ∨ hi ≤ l) (hd' : k' ≤ lo ∨ hi ≤ l') : TB w' l k l' k' m := ⟨two_spoilt h.rows hb hf h.le hd h.le' hd', Nat.le_trans h.le hb.size, Nat.le_trans h.le' hb.size⟩
theorem isM_n {w : World} {lo hi : Nat} {R : Nat → Dn} {m : Mv} (hR : MRows w lo hi m) (h : IsM R m) (hr : MayR R) : ∀ x, x < 4 → (m.get x).n ≤ 1000000 := fun x hx => by
 have h1 := (hR.get x).len
 have h2 : (m.get x).xs.length ≤ 40 := ((h x hx).may (hr x hx)).1.1
 omega
theorem twin_all {a u : Mv} (h : ∀ x, x < 4 → TwinV (a.get x) (u.get x)) (j : Nat) : TwinV (a.get j) (u.get j) := by
 have e : ∀ (m : Mv) (k : Nat), m.get (k + 4) = m.get 3 := fun _ _ => rfl
 by_cases hj : j < 4
 · exact h j hj
 · obtain ⟨k, rfl⟩ : ∃ k, j = k + 4 := ⟨j - 4, by omega⟩
   rw [e, e]
   exact h 3 (by decide)
theorem twin_may {a u : Mv} (h : ∀ x, x < 4 → TwinV (a.get x) (u.get x)) : u.may ↔ a.may := by
 have k : ∀ x, x < 4 → ((u.get x).may ↔ (a.get x).may) := fun x hx => by
  obtain ⟨h1, _, h3, h4, _⟩ := h x hx
  unfold Dv.may
  rw [h1, h3, h4]
 exact ⟨fun m x hx => (k x hx).1 (m x hx), fun m x hx => (k x hx).2 (m x hx)⟩
theorem twin_add {a b u v : Mv} (h : ∀ x, x < 4 → TwinV (a.get x) (u.get x)) (h' : ∀ x, x < 4 → TwinV (b.get x) (v.get x)) : addM u v = addM a b := by
 have e : ∀ j, xAdd u v j = xAdd a b j := fun j => by
  obtain ⟨h1, _, h3, h4, _⟩ := twin_all h j
  obtain ⟨k1, _, k3, k4, _⟩ := twin_all h' j
  unfold xAdd
  rw [h1, h3, h4, k1, k3, k4]
 have ef : xAdd u v = xAdd a b := funext e
 unfold addM
 rw [ef]
 by_cases hm : a.may ∧ b.may
 · rw [if_pos hm, if_pos (show u.may ∧ v.may from ⟨(twin_may h).2 hm.1, (twin_may h').2 hm.2⟩)]
 · rw [if_neg hm, if_neg (show ¬ (u.may ∧ v.may) from fun k => hm ⟨(twin_may h).1 k.1, (twin_may h').1 k.2⟩)]
theorem twin_sub {a b u v : Mv} (h : ∀ x, x < 4 → TwinV (a.get x) (u.get x)) (h' : ∀ x, x < 4 → TwinV (b.get x) (v.get x)) : subM u v = subM a b := by
 have e : ∀ j, xSub u v j = xSub a b j := fun j => by
  obtain ⟨h1, _, h3, h4, _⟩ := twin_all h j
  obtain ⟨k1, _, k3, k4, _⟩ := twin_all h' j
  unfold xSub
  rw [h1, h3, h4, k1, k3, k4]
 have ef : xSub u v = xSub a b := funext e
 unfold subM
 rw [ef]
 by_cases hm : a.may ∧ b.may
 · rw [if_pos hm, if_pos (show u.may ∧ v.may from ⟨(twin_may h).2 hm.1, (twin_may h').2 hm.2⟩)]
 · rw [if_neg hm, if_neg (show ¬ (u.may ∧ v.may) from fun k => hm ⟨(twin_may h).1 k.1, (twin_may h').1 k.2⟩)]
theorem twin_split {a u : Mv} (h : ∀ x, x < 4 → TwinV (a.get x) (u.get x)) : splitM u = splitM a := by
 obtain ⟨h1, _, h3, h4, _⟩ := h 0 (by decide)
 obtain ⟨k1, _, k3, k4, _⟩ := h 1 (by decide)
 have e : dnM u = dnM a := by
  funext j
  obtain ⟨g1, _, g3, g4, _⟩ := twin_all h j
  unfold dnM
  rw [g1, g3, g4]
 have s1 : u.S.s = a.S.s := h1
 have s3 : u.S.e = a.S.e := h3
 have s4 : u.S.xs = a.S.xs := h4
 have w1 : u.W.s = a.W.s := k1
 have w3 : u.W.e = a.W.e := k3
 have w4 : u.W.xs = a.W.xs := k4
 unfold splitM
 rw [s1, s3, s4, w1, w3, w4, e]
 by_cases hm : a.may
 · rw [if_pos hm, if_pos ((twin_may h).2 hm)]
 · rw [if_neg hm, if_neg fun k => hm ((twin_may h).1 k)]
theorem twin_chk {a u : Mv} (h : ∀ x, x < 4 → TwinV (a.get x) (u.get x)) : chkM u = chkM a := by
 by_cases hm : a.may
 · rw [chk_may hm, chk_may ((twin_may h).2 hm)]
 · rw [chk_not hm, chk_not fun k => hm ((twin_may h).1 k)]
theorem twin_sameV {d d' e e' : Dv} (h : TwinV d d') (h' : TwinV e e') : sameV d' e' = sameV d e := by
 unfold sameV
 rw [h.1, h.2.2.1, h.2.2.2.1, h'.1, h'.2.2.1, h'.2.2.2.1]
theorem twin_sameM {a b u v : Mv} (h : ∀ x, x < 4 → TwinV (a.get x) (u.get x)) (h' : ∀ x, x < 4 → TwinV (b.get x) (v.get x)) : sameM u v = sameM a b := by
 have k0 : sameV u.S v.S = sameV a.S b.S := twin_sameV (h 0 (by decide)) (h' 0 (by decide))
 have k1 : sameV u.W v.W = sameV a.W b.W := twin_sameV (h 1 (by decide)) (h' 1 (by decide))
 have k2 : sameV u.C v.C = sameV a.C b.C := twin_sameV (h 2 (by decide)) (h' 2 (by decide))
 have k3 : sameV u.A v.A = sameV a.A b.A := twin_sameV (h 3 (by decide)) (h' 3 (by decide))
 unfold sameM
 rw [k0, k1, k2, k3]
theorem sameM_refl (a : Mv) : sameM a a = true := by
 unfold sameM sameV
 simp [Pa.Dy.same_refl]
theorem twin_refl_n {a u : Mv} (h : ∀ x, x < 4 → TwinV (a.get x) (u.get x)) {k : Nat} (hn : ∀ x, x < 4 → (a.get x).n ≤ k) : ∀ x, x < 4 → (u.get x).n ≤ k := fun x hx => by rw [(h x hx).2.1]; exact hn x hx
theorem twin_twin {a u t : Mv} (h : ∀ x, x < 4 → TwinV (a.get x) (u.get x)) (h' : ∀ x, x < 4 → TwinV (u.get x) (t.get x)) : ∀ x, x < 4 → TwinV (a.get x) (t.get x) := fun x hx =>
 ⟨(h' x hx).1.trans (h x hx).1, (h' x hx).2.1.trans (h x hx).2.1, (h' x hx).2.2.1.trans (h x hx).2.2.1, (h' x hx).2.2.2.1.trans (h x hx).2.2.2.1, (h' x hx).2.2.2.2⟩
theorem twin_same {a u : Mv} (h : ∀ x, x < 4 → TwinV (a.get x) (u.get x)) : sameM u a = true := by
 unfold sameM
 have k : ∀ x, x < 4 → sameV (u.get x) (a.get x) = true := fun x hx => by
  unfold sameV
  rw [(h x hx).1, (h x hx).2.2.1, (h x hx).2.2.2.1]
  exact Pa.Dy.same_refl _
 have k0 := k 0 (by decide)
 have k1 := k 1 (by decide)
 have k2 := k 2 (by decide)
 have k3 := k 3 (by decide)
 simp only [Mv.get] at k0 k1 k2 k3
 rw [k0, k1, k2, k3]
 rfl
theorem splitM_mayR {m : Mv} {w : World} {lo hi : Nat} (hR : MRows w lo hi m) {kR sR : Nat → Dn} {code : Int} (h : splitM m = ((kR, sR), code)) : MayR kR ∧ MayR sR := splitM_may hR h
theorem seedM_may {x : Int} {first : Bool} {R : Nat → Dn} {code : Int} (h : seedM x first = (R, code)) : MayR R := by
 unfold seedM at h
 split at h
 · injection h with h1 h2
   subst h1
   exact zR_may
 · rename_i hx
   injection h with h1 h2
   subst h1
   have h32 : (2 : Nat) ^ 32 = 4294967296 := by decide
   have hm : ∀ z : Nat, z ≤ 2147483647 → ∀ s, (z = 0 → s = false) → Dn.May ⟨s, z, 0⟩ := fun z hz s hs =>
    ⟨capD_gt (k := 32) (show z < 2 ^ 32 by rw [h32]; omega) (by decide), Nat.zero_le _, fun h0 => ⟨rfl, hs h0⟩, fun h0 => absurd h0 (Nat.lt_irrefl 0)⟩
   refine four (hm _ (by omega) _ fun h0 => ?_) (hm 1 (by decide) _ fun _ => rfl) ?_ (hm _ (by omega) _ fun h0 => ?_)
   · simp; omega
   · show (if first then (⟨false, 1, 0⟩ : Dn) else Dn.zero).May
     split
     · exact hm 1 (by decide) _ fun _ => rfl
     · exact zero_may
   · simp; omega
end Ma
end Go.Proofs.YtmbppgjhdcmckaaGreatDoor
namespace Go.Proofs.YtmbppgjhdcmckaaGreatDoor
open Go.RowKit
namespace Ma
open Dp Dy
/-- A mass's twelve cells amid a row. -/
def MCells (w : World) (b o : Nat) (m : Mv) : Prop := w.cell? ⟨b, o, none⟩ = some (.bool m.S.s) ∧ w.cell? ⟨b, o + 1, none⟩ = some (.slice m.S.A m.S.n m.S.c) ∧ w.cell? ⟨b, o + 2, none⟩ = some (.int .i64 m.S.e) ∧ w.cell? ⟨b, o + 3, none⟩ = some (.bool m.W.s) ∧ w.cell? ⟨b, o + 4, none⟩ = some (.slice m.W.A m.W.n m.W.c) ∧ w.cell? ⟨b, o + 5, none⟩ = some (.int .i64 m.W.e) ∧ w.cell? ⟨b, o + 6, none⟩ = some (.bool m.C.s) ∧ w.cell? ⟨b, o + 7, none⟩ = some (.slice m.C.A m.C.n m.C.c) ∧ w.cell? ⟨b, o + 8, none⟩ = some (.int .i64 m.C.e) ∧ w.cell? ⟨b, o + 9, none⟩ = some (.bool m.A.s) ∧ w.cell? ⟨b, o + 10, none⟩ = some (.slice m.A.A m.A.n m.A.c) ∧ w.cell? ⟨b, o + 11, none⟩ = some (.int .i64 m.A.e)
/-- Masses in a row. -/
structure LMs (w : World) (lo hi : Nat) (A : Option Addr) (n : Nat) (ms : List Mv) : Prop where
 len : ms.length = n
 big : n ≤ 9223372036854775807
 row : 0 < n → ∃ b off, A = some ⟨b, off, none⟩ ∧ lo ≤ b ∧ b < hi ∧ ∀ j (h : j < ms.length), MCells w b (off + j * 12) ms[j]
 rows : ∀ j (h : j < ms.length), MRows w lo hi ms[j]
theorem infoM : (Tryz.prog.info? 26).map (fun i => (i.zero, i.size, i.bytes)) = some (some (.agg #[.bool false, .slice none 0 0, .int .i64 0, .bool false, .slice none 0 0, .int .i64 0, .bool false, .slice none 0 0, .int .i64 0, .bool false, .slice none 0 0, .int .i64 0]), 12, 160) := by kernel_rfl
theorem MCells.blk {w w' : World} {b o : Nat} {m : Mv} (h : MCells w b o m) (hk : w'.heap[b]? = w.heap[b]?) : MCells w' b o m := by
 obtain ⟨h0, h1, h2, h3, h4, h5, h6, h7, h8, h9, h10, h11⟩ := h
 exact ⟨by rw [World.cell?_of_block hk]; exact h0, by rw [World.cell?_of_block hk]; exact h1, by rw [World.cell?_of_block hk]; exact h2, by rw [World.cell?_of_block hk]; exact h3, by rw [World.cell?_of_block hk]; exact h4, by rw [World.cell?_of_block hk]; exact h5, by rw [World.cell?_of_block hk]; exact h6, by rw [World.cell?_of_block hk]; exact h7, by rw [World.cell?_of_block hk]; exact h8, by rw [World.cell?_of_block hk]; exact h9, by rw [World.cell?_of_block hk]; exact h10, by rw [World.cell?_of_block hk]; exact h11⟩
theorem LMs.below {w w' : World} {lo hi B : Nat} {A : Option Addr} {n : Nat} {ms : List Mv} (h : LMs w lo hi A n ms) (hb : Below B w w') (hB : hi ≤ B) : LMs w' lo hi A n ms :=
 ⟨h.len, h.big, fun h0 => by
  obtain ⟨b, off, e, h1, h2, hc⟩ := h.row h0
  exact ⟨b, off, e, h1, h2, fun j hj => (hc j hj).blk (hb.block b (by omega))⟩, fun j hj => (h.rows j hj).below hb hB⟩
theorem LMs.more {w : World} {lo hi lo' hi' : Nat} {A : Option Addr} {n : Nat} {ms : List Mv} (h : LMs w lo hi A n ms) (hl : lo' ≤ lo) (hh : hi ≤ hi') : LMs w lo' hi' A n ms :=
 ⟨h.len, h.big, fun h0 => by
  obtain ⟨b, off, e, h1, h2, hc⟩ := h.row h0
  exact ⟨b, off, e, by omega, by omega, hc⟩, fun j hj => (h.rows j hj).more hl hh⟩
open Classical in
noncomputable def foldM : (Nat → Dn) → List Mv → Option (Nat → Dn)
 | R, [] => some R
 | R, m :: l => if ∀ x, x < 4 → (addD (R x) (dnM m x)).2 = 0 then foldM (fun x => (addD (R x) (dnM m x)).1) l else none
open Classical in
/-- What the sum of all is. -/
noncomputable def sumM (ms : List Mv) : (Nat → Dn) × Int :=
 if 4096 < ms.length then (zR, 4) else if ∃ m ∈ ms, ¬ m.may then (zR, 8) else match foldM zR ms with
  | some R => (R, 0)
  | none => (zR, 10)
open Classical in
theorem foldM_cons (R : Nat → Dn) (m : Mv) (l : List Mv) : foldM R (m :: l) = if ∀ x, x < 4 → (addD (R x) (dnM m x)).2 = 0 then foldM (fun x => (addD (R x) (dnM m x)).1) l else none := rfl
end Ma
end Go.Proofs.YtmbppgjhdcmckaaGreatDoor
namespace Go.Proofs.YtmbppgjhdcmckaaGreatDoor
open Go.RowKit
namespace Ma
open Dp Dy
/-- A mass's cells. -/
def cells12 (m : Mv) : List Value := [.bool m.S.s, .slice m.S.A m.S.n m.S.c, .int .i64 m.S.e, .bool m.W.s, .slice m.W.A m.W.n m.W.c, .int .i64 m.W.e, .bool m.C.s, .slice m.C.A m.C.n m.C.c, .int .i64 m.C.e, .bool m.A.s, .slice m.A.A m.A.n m.A.c, .int .i64 m.A.e]
/-- Those of masses. -/
def flatM : List Mv → List Value
 | [] => []
 | m :: l => cells12 m ++ flatM l
theorem flatM_append : ∀ l k, flatM (l ++ k) = flatM l ++ flatM k
 | [], _ => rfl
 | m :: l, k => by simp [flatM, flatM_append l k]
theorem flatM_one (m : Mv) : flatM [m] = cells12 m := by simp [flatM]
/-- A dyad's limbs lie in another block. -/
def Dv.off (d : Dv) (g : Option Nat) : Prop := ∀ a, d.A = some a → 0 < d.n → g ≠ some a.block
def Mv.off (m : Mv) (g : Option Nat) : Prop := ∀ x, x < 4 → (m.get x).off g
theorem ints_grown {w w' : World} {row : Option Nat} {k : IntKind} {A : Option Addr} {n : Nat} {xs : List Int} (h : Ints w 0 w.heap.size k A n xs) (hg : w.grownBy w' row) (hr : ∀ a, A = some a → 0 < n → row ≠ some a.block) : Ints w' 0 w'.heap.size k A n xs := by
 refine ⟨h.len, h.wf, h.big, fun h0 => ?_⟩
 obtain ⟨b, off, e, h1, h2, hc⟩ := h.row h0
 have hb := hg.block b h2 (fun k => hr _ e h0 k.symm)
 exact ⟨b, off, e, h1, Nat.lt_of_lt_of_le h2 hg.size, fun j hj => ⟨(World.cell?_of_block hb).trans (hc j hj).1, (World.frozen?_of_block hb).trans (hc j hj).2⟩⟩
theorem rows_grown {w w' : World} {row : Option Nat} {m : Mv} (h : MRows w 0 w.heap.size m) (hg : w.grownBy w' row) (hr : m.off row) : MRows w' 0 w'.heap.size m :=
 ⟨ints_grown h.S hg (hr 0 (by decide)), ints_grown h.W hg (hr 1 (by decide)), ints_grown h.C hg (hr 2 (by decide)), ints_grown h.A hg (hr 3 (by decide))⟩
/-- Rows below a block, or behind it, are off it. -/
theorem rows_off {w : World} {lo hi : Nat} {m : Mv} (h : MRows w lo hi m) {g : Option Nat} (hg : ∀ k, g = some k → k < lo ∨ hi ≤ k) : m.off g := fun x _ a e h0 hk => by
 obtain ⟨b, off, e', h1, h2, _⟩ := (h.get x).row h0
 rw [e'] at e
 injection e with e
 subst e
 have := hg _ hk
 simp only at this
 omega
theorem grown_of_below {w w' : World} (hb : Below w.heap.size w w') (row : Option Nat) : w.grownBy w' row := ⟨hb.os, hb.tape, hb.output, hb.size, fun k hk _ => hb.block k hk⟩
/-- A list of masses that the call owns. -/
structure OwnM (w : World) (base : Nat) (v : Value) (n : Nat) (ms : List Mv) : Prop where
 own : w.ownsRow base 26 12 v n (flatM ms)
 len : ms.length = n
 rows : ∀ m ∈ ms, MRows w 0 w.heap.size m
 off : ∀ m ∈ ms, m.off v.ownBlock
theorem OwnM.nil_ (w : World) (base : Nat) : OwnM w base (.slice none 0 0) 0 [] := ⟨World.ownsRow_nil .., rfl, fun _ h => absurd h (by simp), fun _ h => absurd h (by simp)⟩
theorem OwnM.on {w w' : World} {base : Nat} {v : Value} {n : Nat} {ms : List Mv} (h : OwnM w base v n ms) (hb : Below w.heap.size w w') : OwnM w' base v n ms :=
 ⟨h.own.kept (grown_of_below hb none) (by cases v.ownBlock <;> simp), h.len, fun m hm => ((h.rows m hm).below hb (Nat.le_refl _)).more (Nat.le_refl _) hb.size, h.off⟩
theorem OwnM.push {w w' : World} {base : Nat} {v v' : Value} {n : Nat} {ms : List Mv} (h : OwnM w base v n ms) {d : Mv} (hd : MRows w 0 w.heap.size d) (ho : d.off v.ownBlock)
  (hown : w'.ownsRow base 26 12 v' (n + 1) (flatM ms ++ cells12 d)) (hg : w.grownBy w' v.ownBlock) (hob : v'.ownBlock = v.ownBlock ∨ v'.ownBlock = some w.heap.size) : OwnM w' base v' (n + 1) (ms ++ [d]) := by
 refine ⟨by rw [flatM_append, flatM_one]; exact hown, by simp [h.len], fun m hm => ?_, fun m hm => ?_⟩
 · rcases List.mem_append.1 hm with hm | hm
   · exact rows_grown (h.rows m hm) hg (h.off m hm)
   · obtain rfl : m = d := by simpa using hm
     exact rows_grown hd hg ho
 · have hrow : MRows w 0 w.heap.size m ∧ m.off v.ownBlock := by
     rcases List.mem_append.1 hm with hm | hm
     · exact ⟨h.rows m hm, h.off m hm⟩
     · obtain rfl : m = d := by simpa using hm
       exact ⟨hd, ho⟩
   rcases hob with e | e
   · rw [e]
     exact hrow.2
   · rw [e]
     exact rows_off hrow.1 fun k hk => by
      injection hk with hk
      omega
theorem LMs.on {w w' : World} {A : Option Addr} {n : Nat} {ms : List Mv} (h : LMs w 0 w.heap.size A n ms) (hb : Below w.heap.size w w') : LMs w' 0 w'.heap.size A n ms := (h.below hb (Nat.le_refl _)).more (Nat.le_refl _) hb.size
end Ma
end Go.Proofs.YtmbppgjhdcmckaaGreatDoor
namespace Go.Proofs.YtmbppgjhdcmckaaGreatDoor
open Go.RowKit
namespace Ma
open Dp Dy
/-- Copies, one by one. -/
def Twins : List Mv → List Mv → Prop
 | [], [] => True
 | a :: l, u :: k => (∀ x, x < 4 → TwinV (a.get x) (u.get x)) ∧ Twins l k
 | _, _ => False
theorem Twins.len : ∀ {l k : List Mv}, Twins l k → k.length = l.length
 | [], [], _ => rfl
 | _ :: _, _ :: _, h => by simp [Twins.len h.2]
 | [], _ :: _, h => h.elim
 | _ :: _, [], h => h.elim
theorem Twins.get : ∀ {l k : List Mv}, Twins l k → ∀ (j : Nat) (h : j < l.length) (h' : j < k.length), ∀ x, x < 4 → TwinV (l[j].get x) (k[j].get x)
 | [], [], _, j, h, _ => absurd h (Nat.not_lt_zero _)
 | _ :: _, _ :: _, h, 0, _, _ => h.1
 | _ :: _, _ :: _, h, j + 1, h1, h2 => Twins.get h.2 j (by simpa using h1) (by simpa using h2)
 | [], _ :: _, h, _, _, _ => h.elim
 | _ :: _, [], h, _, _, _ => h.elim
theorem twins_dn {a u : Mv} (h : ∀ x, x < 4 → TwinV (a.get x) (u.get x)) : dnM u = dnM a := by
 funext j
 obtain ⟨g1, _, g3, g4, _⟩ := twin_all h j
 unfold dnM
 rw [g1, g3, g4]
theorem Twins.fold : ∀ {l k : List Mv}, Twins l k → ∀ R, foldM R k = foldM R l
 | [], [], _, _ => rfl
 | a :: l, u :: k, h, R => by
  rw [foldM_cons, foldM_cons, twins_dn h.1]
  by_cases hc : ∀ x, x < 4 → (addD (R x) (dnM a x)).2 = 0
  · rw [if_pos hc, if_pos hc]
    exact Twins.fold h.2 _
  · rw [if_neg hc, if_neg hc]
 | [], _ :: _, h, _ => h.elim
 | _ :: _, [], h, _ => h.elim
theorem Twins.bad : ∀ {l k : List Mv}, Twins l k → ((∃ m ∈ k, ¬ m.may) ↔ ∃ m ∈ l, ¬ m.may)
 | [], [], _ => by simp
 | a :: l, u :: k, h => by
  have ih := Twins.bad h.2
  have hm := twin_may h.1
  simp only [List.mem_cons, exists_eq_or_imp]
  rw [ih, hm]
 | [], _ :: _, h => h.elim
 | _ :: _, [], h => h.elim
theorem Twins.sum {l k : List Mv} (h : Twins l k) : sumM k = sumM l := by
 unfold sumM
 rw [h.len, h.fold]
 by_cases hl : 4096 < l.length
 · rw [if_pos hl, if_pos hl]
 · rw [if_neg hl, if_neg hl]
   by_cases hb : ∃ m ∈ l, ¬ m.may
   · rw [if_pos hb, if_pos (h.bad.2 hb)]
   · rw [if_neg hb, if_neg (fun k => hb (h.bad.1 k))]
end Ma
end Go.Proofs.YtmbppgjhdcmckaaGreatDoor