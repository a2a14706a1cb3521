/- What is frozen, got, and there before: what is answered, said as lists; no program in sight. -/
/- Tags that may be: least.Check and headcountref10.MayLeast, each by a walk. -/
/- Edges and parts that may be: walks (printed by a program of mine). -/
/- Frozen parts that may be: past.Check and headcountref20.Check: walks (printed by a program of mine). -/
/- Where an epoch's part stands: past.ahead, past.place: walks (printed by a program of mine). -/
/- Freezing: past.Freeze and its reference: walks (printed by a program of mine). -/
/- Getting: past.Get and its reference: walks (printed by a program of mine). -/
/- Those before: past.Before and its reference: walks (printed by a program of mine). -/
import Derived.Test.YtbbnbgllgomolaaBz09
import Derived.Test.YtbbnbgllgomolaaBz11
import Derived.Test.YtbbnbgllgomolaaProg
import Derived.Test.YtbbnbgllgomolaaBz01
import Derived.Test.YtbbnbgllgomolaaBz10
import Derived.Test.YtbbnbgllgomolaaBz08
namespace Go.Proofs.Ytbbnbgllgomolaa
open Go.RowKit
namespace Ma
open Dp Dy
/-- What is answered by freezing, with a code. -/
def frozenF (k : Int) (fs : List Fv) (z : Int) (p : Pv) : List Fv := if k = 0 then fs ++ [⟨z, p⟩] else []
/-- What is answered by getting. -/
def gotF (k : Int) (fs : List Fv) (z : Int) : Pv := if k = 0 then (match fs[aheadF fs z]? with
 | some f => f.P
 | none => ZPv) else ZPv
/-- What is answered as there before. -/
def beforeF (k : Int) (fs : List Fv) (z : Int) : List Fv := if k = 0 then fs.take (aheadF fs z) else []
theorem twinF_nil : TwinF [] [] := ⟨rfl, fun _ h => absurd h (Nat.not_lt_zero _)⟩
theorem frozenF_no {k : Int} (h : k ≠ 0) (fs : List Fv) (z : Int) (p : Pv) : TwinF (frozenF k fs z p) [] := by
 unfold frozenF
 rw [if_neg h]
 exact twinF_nil
theorem beforeF_no {k : Int} (h : k ≠ 0) (fs : List Fv) (z : Int) : TwinF (beforeF k fs z) [] := by
 unfold beforeF
 rw [if_neg h]
 exact twinF_nil
theorem twinZ : TwinP ZPv ZPv := ⟨four (p := fun x => TwinV (ZPv.M.get x) (ZPv.M.get x)) ⟨rfl, rfl, rfl, rfl, Nat.le_refl _⟩ ⟨rfl, rfl, rfl, rfl, Nat.le_refl _⟩ ⟨rfl, rfl, rfl, rfl, Nat.le_refl _⟩ ⟨rfl, rfl, rfl, rfl, Nat.le_refl _⟩, rfl, rfl, rfl, rfl, rfl⟩
theorem rowsZ (w : World) (lo hi : Nat) : PRows w lo hi ZPv := ⟨⟨Ints.nil_ .., Ints.nil_ .., Ints.nil_ .., Ints.nil_ ..⟩, Ints.nil_ ..⟩
theorem gotF_no {k : Int} (h : k ≠ 0) (fs : List Fv) (z : Int) : TwinP (gotF k fs z) ZPv := by
 unfold gotF
 rw [if_neg h]
 exact twinZ
theorem gotF_yes {fs : List Fv} {z : Int} {i : Nat} (hi : aheadF fs z = i) (h : i < fs.length) {q : Pv} (hq : TwinP fs[i].P q) : TwinP (gotF 0 fs z) q := by
 unfold gotF
 rw [if_pos rfl, hi, List.getElem?_eq_getElem h]
 exact hq
theorem twinF_push {fs gs : List Fv} (h : TwinF fs gs) {z : Int} {p q : Pv} (hq : TwinP p q) : TwinF (fs ++ [⟨z, p⟩]) (gs ++ [⟨z, q⟩]) := by
 have hl := h.1
 refine ⟨by simp [h.1], fun j h1 h2 => ?_⟩
 by_cases e : j < fs.length
 · rw [List.getElem_append_left e, List.getElem_append_left (by omega)]
   exact h.2 j e (by omega)
 · have hj : j = fs.length := by simp at h1; omega
   subst hj
   rw [List.getElem_append_right (by omega), List.getElem_append_right (by omega)]
   simp only [hl, Nat.sub_self, List.getElem_cons_zero]
   first | exact ⟨rfl, hq⟩ | exact ⟨trivial, hq⟩
theorem frozenF_yes {fs gs : List Fv} (h : TwinF fs gs) {z : Int} {p q : Pv} (hq : TwinP p q) : TwinF (frozenF 0 fs z p) (gs ++ [⟨z, q⟩]) := by
 unfold frozenF
 rw [if_pos rfl]
 exact twinF_push h hq
theorem LFs.take {w : World} {lo hi : Nat} {A : Option Addr} {n : Nat} {fs : List Fv} (h : LFs w lo hi A n fs) {i : Nat} (hi' : i ≤ n) : LFs w lo hi A i (fs.take i) := by
 have hl := h.len
 have hb := h.big
 refine ⟨by simp; omega, by omega, fun h0 => ?_, fun j hj => ?_⟩
 · obtain ⟨b, off, e, h1, h2, hc⟩ := h.row (by omega)
   exact ⟨b, off, e, h1, h2, fun j hj => by
    rw [List.getElem_take]
    exact hc j (by simp at hj; omega)⟩
 · rw [List.getElem_take]
   exact h.rows j (by simp at hj; omega)
theorem small_take {fs : List Fv} (hs : ∀ j (h : j < fs.length), (∀ x, x < 4 → (fs[j].P.M.get x).n ≤ 1000000) ∧ fs[j].P.n ≤ 1000000) (i : Nat) : ∀ j (h : j < (fs.take i).length), (∀ x, x < 4 → ((fs.take i)[j].P.M.get x).n ≤ 1000000) ∧ (fs.take i)[j].P.n ≤ 1000000 := fun j hj => by
 rw [List.getElem_take]
 exact hs j (by simp at hj; omega)
theorem FCells.part {w : World} {b o : Nat} {f : Fv} (h : FCells w b o f) : w.rangeAt b (o + 1) (cells16 f.P) := fun j v hj => by
 have k := h.range (j + 1) v hj
 rw [show o + 1 + j = o + (j + 1) by omega]
 exact k
/-- Twins, told apart by nothing. -/
theorem twinP_codes {p q : Pv} (h : TwinP p q) : mayP q = mayP p := by
 unfold mayP
 rw [twin_bad h.1, h.2.1, h.2.2.1, h.2.2.2.1, h.2.2.2.2.2]
theorem mayF_twin : ∀ {fs gs : List Fv} {a : Int}, TwinF fs gs → mayF a gs = mayF a fs
 | [], [], _, _ => rfl
 | [], _ :: _, _, h => absurd h.1 (by simp)
 | _ :: _, [], _, h => absurd h.1 (by simp)
 | f :: fs, g :: gs, a, h => by
  have ht : TwinF fs gs := ⟨by have := h.1; simpa using this, fun j h1 h2 => by
   have := h.2 (j + 1) (by simpa using h1) (by simpa using h2)
   simpa using this⟩
  have h0 := h.2 0 (by simp) (by simp)
  simp only [List.getElem_cons_zero] at h0
  simp only [mayF]
  rw [h0.1, twinP_codes h0.2, mayF_twin ht]
theorem aheadF_twin : ∀ {fs gs : List Fv} {z : Int}, TwinF fs gs → aheadF gs z = aheadF fs z
 | [], [], _, _ => rfl
 | [], _ :: _, _, h => absurd h.1 (by simp)
 | _ :: _, [], _, h => absurd h.1 (by simp)
 | f :: fs, g :: gs, z, h => by
  have ht : TwinF fs gs := ⟨by have := h.1; simpa using this, fun j h1 h2 => by
   have := h.2 (j + 1) (by simpa using h1) (by simpa using h2)
   simpa using this⟩
  have h0 := h.2 0 (by simp) (by simp)
  simp only [List.getElem_cons_zero] at h0
  simp only [aheadF]
  rw [h0.1, aheadF_twin ht]
theorem checkF_twin {n : Nat} {fs gs : List Fv} (h : TwinF fs gs) : checkF n gs = checkF n fs := by
 unfold checkF
 rw [mayF_twin h]
theorem askF_twin {n : Nat} {fs gs : List Fv} {z : Int} (h : TwinF fs gs) : askF n gs z = askF n fs z := by
 unfold askF
 rw [checkF_twin h]
theorem getF_twin {n : Nat} {fs gs : List Fv} {z : Int} (h : TwinF fs gs) : getF n gs z = getF n fs z := by
 unfold getF
 rw [askF_twin h, aheadF_twin h]
 by_cases hl : aheadF fs z < fs.length
 · have hg : aheadF fs z < gs.length := by rw [h.1]; exact hl
   rw [List.getElem?_eq_getElem hl, List.getElem?_eq_getElem hg]
   simp only
   rw [(h.2 _ hl hg).1]
 · have hl' := h.1
   rw [List.getElem?_eq_none (show gs.length ≤ aheadF fs z by omega), List.getElem?_eq_none (show fs.length ≤ aheadF fs z by omega)]
theorem twinF_take {fs gs : List Fv} (h : TwinF fs gs) (i : Nat) : TwinF (fs.take i) (gs.take i) := by
 have hl := h.1
 refine ⟨by simp [h.1], fun j h1 h2 => ?_⟩
 simp at h1 h2
 rw [List.getElem_take, List.getElem_take]
 exact h.2 j (by omega) (by omega)
theorem beforeF_twin {k z : Int} {fs gs : List Fv} (h : TwinF fs gs) : TwinF (beforeF k fs z) (beforeF k gs z) := by
 unfold beforeF
 rw [aheadF_twin h]
 split
 · exact twinF_take h _
 · exact twinF_nil
theorem gotF_twin {k z : Int} {fs gs : List Fv} (h : TwinF fs gs) : TwinP (gotF k fs z) (gotF k gs z) := by
 unfold gotF
 rw [aheadF_twin h]
 split
 · by_cases hl : aheadF fs z < fs.length
   · have hg : aheadF fs z < gs.length := by rw [h.1]; exact hl
     rw [List.getElem?_eq_getElem hl, List.getElem?_eq_getElem hg]
     exact (h.2 _ hl hg).2
   · rw [List.getElem?_eq_none (by omega), List.getElem?_eq_none (by rw [h.1]; omega)]
     exact twinZ
 · exact twinZ
theorem twinP_rsame {p q : Pv} (h : TwinP p q) : sameP p q = true := by
 have k : ∀ x, x < 4 → sameV (p.M.get x) (q.M.get x) = true := fun x hx => by
  unfold sameV
  rw [(h.1 x hx).1, (h.1 x hx).2.2.1, (h.1 x hx).2.2.2.1]
  exact Pa.Dy.same_refl _
 have k0 := k 0 (by decide)
 have k1 := k 1 (by decide)
 have k2 := k 2 (by decide)
 have k3 := k 3 (by decide)
 simp only [Mv.get] at k0 k1 k2 k3
 unfold sameP sameE sameM
 rw [k0, k1, k2, k3, h.2.1, h.2.2.1, h.2.2.2.1, h.2.2.2.2.2, Pa.Sm_refl]
 simp
/-- Two copies of the same are the same. -/
theorem sameP_two {p q r : Pv} (h : TwinP p q) (k : TwinP p r) : sameP q r = true := by
 rw [twinP_left h]
 exact twinP_rsame k
theorem sameF_two {fs gs hs : List Fv} (h : TwinF fs gs) (k : TwinF fs hs) : sameF gs hs = true := by
 refine sameF_yes (h.1.trans k.1.symm) fun j h1 h2 => ?_
 have h3 : j < fs.length := by rw [← h.1]; exact h1
 have a := h.2 j h3 h1
 have b := k.2 j h3 h2
 exact ⟨a.1.trans b.1.symm, sameP_two a.2 b.2⟩
end Ma
end Go.Proofs.Ytbbnbgllgomolaa
namespace Go.Proofs.Ytbbnbgllgomolaa
open Go.RowKit
namespace Least
theorem ret_int {k : IntKind} {a b : Int} (h : a = b) : Ending.returned (.int k a) = .returned (.int k b) := by rw [h]
theorem below_get {xs : List Int} {A : Option Addr} {n : Nat} {w : World} {lo hi : Nat} (h : Ints w lo hi .u32 A n xs) (hn : 0 < n) :
  ∃ b off, A = some ⟨b, off, none⟩ ∧ ∀ j, j < n → w.cell? ⟨b, off + j, none⟩ = some (.int .u32 (xs[j]?.getD 0)) := by
 obtain ⟨b, off, e, _, _, hc⟩ := h.row hn
 exact ⟨b, off, e, fun j hj => (hc j hj).1⟩
set_option maxHeartbeats 400000 in
/-- least.Check. -/
theorem Check_any (w : World) (lo hi : Nat) (A : Option Addr) (n c : Nat) (xs : List Int) (h : Ints w lo hi .u32 A n xs) (code : Int) (hcode : checkCode xs = code) :
  Calls Try.prog 70 #[.slice A n c] w fun e w' => e = .returned (.int .i64 code) ∧ ∃ m, w' = w.drewN m := by
 have hlen := h.len
 have Hl := Lib.hid h.len
 have hbig := h.big
 have Hc := Lib.hid hcode
 clear hcode
 by_cases h8 : 8 < n
 · have hf : code = 4 := by rw [← Hc.out]; unfold checkCode; rw [if_pos (by omega)]
   have Hf := Lib.hid hf
   clear hf hlen
   go_enter Try.func70, Try.ntmps70
   go_wp2
   go_ret
   exact ⟨ret_int (by rw [Hf.out]), 0, rfl⟩
 · clear hlen
   go_enter Try.func70, Try.ntmps70
   go_wp2
   go_loopw [3] (fun i wr => ∃ k : Nat, 1 ≤ k ∧ i = .int .i64 k ∧ (k ≤ n ∨ k = 1) ∧ Hid (risesTo xs k = true) ∧ ∃ m, wr = w.drewN m) (fun i _ => n - (intOf i).toNat)
   case atStart => exact ⟨1, by omega, rfl, by omega, (by simp [Hid, risesTo]), 0, rfl⟩
   case round =>
    obtain ⟨k, hk, rfl, hk1, hr, m, rfl⟩ := hrel
    by_cases hlt : k < n
    · obtain ⟨b, off, rfl, hcell⟩ := below_get h (by omega)
      have g1 : w.cell? ⟨b, off + k, none⟩ = some (.int .u32 (xs[k]?.getD 0)) := hcell _ (by omega)
      have g2 : w.cell? ⟨b, off + (k - 1), none⟩ = some (.int .u32 (xs[k-1]?.getD 0)) := hcell _ (by omega)
      clear hcell
      go_wp2
      go_quiet (fail)
      go_wp2
      · have hle : xs[k]?.getD 0 ≤ xs[k - 1]?.getD 0 := by assumption
        have hf : code = 8 := by
         have hl := Hl.out
         rw [← Hc.out]; unfold checkCode rises
         rw [if_neg (by omega), risesTo_false (k := k + 1) (by simp [risesTo]; omega) (by omega)]
         rfl
        go_ret
        exact ⟨ret_int (by rw [hf]), m + nq, by simp⟩
      · have hgt : xs[k - 1]?.getD 0 < xs[k]?.getD 0 := by assumption
        go_roundw
        case rel => exact ⟨k + 1, by omega, by go_num, by omega, (by have := hr.out; simp [Hid, risesTo, this, hgt]), m + nq, by simp⟩
        case measure => simp [intOf]; omega
    · have hf : code = 0 := by
        have hl := Hl.out
        have hr := hr.out
        rw [← Hc.out]; unfold checkCode rises
        rw [if_neg (by omega)]
        rcases hk1 with hk1 | hk1
        · rw [show xs.length = k by omega, hr]; rfl
        · subst hk1
          have : xs.length = 0 ∨ xs.length = 1 := by omega
          rcases this with e | e <;> simp [e, risesTo]
      have Hf := Lib.hid hf
      clear hf
      go_wp2
      go_ret
      exact ⟨ret_int (by rw [Hf.out]), m, rfl⟩
end Least
end Go.Proofs.Ytbbnbgllgomolaa
namespace Go.Proofs.Ytbbnbgllgomolaa
open Go.RowKit
namespace Ma
open Dp Dy
theorem mayE_true (mn mx : Int) : mayE true mn mx = decide (-2147483647 ≤ mn ∧ mn ≤ 2147483647 ∧ -2147483647 ≤ mx ∧ mx ≤ 2147483647 ∧ mn ≤ mx) := rfl
theorem mayE_false (mn mx : Int) : mayE false mn mx = decide (mn = 0 ∧ mx = 0) := rfl
set_option maxHeartbeats 1600000 in
/-- edge.value. -/
theorem value_any (w : World) (x : Int) (b : Bool) (hb : decide (-2147483647 ≤ x ∧ x ≤ 2147483647) = b) :
  Calls Try.prog 100 #[.int .i64 x] w fun e w' => e = .returned (.bool b) ∧ Below w.heap.size w w' := by
 by_cases h1 : (-2147483647 : Int) ≤ x
 · by_cases h2 : x ≤ 2147483647
   · have hb' : b = true := by rw [← hb]; exact decide_eq_true ⟨h1, h2⟩
     subst hb'
     clear hb
     go_enter Try.func100, Try.ntmps100
     go_wp2
     go_ret
     exact ⟨rfl, Below.refl _ _⟩
   · have hb' : b = false := by rw [← hb]; exact decide_eq_false fun h => h2 h.2
     subst hb'
     have d2 : decide (x ≤ 2147483647) = false := decide_eq_false h2
     clear hb
     go_enter Try.func100, Try.ntmps100
     go_wp2
     go_ret
     exact ⟨rfl, Below.refl _ _⟩
 · have hb' : b = false := by rw [← hb]; exact decide_eq_false fun h => h1 h.1
   subst hb'
   have d1 : decide ((-2147483647 : Int) ≤ x) = false := decide_eq_false h1
   clear hb
   go_enter Try.func100, Try.ntmps100
   go_wp2
   go_ret
   exact ⟨rfl, Below.refl _ _⟩
set_option maxHeartbeats 3200000 in
set_option maxRecDepth 100000 in
/-- edge.Check. -/
theorem edgeCheck_any (w : World) (h : Bool) (mn mx : Int) (k : Bool) (hk : mayE h mn mx = k) :
  Calls Try.prog 69 #[.agg #[.bool h, .int .i64 mn, .int .i64 mx]] w fun e w' => e = .returned (.int .i64 (if k then 0 else 8)) ∧ Below w.heap.size w w' := by
 have fin := (Below.refl w.heap.size w).alloc (Nat.le_refl _) (.cells #[.bool h, .int .i64 mn, .int .i64 mx] 29)
 have B1 := heap_alloc_last w (.cells #[.bool h, .int .i64 mn, .int .i64 mx] 29)
 have S1 : w.heap.size < (w.alloc (.cells #[.bool h, .int .i64 mn, .int .i64 mx] 29)).heap.size := by simp
 generalize hw : w.alloc (.cells #[.bool h, .int .i64 mn, .int .i64 mx] 29) = w1 at *
 obtain ⟨⟨p1, p2, p3⟩, p4, p5, p6⟩ := boxD B1
 have HK := Lib.hid hk
 clear hk
 cases h
 · by_cases e1 : mn = 0
   · subst e1
     by_cases e2 : mx = 0
     · subst e2
       have hk' : k = true := by rw [← HK.out, mayE_false]; rfl
       subst hk'
       clear HK
       go_enter Try.func69, Try.ntmps69
       go_wp2
       go_ret
       exact ⟨rfl, fin⟩
     · have hk' : k = false := by rw [← HK.out, mayE_false]; exact decide_eq_false fun h => e2 h.2
       subst hk'
       have n2 : (mx == 0) = false := by simpa using e2
       have n3 : (0 == mx) = false := by simpa using Ne.symm e2
       clear HK
       go_enter Try.func69, Try.ntmps69
       go_wp2
       go_ret
       exact ⟨rfl, fin⟩
   · have hk' : k = false := by rw [← HK.out, mayE_false]; exact decide_eq_false fun h => e1 h.1
     subst hk'
     have n2 : (mn == 0) = false := by simpa using e1
     have n3 : (0 == mn) = false := by simpa using Ne.symm e1
     clear HK
     go_enter Try.func69, Try.ntmps69
     go_wp2
     go_ret
     exact ⟨rfl, fin⟩
 · obtain ⟨b1, hb1⟩ : ∃ b, decide (-2147483647 ≤ mn ∧ mn ≤ 2147483647) = b := ⟨_, rfl⟩
   obtain ⟨b2, hb2⟩ : ∃ b, decide (-2147483647 ≤ mx ∧ mx ≤ 2147483647) = b := ⟨_, rfl⟩
   have HB1 := Lib.hid hb1
   have HB2 := Lib.hid hb2
   clear hb1 hb2
   go_enter Try.func69, Try.ntmps69
   go_wp2_with fail
   refine (value_any w1 mn b1 HB1.out).mono ?_
   rintro e v1 ⟨rfl, j1⟩
   clear p1 p2 p3 p4 p5 p6
   have B2 := (j1.block _ S1).trans B1
   have fin1 := fin.trans (j1.mono (by omega))
   have S2 := j1.size
   obtain ⟨⟨p1, p2, p3⟩, p4, p5, p6⟩ := boxD B2
   cases b1
   · have hk' : k = false := by rw [← HK.out, mayE_true]; exact decide_eq_false fun h => of_decide_eq_false HB1.out ⟨h.1, h.2.1⟩
     subst hk'
     clear HK HB1 HB2
     go_wp2
     go_ret
     exact ⟨rfl, fin1⟩
   · go_wp2_with fail
     refine (value_any v1 mx b2 HB2.out).mono ?_
     rintro e v2 ⟨rfl, j2⟩
     clear p1 p2 p3 p4 p5 p6
     have B3 := (j2.block _ (by omega)).trans B2
     have fin2 := fin1.trans (j2.mono (by omega))
     obtain ⟨⟨p1, p2, p3⟩, p4, p5, p6⟩ := boxD B3
     cases b2
     · have hk' : k = false := by rw [← HK.out, mayE_true]; exact decide_eq_false fun h => of_decide_eq_false HB2.out ⟨h.2.2.1, h.2.2.2.1⟩
       subst hk'
       clear HK HB1 HB2
       go_wp2
       go_ret
       exact ⟨rfl, fin2⟩
     · by_cases hlt : mn ≤ mx
       · have hk' : k = true := by
           rw [← HK.out, mayE_true]
           have a1 := of_decide_eq_true HB1.out
           have a2 := of_decide_eq_true HB2.out
           exact decide_eq_true ⟨a1.1, a1.2, a2.1, a2.2, hlt⟩
         subst hk'
         have d1 : decide (mx < mn) = false := decide_eq_false (by omega)
         have d2 : decide (mn ≤ mx) = true := decide_eq_true hlt
         clear HK HB1 HB2
         go_wp2
         go_ret
         exact ⟨rfl, fin2⟩
       · have hk' : k = false := by rw [← HK.out, mayE_true]; exact decide_eq_false fun h => hlt h.2.2.2.2
         subst hk'
         have d1 : decide (mx < mn) = true := decide_eq_true (by omega)
         have d2 : decide (mn ≤ mx) = false := decide_eq_false hlt
         clear HK HB1 HB2
         go_wp2
         go_ret
         exact ⟨rfl, fin2⟩
set_option maxHeartbeats 6400000 in
set_option maxRecDepth 100000 in
/-- past.CheckPart. -/
theorem CheckPart_any (w : World) (p : Pv) (hR : PRows w 0 w.heap.size p) (k : Bool) (hk : mayP p = k) :
  Calls Try.prog 32 #[.agg #[.bool p.M.S.s, .slice p.M.S.A p.M.S.n p.M.S.c, .int .i64 p.M.S.e, .bool p.M.W.s, .slice p.M.W.A p.M.W.n p.M.W.c, .int .i64 p.M.W.e, .bool p.M.C.s, .slice p.M.C.A p.M.C.n p.M.C.c, .int .i64 p.M.C.e, .bool p.M.A.s, .slice p.M.A.A p.M.A.n p.M.A.c, .int .i64 p.M.A.e, .bool p.h, .int .i64 p.mn, .int .i64 p.mx, .slice p.A p.n p.c]] w fun e w' => e = .returned (.int .i64 (if k then 0 else 8)) ∧ Below w.heap.size w w' := by
 obtain ⟨w1, hw, bP, j1, S1⟩ := alloc_p w p
 obtain ⟨q, hq⟩ : ∃ q, badS [p.M] = q := ⟨_, rfl⟩
 obtain ⟨r, hr⟩ : ∃ q, mayE p.h p.mn p.mx = q := ⟨_, rfl⟩
 have HQ := Lib.hid hq
 have HR := Lib.hid hr
 have HK := Lib.hid hk
 clear hq hr hk
 go_enter Try.func32, Try.ntmps32
 obtain ⟨⟨q1_0, q1_1, q1_2, q1_3, q1_4, q1_5, q1_6, q1_7, q1_8, q1_9, q1_10, q1_11, q1_12, q1_13, q1_14, q1_15⟩, q1f⟩ := PBox.cell bP
 go_wp2_with fail
 refine (PCheck_any w1 p.M (PRows.on hR j1).M q HQ.out).mono ?_
 rintro e' v2 ⟨rfl, j3⟩
 clear q1_0 q1_1 q1_2 q1_3 q1_4 q1_5 q1_6 q1_7 q1_8 q1_9 q1_10 q1_11 q1_12 q1_13 q1_14 q1_15 q1f
 try clear hw
 obtain ⟨⟨q4_0, q4_1, q4_2, q4_3, q4_4, q4_5, q4_6, q4_7, q4_8, q4_9, q4_10, q4_11, q4_12, q4_13, q4_14, q4_15⟩, q4f⟩ := PBox.cell (box_later bP j3 S1)
 cases q
 rotate_left
 · skip
   have hk' : k = false := by rw [← HK.out, mayP, HQ.out]; rfl
   subst hk'
   clear HK HQ HR
   go_wp2
   go_ret
   exact ⟨rfl, (later j1 j3)⟩
 · skip
   go_wp2_with fail
   refine (edgeCheck_any v2 p.h p.mn p.mx r HR.out).mono ?_
   rintro e' v5 ⟨rfl, j6⟩
   clear q4_0 q4_1 q4_2 q4_3 q4_4 q4_5 q4_6 q4_7 q4_8 q4_9 q4_10 q4_11 q4_12 q4_13 q4_14 q4_15 q4f
   try clear hw
   obtain ⟨⟨q7_0, q7_1, q7_2, q7_3, q7_4, q7_5, q7_6, q7_7, q7_8, q7_9, q7_10, q7_11, q7_12, q7_13, q7_14, q7_15⟩, q7f⟩ := PBox.cell (box_later bP (later j3 j6) S1)
   cases r
   · skip
     have hk' : k = false := by rw [← HK.out, mayP, HQ.out, HR.out]; rfl
     subst hk'
     clear HK HQ HR
     go_wp2
     go_ret
     exact ⟨rfl, (later j1 (later j3 j6))⟩
   · skip
     obtain ⟨cd, hcd⟩ : ∃ c, Least.checkCode p.xs = c := ⟨_, rfl⟩
     have HC := Lib.hid hcd
     clear hcd
     go_wp2_with fail
     refine (Least.Check_any v5 0 v5.heap.size p.A p.n p.c p.xs (PRows.on hR (later j1 (later j3 j6))).L cd HC.out).mono ?_
     rintro e' v_ ⟨rfl, m_, rfl⟩
     have jd : Below w.heap.size w (v5.drewN m_) := below_drewN (later j1 (later j3 j6)) m_
     by_cases h0 : cd = 0
     · subst h0
       have hk' : k = true := by rw [← HK.out, mayP, HQ.out, HR.out, HC.out]; rfl
       subst hk'
       clear HK HQ HR HC
       go_wp2
       go_ret
       exact ⟨rfl, jd⟩
     · have hk' : k = false := by rw [← HK.out, mayP, HQ.out, HR.out, HC.out, decide_eq_false h0]; rfl
       subst hk'
       have n0 : (cd != 0) = true := by simpa using h0
       clear HK HQ HR HC
       go_wp2
       go_ret
       exact ⟨rfl, jd⟩
end Ma
end Go.Proofs.Ytbbnbgllgomolaa
namespace Go.Proofs.Ytbbnbgllgomolaa
open Go.RowKit
namespace Ma
open Dp Dy
theorem FBox.part {w : World} {g : Nat} {f : Fv} (h : FBox w g f) : w.rangeAt g 1 [.bool f.P.M.S.s, .slice f.P.M.S.A f.P.M.S.n f.P.M.S.c, .int .i64 f.P.M.S.e, .bool f.P.M.W.s, .slice f.P.M.W.A f.P.M.W.n f.P.M.W.c, .int .i64 f.P.M.W.e, .bool f.P.M.C.s, .slice f.P.M.C.A f.P.M.C.n f.P.M.C.c, .int .i64 f.P.M.C.e, .bool f.P.M.A.s, .slice f.P.M.A.A f.P.M.A.n f.P.M.A.c, .int .i64 f.P.M.A.e, .bool f.P.h, .int .i64 f.P.mn, .int .i64 f.P.mx, .slice f.P.A f.P.n f.P.c] := fun j v hj => by
 have k := h.range (j + 1) v hj
 rw [Nat.zero_add, Nat.add_comm] at k
 exact k
theorem checkF_no {n : Nat} {fs : List Fv} (h : ¬ 1024 < n) (h2 : mayF (-1) fs = false) : checkF n fs = 8 := by
 unfold checkF
 rw [if_neg h, h2]
 rfl
theorem checkF_ok {n : Nat} {fs : List Fv} (h : ¬ 1024 < n) (h2 : mayF (-1) fs = true) : checkF n fs = 0 := by
 unfold checkF
 rw [if_neg h, h2]
 rfl
set_option maxHeartbeats 12800000 in
set_option maxRecDepth 100000 in
/-- past.Check. -/
theorem CheckF_any (w : World) (A : Option Addr) (n c : Nat) (fs : List Fv) (hL : LFs w 0 w.heap.size A n fs) (k : Int) (hk : checkF n fs = k) :
  Calls Try.prog 30 #[.slice A n c] w fun e w' => e = .returned (.int .i64 k) ∧ Below w.heap.size w w' := by
 have HL := Lib.hid hL.len
 have HK := Lib.hid hk
 have hbig := hL.big
 clear hk
 go_enter Try.func30, Try.ntmps30
 by_cases c1 : 1024 < n
 · have hk' : k = 4 := by rw [← HK.out, checkF, if_pos c1]
   subst hk'
   clear HK
   go_wp2
   go_ret
   exact ⟨rfl, Below.refl _ _⟩
 · go_wp2
   go_loopw [3, 11] (fun lv iv wr => ∃ (i : Nat) (last : Int), iv = .int .i64 i ∧ lv = .int .i64 last ∧ i ≤ n ∧ Below w.heap.size w wr ∧ Hid (mayF (-1) fs = mayF last (fs.drop i))) (fun _ iv _ => n - (intOf iv).toNat)
   case atStart => exact ⟨0, -1, rfl, rfl, Nat.zero_le _, Below.refl _ _, Lib.hid rfl⟩
   case round =>
    obtain ⟨i, last, rfl, rfl, hi1, hb, hmy⟩ := hrel
    by_cases hi : i < n
    rotate_left
    · have hk' : k = 0 := by
        rw [← HK.out]
        exact checkF_ok c1 (by rw [hmy.out]; exact mayF_end (by have := HL.out; omega) _)
      subst hk'
      go_wp2
      go_ret
      exact ⟨rfl, hb⟩
    · have hi2 : i < fs.length := by rw [HL.out]; exact hi
      obtain ⟨b, off, hA, hb1, hb2, hc⟩ := (hL.below hb (Nat.le_refl _)).row (by omega)
      have hci := Lib.hid (hc i hi2)
      have hri := (hL.below hb (Nat.le_refl _)).rows i hi2
      obtain ⟨f, hf⟩ : ∃ f, fs[i] = f := ⟨_, rfl⟩
      have hmy2 : Hid (mayF (-1) fs = (decide (last < f.e ∧ f.e ≤ 65535) && (mayP f.P && mayF f.e (fs.drop (i + 1))))) := Lib.hid (by rw [hmy.out, mayF_drop hi2, hf])
      rw [hf] at hci hri
      have hwrj : IntKind.i64.wrap ((i : Int) + 1) = ((i + 1 : Nat) : Int) := by rw [IntKind.wrap_i64]; omega
      clear hc hf hmy
      subst hA
      have lw := hb.size
      obtain ⟨u1, hu1, f1, j1, s1⟩ := alloc_f wr f
      have rg := hci.out.range
      go_upto_region 7 with (first
       | (refine wpList_load_mid rfl 68 (.tmp 13) rfl b (off + i * 17) rfl [.int .i64 f.e, .bool f.P.M.S.s, .slice f.P.M.S.A f.P.M.S.n f.P.M.S.c, .int .i64 f.P.M.S.e, .bool f.P.M.W.s, .slice f.P.M.W.A f.P.M.W.n f.P.M.W.c, .int .i64 f.P.M.W.e, .bool f.P.M.C.s, .slice f.P.M.C.A f.P.M.C.n f.P.M.C.c, .int .i64 f.P.M.C.e, .bool f.P.M.A.s, .slice f.P.M.A.A f.P.M.A.n f.P.M.A.c, .int .i64 f.P.M.A.e, .bool f.P.h, .int .i64 f.P.mn, .int .i64 f.P.mx, .slice f.P.A f.P.n f.P.c] _ rg Try.underlying68 rfl (by kernel_rfl) ?_)
       | (refine wpList_store_new rfl 68 (.tmp 5) (.tmp 14) rfl _ #[.int .i64 f.e, .bool f.P.M.S.s, .slice f.P.M.S.A f.P.M.S.n f.P.M.S.c, .int .i64 f.P.M.S.e, .bool f.P.M.W.s, .slice f.P.M.W.A f.P.M.W.n f.P.M.W.c, .int .i64 f.P.M.W.e, .bool f.P.M.C.s, .slice f.P.M.C.A f.P.M.C.n f.P.M.C.c, .int .i64 f.P.M.C.e, .bool f.P.M.A.s, .slice f.P.M.A.A f.P.M.A.n f.P.M.A.c, .int .i64 f.P.M.A.e, .bool f.P.h, .int .i64 f.P.mn, .int .i64 f.P.mx, .slice f.P.A f.P.n f.P.c] rfl rfl (by kernel_rfl) rfl (all_oneCell_toArray (cells17_one f)) ?_))
      try rw [hu1]
      try clear hu1
      clear rg
      have hb3 := hb.trans (j1.mono lw)
      obtain ⟨⟨k0, k1, k2, k3, k4, k5, k6, k7, k8, k9, k10, k11, k12, k13, k14, k15, k16⟩, kf⟩ := FBox.cell f1
      by_cases a1 : f.e ≤ last
      · have hk' : k = 8 := by
          rw [← HK.out]
          exact checkF_no c1 (by rw [hmy2.out, decide_eq_false (by omega)]; rfl)
        subst hk'
        clear HK hmy2
        go_wp2
        go_ret
        exact ⟨rfl, hb3⟩
      · have d1 : decide (f.e ≤ last) = false := decide_eq_false a1
        by_cases a2 : (65535 : Int) < f.e
        · have hk' : k = 8 := by
            rw [← HK.out]
            exact checkF_no c1 (by rw [hmy2.out, decide_eq_false (by omega)]; rfl)
          subst hk'
          clear HK hmy2
          go_wp2
          go_ret
          exact ⟨rfl, hb3⟩
        · have d2 : decide ((65535 : Int) < f.e) = false := decide_eq_false a2
          obtain ⟨m, hm⟩ : ∃ m, mayP f.P = m := ⟨_, rfl⟩
          have HM := Lib.hid hm
          clear hm
          go_wp2_with fail
          refine (CheckPart_any u1 f.P ((hri.more (Nat.le_refl _) lw).on j1) m HM.out).mono ?_
          rintro e' u2 ⟨rfl, j2⟩
          have hb4 := hb3.trans (j2.mono (by omega))
          have f2 : FBox u2 wr.heap.size f := (j2.block _ s1).trans f1
          clear k0 k1 k2 k3 k4 k5 k6 k7 k8 k9 k10 k11 k12 k13 k14 k15 k16 kf
          have k0 := (FBox.cell f2).1.1
          have kf := (FBox.cell f2).2
          cases m
          · have hk' : k = 8 := by
              rw [← HK.out]
              exact checkF_no c1 (by rw [hmy2.out, HM.out]; simp)
            subst hk'
            clear HK hmy2 HM
            go_wp2
            go_ret
            exact ⟨rfl, hb4⟩
          · have hmy3 : Hid (mayF (-1) fs = mayF f.e (fs.drop (i + 1))) := Lib.hid (by rw [hmy2.out, HM.out, decide_eq_true (by omega)]; simp)
            clear hmy2 HM
            go_wp2
            go_roundw
            case rel => exact ⟨i + 1, f.e, by first | rfl | (congr 1; omega) | go_num, rfl, by omega, hb4, hmy3⟩
            case measure => first | (simp [intOf]; done) | (simp [intOf]; omega)
theorem ask_code {n : Nat} {fs : List Fv} {z k q : Int} (hk : askF n fs z = k) (hq : checkF n fs = q) : (q ≠ 0 → k = q) ∧ (q = 0 → z < 0 ∨ 65535 < z → k = 2) ∧ (q = 0 → ¬ (z < 0 ∨ 65535 < z) → k = 0) := by
 subst hk hq
 unfold askF
 refine ⟨fun h => by rw [if_pos h], fun h h2 => by rw [if_neg (by rw [h]; simp), if_pos h2], fun h h2 => by rw [if_neg (by rw [h]; simp), if_neg h2]⟩
end Ma
end Go.Proofs.Ytbbnbgllgomolaa
namespace Go.Proofs.Ytbbnbgllgomolaa
open Go.RowKit
namespace Ma
open Dp Dy
set_option maxHeartbeats 3200000 in
set_option maxRecDepth 100000 in
/-- past.place's own function. -/
theorem pFn_any (w : World) (f : Fv) : Calls Try.prog 97 #[.agg #[.int .i64 f.e, .bool f.P.M.S.s, .slice f.P.M.S.A f.P.M.S.n f.P.M.S.c, .int .i64 f.P.M.S.e, .bool f.P.M.W.s, .slice f.P.M.W.A f.P.M.W.n f.P.M.W.c, .int .i64 f.P.M.W.e, .bool f.P.M.C.s, .slice f.P.M.C.A f.P.M.C.n f.P.M.C.c, .int .i64 f.P.M.C.e, .bool f.P.M.A.s, .slice f.P.M.A.A f.P.M.A.n f.P.M.A.c, .int .i64 f.P.M.A.e, .bool f.P.h, .int .i64 f.P.mn, .int .i64 f.P.mx, .slice f.P.A f.P.n f.P.c]] w fun e w' => e = .returned (.int .i64 f.e) ∧ Below w.heap.size w w' := by
 obtain ⟨w1, hw, bF, j1, S1⟩ := alloc_f w f
 obtain ⟨⟨k0, k1, k2, k3, k4, k5, k6, k7, k8, k9, k10, k11, k12, k13, k14, k15, k16⟩, kf⟩ := FBox.cell bF
 go_enter Try.func97, Try.ntmps97
 go_wp2
 go_ret
 exact ⟨rfl, j1⟩
set_option maxHeartbeats 12800000 in
set_option maxRecDepth 100000 in
/-- past.ahead, of frozen parts. -/
theorem ahead_any (w : World) (A : Option Addr) (n c : Nat) (fs : List Fv) (hL : LFs w 0 w.heap.size A n fs) (hn : n ≤ 1024) (z a : Int) (hm : mayF a fs = true) (r : Nat) (hr : aheadF fs z = r) :
  Calls Try.prog 96 #[.slice A n c, .int .i64 z, .func (.func 97) #[] #[]] w fun e w' => e = .returned (.int .i64 (r : Nat)) ∧ Below w.heap.size w w' := by
 have HL := Lib.hid hL.len
 have HR := Lib.hid hr
 have HM := Lib.hid hm
 have hrn : r ≤ n := by
  have := aheadF_le fs z
  rw [hr, hL.len] at this
  exact this
 clear hr hm
 go_enter Try.func96, Try.ntmps96
 go_wp2
 go_loopw [7, 8, 9] (fun lv hv _ wr => ∃ lo hi : Nat, lv = .int .i64 lo ∧ hv = .int .i64 hi ∧ lo ≤ r ∧ r ≤ hi ∧ hi ≤ n ∧ Below w.heap.size w wr) (fun lv hv _ _ => ((intOf hv) - (intOf lv)).toNat)
 case atStart => exact ⟨0, n, rfl, rfl, Nat.zero_le _, hrn, Nat.le_refl _, Below.refl _ _⟩
 case round =>
  obtain ⟨lo, hi, rfl, rfl, h1, h2, h3, hb⟩ := hrel
  have lw := hb.size
  by_cases hlt : lo < hi
  rotate_left
  · obtain rfl : lo = r := by omega
    go_wp2
    go_ret
    exact ⟨rfl, hb⟩
  · obtain ⟨m, hm⟩ : ∃ m, (lo + hi) / 2 = m := ⟨_, rfl⟩
    have hm1 : lo ≤ m := by omega
    have hm2 : m < hi := by omega
    have hm3 : m < n := by omega
    have hsum : IntKind.i64.wrap ((lo : Int) + (hi : Int)) = ((lo + hi : Nat) : Int) := by rw [IntKind.wrap_i64]; omega
    have hdiv0 : ((lo + hi : Nat) : Int).tdiv 2 = ((m : Nat) : Int) := by rw [Int.tdiv_eq_ediv_of_nonneg (by omega)]; omega
    have hdiv : ((lo : Int) + (hi : Int)).tdiv 2 = ((m : Nat) : Int) := by rw [Int.tdiv_eq_ediv_of_nonneg (by omega)]; omega
    have hwm : IntKind.i64.wrap ((m : Nat) : Int) = ((m : Nat) : Int) := by rw [IntKind.wrap_i64]; omega
    have hwm1 : IntKind.i64.wrap (((m : Nat) : Int) + 1) = ((m + 1 : Nat) : Int) := by rw [IntKind.wrap_i64]; omega
    have hmf : m < fs.length := by rw [HL.out]; exact hm3
    obtain ⟨b, off, hA, hb1, hb2, hc⟩ := (hL.below hb (Nat.le_refl _)).row (by omega)
    have hci := Lib.hid (hc m hmf)
    obtain ⟨f, hf⟩ : ∃ f, fs[m] = f := ⟨_, rfl⟩
    rw [hf] at hci
    have HF := Lib.hid hf
    have HLT := Lib.hid (fun (h : m < r) => by have := aheadF_lt (fs := fs) (z := z) m hmf (by rw [HR.out]; exact h); rw [hf] at this; exact this : m < r → f.e < z)
    have HGE := Lib.hid (fun (h : r ≤ m) => by have := aheadF_ge HM.out (z := z) m hmf (by rw [HR.out]; exact h); rw [hf] at this; exact this : r ≤ m → z ≤ f.e)
    clear hc hf
    subst hA
    have rg := hci.out.range
    go_wp2_with (first
     | (refine wpList_load_mid rfl 68 (.tmp 22) rfl b (off + m * 17) rfl [.int .i64 f.e, .bool f.P.M.S.s, .slice f.P.M.S.A f.P.M.S.n f.P.M.S.c, .int .i64 f.P.M.S.e, .bool f.P.M.W.s, .slice f.P.M.W.A f.P.M.W.n f.P.M.W.c, .int .i64 f.P.M.W.e, .bool f.P.M.C.s, .slice f.P.M.C.A f.P.M.C.n f.P.M.C.c, .int .i64 f.P.M.C.e, .bool f.P.M.A.s, .slice f.P.M.A.A f.P.M.A.n f.P.M.A.c, .int .i64 f.P.M.A.e, .bool f.P.h, .int .i64 f.P.mn, .int .i64 f.P.mx, .slice f.P.A f.P.n f.P.c] _ rg Try.underlying68 rfl (by kernel_rfl) ?_))
    refine (pFn_any wr f).mono ?_
    rintro e' u1 ⟨rfl, j1⟩
    clear rg
    have hb3 := hb.trans (j1.mono lw)
    by_cases h5 : f.e < z
    · have hr1 : m < r := by
        rcases Nat.lt_or_ge m r with h | h
        · exact h
        · have := HGE.out h
          omega
      go_wp2
      go_roundw
      case rel => exact ⟨m + 1, hi, by first | rfl | (congr 1; omega) | go_num, rfl, hr1, h2, h3, hb3⟩
      case measure => first | (simp [intOf]; done) | (simp [intOf]; omega)
    · have hr1 : r ≤ m := by
        rcases Nat.lt_or_ge m r with h | h
        · exact absurd (HLT.out h) h5
        · exact h
      have d5 : decide (f.e < z) = false := decide_eq_false h5
      go_wp2
      go_roundw
      case rel => exact ⟨lo, m, rfl, by first | rfl | (congr 1; omega) | go_num, h1, hr1, by omega, hb3⟩
      case measure => first | (simp [intOf]; done) | (simp [intOf]; omega)
set_option maxHeartbeats 6400000 in
set_option maxRecDepth 100000 in
/-- past.place. -/
theorem place_any (w : World) (A : Option Addr) (n c : Nat) (fs : List Fv) (hL : LFs w 0 w.heap.size A n fs) (z k : Int) (hk : askF n fs z = k) (i : Nat) (hi : (if k = 0 then aheadF fs z else 0) = i) :
  Calls Try.prog 63 #[.slice A n c, .int .i64 z] w fun e w' => e = .returned (.tuple #[.int .i64 (i : Nat), .int .i64 k]) ∧ Below w.heap.size w w' := by
 obtain ⟨q, hq⟩ : ∃ q, checkF n fs = q := ⟨_, rfl⟩
 have HA := Lib.hid (ask_code hk hq)
 have HQ := Lib.hid hq
 have HI := Lib.hid hi
 have HK := Lib.hid hk
 clear hk hq hi
 go_enter Try.func63, Try.ntmps63
 go_wp2_with fail
 refine (CheckF_any w A n c fs hL q HQ.out).mono ?_
 rintro e' v ⟨rfl, j⟩
 by_cases h0 : q = 0
 rotate_left
 · obtain rfl := HA.out.1 h0
   obtain rfl : i = 0 := by rw [← HI.out, if_neg h0]
   have n0 : (k != 0) = true := by simpa using h0
   clear HA HQ HI HK
   go_wp2
   go_ret2
   exact ⟨rfl, j⟩
 · subst h0
   have HB := Lib.hid (HA.out.2.1 rfl)
   have HC := Lib.hid (HA.out.2.2 rfl)
   clear HA
   by_cases h1 : z < 0
   · obtain rfl := HB.out (.inl h1)
     obtain rfl : i = 0 := by rw [← HI.out, if_neg (by decide)]
     clear HB HC HI HK HQ
     go_wp2
     go_ret2
     exact ⟨rfl, j⟩
   · have d1 : decide (z < 0) = false := decide_eq_false h1
     by_cases h2 : (65535 : Int) < z
     · obtain rfl := HB.out (.inr h2)
       obtain rfl : i = 0 := by rw [← HI.out, if_neg (by decide)]
       clear HB HC HI HK HQ
       go_wp2
       go_ret2
       exact ⟨rfl, j⟩
     · have d2 : decide ((65535 : Int) < z) = false := decide_eq_false h2
       obtain rfl := HC.out (by omega)
       have hi' : aheadF fs z = i := by rw [← HI.out, if_pos rfl]
       have HI2 := Lib.hid hi'
       obtain ⟨q1, q2⟩ := checkF_zero HQ.out
       have HM := Lib.hid q2
       clear HB HC HI HK HQ hi' q2
       go_wp2_with fail
       refine (ahead_any v A n c fs (hL.on j) q1 z (-1) HM.out i HI2.out).mono ?_
       rintro e' v2 ⟨rfl, j2⟩
       have j3 := j.trans (j2.mono j.size)
       go_wp2
       go_ret2
       exact ⟨rfl, j3⟩
end Ma
end Go.Proofs.Ytbbnbgllgomolaa
namespace Go.Proofs.Ytbbnbgllgomolaa
open Go.RowKit
namespace Ma
open Dp Dy
theorem freeze_code {n : Nat} {fs : List Fv} {z k c : Int} {p : Pv} {m : Bool} {i : Nat} (hk : freezeF n fs z p = k) (hc : askF n fs z = c) (hm : mayP p = m) (hi : (if c = 0 then aheadF fs z else 0) = i) :
  (c ≠ 0 → k = c) ∧ (c = 0 → m = false → k = 8) ∧ (c = 0 → m = true → i < n → k = 12) ∧ (c = 0 → m = true → ¬ i < n → n = 1024 → k = 9) ∧ (c = 0 → m = true → ¬ i < n → n ≠ 1024 → k = 0) := by
 subst hk hc hm
 unfold freezeF
 refine ⟨fun h => by rw [if_pos h], fun h h1 => ?_, fun h h1 h2 => ?_, fun h h1 h2 h3 => ?_, fun h h1 h2 h3 => ?_⟩
 · rw [if_neg (by rw [h]; simp), if_pos h1]
 · rw [if_pos h] at hi
   rw [if_neg (by rw [h]; simp), if_neg (by rw [h1]; simp), hi, if_pos h2]
 · rw [if_pos h] at hi
   rw [if_neg (by rw [h]; simp), if_neg (by rw [h1]; simp), hi, if_neg h2, if_pos h3]
 · rw [if_pos h] at hi
   rw [if_neg (by rw [h]; simp), if_neg (by rw [h1]; simp), hi, if_neg h2, if_neg h3]
set_option maxHeartbeats 25600000 in
set_option maxRecDepth 100000 in
/-- past.Freeze. -/
theorem Freeze_any (w : World) (A : Option Addr) (n c : Nat) (fs : List Fv) (hL : LFs w 0 w.heap.size A n fs) (z : Int) (p : Pv) (hR : PRows w 0 w.heap.size p) (hn : n ≤ 1028) (hs : ∀ j (h : j < fs.length), (∀ x, x < 4 → (fs[j].P.M.get x).n ≤ 1000000) ∧ fs[j].P.n ≤ 1000000) (hsp : (∀ x, x < 4 → (p.M.get x).n ≤ 1000000) ∧ p.n ≤ 1000000) (k : Int) (hk : freezeF n fs z p = k) :
  Calls Try.prog 24 #[.slice A n c, .int .i64 z, .agg #[.bool p.M.S.s, .slice p.M.S.A p.M.S.n p.M.S.c, .int .i64 p.M.S.e, .bool p.M.W.s, .slice p.M.W.A p.M.W.n p.M.W.c, .int .i64 p.M.W.e, .bool p.M.C.s, .slice p.M.C.A p.M.C.n p.M.C.c, .int .i64 p.M.C.e, .bool p.M.A.s, .slice p.M.A.A p.M.A.n p.M.A.c, .int .i64 p.M.A.e, .bool p.h, .int .i64 p.mn, .int .i64 p.mx, .slice p.A p.n p.c]] w fun e w' => ∃ (A' : Option Addr) (n' c' : Nat) (gs : List Fv), e = .returned (.tuple #[.slice A' n' c', .int .i64 k]) ∧ TwinF (frozenF k fs z p) gs ∧ Below w.heap.size w w' ∧ OwnF w' w.heap.size (.slice A' n' c') n' gs ∧ ∀ g ∈ gs, PRows w' w.heap.size w'.heap.size g.P := by
 obtain ⟨w1, hw, bP, j1, S1⟩ := alloc_p w p
 have lw1 := j1.size
 have HS := Lib.hid hs
 have HSP := Lib.hid hsp
 obtain ⟨c0, hc0⟩ : ∃ c, askF n fs z = c := ⟨_, rfl⟩
 obtain ⟨m, hm⟩ : ∃ c, mayP p = c := ⟨_, rfl⟩
 obtain ⟨i, hi⟩ : ∃ i, (if c0 = 0 then aheadF fs z else 0) = i := ⟨_, rfl⟩
 have HC := Lib.hid (freeze_code hk hc0 hm hi)
 have H0 := Lib.hid hc0
 have HM := Lib.hid hm
 have HI := Lib.hid hi
 have hin : i ≤ n := by
  have := aheadF_le fs z
  rw [hL.len] at this
  rw [← hi]
  split
  · exact this
  · exact Nat.zero_le _
 clear hk hc0 hm hi hs hsp
 obtain ⟨i0, hi0, hz0, hz1, hz2⟩ := info_parts infoF
 go_enter Try.func24, Try.ntmps24
 go_wp2_with fail
 refine (place_any w1 A n c fs (LFs.on hL j1) z c0 H0.out i HI.out).mono ?_
 rintro e' v9 ⟨rfl, j10⟩
 try clear hw
 by_cases h0 : c0 = 0
 rotate_left
 · skip
   obtain rfl := HC.out.1 h0
   have n0 : (k != 0) = true := by simpa using h0
   clear HC H0 HM HI
   go_wp2
   go_ret2
   exact ⟨none, 0, 0, [], rfl, frozenF_no h0 _ _ _, (later j1 j10), OwnF.nil_ _ _, fun _ h => absurd h (by simp)⟩
 · skip
   subst h0
   have HC2 := Lib.hid (HC.out.2.1 rfl)
   have HC3 := Lib.hid (HC.out.2.2.1 rfl)
   have HC4 := Lib.hid (HC.out.2.2.2.1 rfl)
   have HC5 := Lib.hid (HC.out.2.2.2.2 rfl)
   clear HC H0 HI
   have rg_ : v9.rangeAt w.heap.size 0 [.bool p.M.S.s, .slice p.M.S.A p.M.S.n p.M.S.c, .int .i64 p.M.S.e, .bool p.M.W.s, .slice p.M.W.A p.M.W.n p.M.W.c, .int .i64 p.M.W.e, .bool p.M.C.s, .slice p.M.C.A p.M.C.n p.M.C.c, .int .i64 p.M.C.e, .bool p.M.A.s, .slice p.M.A.A p.M.A.n p.M.A.c, .int .i64 p.M.A.e, .bool p.h, .int .i64 p.mn, .int .i64 p.mx, .slice p.A p.n p.c] := PBox.range (box_later bP j10 S1)
   go_wp2_with (first
    | (refine wpList_load_mid rfl 31 (.tmp 5) rfl w.heap.size 0 rfl [.bool p.M.S.s, .slice p.M.S.A p.M.S.n p.M.S.c, .int .i64 p.M.S.e, .bool p.M.W.s, .slice p.M.W.A p.M.W.n p.M.W.c, .int .i64 p.M.W.e, .bool p.M.C.s, .slice p.M.C.A p.M.C.n p.M.C.c, .int .i64 p.M.C.e, .bool p.M.A.s, .slice p.M.A.A p.M.A.n p.M.A.c, .int .i64 p.M.A.e, .bool p.h, .int .i64 p.mn, .int .i64 p.mx, .slice p.A p.n p.c] _ rg_ Try.underlying31 rfl (by kernel_rfl) ?_))
   refine (CheckPart_any v9 p (PRows.on hR (later j1 j10)) m HM.out).mono ?_
   rintro e' v11 ⟨rfl, j12⟩
   try clear hw
   clear rg_
   cases m
   · skip
     obtain rfl := HC2.out rfl
     clear HC2 HC3 HC4 HC5 HM
     go_wp2
     go_ret2
     exact ⟨none, 0, 0, [], rfl, frozenF_no (by decide) _ _ _, (later j1 (later j10 j12)), OwnF.nil_ _ _, fun _ h => absurd h (by simp)⟩
   · skip
     by_cases h1 : i < n
     · skip
       obtain rfl := HC3.out rfl h1
       clear HC2 HC3 HC4 HC5 HM
       go_wp2
       go_ret2
       exact ⟨none, 0, 0, [], rfl, frozenF_no (by decide) _ _ _, (later j1 (later j10 j12)), OwnF.nil_ _ _, fun _ h => absurd h (by simp)⟩
     · skip
       have d1 : decide ((i : Int) < (n : Int)) = false := decide_eq_false (by omega)
       obtain rfl : i = n := by omega
       by_cases h2 : i = 1024
       · skip
         obtain rfl := HC4.out rfl h1 h2
         have e2 : ((i : Int) == 1024) = true := by rw [h2]; rfl
         clear HC2 HC3 HC4 HC5 HM
         go_wp2
         go_ret2
         exact ⟨none, 0, 0, [], rfl, frozenF_no (by decide) _ _ _, (later j1 (later j10 j12)), OwnF.nil_ _ _, fun _ h => absurd h (by simp)⟩
       · skip
         obtain rfl := HC5.out rfl h1 h2
         have e2 : ((i : Int) == 1024) = false := by
          have : (i : Int) ≠ 1024 := by omega
          simpa using this
         clear HC2 HC3 HC4 HC5 HM
         go_wp2_with fail
         try clear hw
         refine region_E (Keeps v11) [] (m := 10) (L := #[zF,zF,zF,zF,zF,zF,zF,zF,zF,zF]) (by kernel_rfl) (by rfl) (by rfl) ?_
         have j14 : Below v11.heap.size v11 v11.drew := (Below.refl _ _).drew
         generalize v11.drew = v13 at *
         refine zE 0 #[zT,zF,zF,zF,zF,zF,zF,zF,zF,zF] ?_ rfl ?hy1 ?rest1
         case hy1 => intro w; go_simp; (try with_reducible rfl)
         try simp only [Act.put, zp]
         refine zE 2 #[zT,zF,zT,zF,zF,zF,zF,zF,zF,zF] ?_ rfl ?hy2 ?rest2
         case hy2 => intro w; go_simp; (try with_reducible rfl)
         try simp only [Act.put, zp]
         have kpy15 : Keeps v11 v13 := fun p hp => Below.block j14 p hp
         refine readE (i := 3) (L := #[zT,zF,zT,zT,zF,zF,zF,zF,zF,zF]) (v := .agg #[.bool p.M.S.s, .slice p.M.S.A p.M.S.n p.M.S.c, .int .i64 p.M.S.e, .bool p.M.W.s, .slice p.M.W.A p.M.W.n p.M.W.c, .int .i64 p.M.W.e, .bool p.M.C.s, .slice p.M.C.A p.M.C.n p.M.C.c, .int .i64 p.M.C.e, .bool p.M.A.s, .slice p.M.A.A p.M.A.n p.M.A.c, .int .i64 p.M.A.e, .bool p.h, .int .i64 p.mn, .int .i64 p.mx, .slice p.A p.n p.c]) rfl (by rfl) (by kernel_rfl) (by kernel_rfl) (by kernel_rfl) (fun _ _ _ h => h) (by assumption) (by rfl) ?y15 ?z16
         case y15 =>
          intro w' h1
          exact run_load_op 31 (.tmp 5) rfl (w.heap.size) 0 rfl (cells16 p) _ (PBox.range ((h1 _ (Nat.lt_of_lt_of_le S1 (Below.size (later j10 j12)))).trans (box_later bP (later j10 j12) S1))) Try.underlying31 rfl (by kernel_rfl)
         try simp only [Act.put, zp]
         refine stepK (i := 1) (L := #[zT,zT,zT,zT,zF,zF,zF,zF,zF,zF]) rfl (by rfl) (by kernel_rfl) (by rfl) (fun K hK => ?_)
         go_simp
         go_at_call 16
         refine (TwinF_any v13 A i c fs (LFs.on hL (later j1 (later j10 (later j12 j14)))) hn HS.out).mono ?_
         rintro e' v17 ⟨A2, c2, gs, rfl, tf, j18, O1, r1⟩
         replace tf := Lib.hid tf
         refine hK _ _ ⟨fun _ _ => fun p hp => Below.block (later j14 j18) p hp, ?_⟩
         clear hK K
         try simp only [Act.put, zp]
         refine stepK (i := 4) (L := #[zT,zT,zT,zT,zT,zF,zF,zF,zF,zF]) rfl (by rfl) (by kernel_rfl) (by rfl) (fun K hK => ?_)
         go_simp
         go_at_call 17
         refine (TwinPart_any v17 p (PRows.on hR (later j1 (later j10 (later j12 (later j14 j18))))) HSP.out.1 HSP.out.2).mono ?_
         rintro e' v19 ⟨q, rfl, tq, j20, Rq⟩
         replace tq := Lib.hid tq
         refine hK _ _ ⟨fun _ _ => fun p hp => Below.block (later j14 (later j18 j20)) p hp, ?_⟩
         clear hK K
         try simp only [Act.put, zp]
         refine zE 5 #[zT,zT,zT,zT,zT,zT,zF,zF,zF,zF] ?_ rfl ?hy6 ?rest6
         case hy6 => intro w; go_simp; (try with_reducible rfl)
         try simp only [Act.put, zp]
         have sz1 : v11.heap.size ≤ v13.heap.size := Below.size j14
         have sz0 : w.heap.size ≤ v11.heap.size := Below.size (later j1 (later j10 j12))
         have sz2 : v13.heap.size ≤ v17.heap.size := Below.size j18
         have sz3 : v17.heap.size ≤ v19.heap.size := Below.size j20
         obtain ⟨vF8, hv⟩ : ∃ U, v19.alloc (.cells #[.int .i64 z, .bool q.M.S.s, .slice q.M.S.A q.M.S.n q.M.S.c, .int .i64 q.M.S.e, .bool q.M.W.s, .slice q.M.W.A q.M.W.n q.M.W.c, .int .i64 q.M.W.e, .bool q.M.C.s, .slice q.M.C.A q.M.C.n q.M.C.c, .int .i64 q.M.C.e, .bool q.M.A.s, .slice q.M.A.A q.M.A.n q.M.A.c, .int .i64 q.M.A.e, .bool q.h, .int .i64 q.mn, .int .i64 q.mx, .slice q.A q.n q.c] 68) = U := ⟨_, rfl⟩
         have jF8 : Below v19.heap.size v19 vF8 := by rw [← hv]; exact (Below.refl _ _).alloc (Nat.le_refl _) _
         have sz4 : v19.heap.size < vF8.heap.size := by rw [← hv]; simp
         have hraw := raw_oneF v19 (⟨z, q⟩ : Fv) hv
         refine stepK (i := 6) (L := #[zT,zT,zT,zT,zT,zT,zT,zF,zF,zF]) rfl (by rfl) (by kernel_rfl) (by rfl) (fun K hK => ?_)
         go_simp
         try rw [hv]
         refine hK _ _ ⟨fun _ _ => fun p hp => Below.block (later j14 (later j18 (later j20 jF8))) p hp, ?_⟩
         clear hK K
         try clear hv
         try simp only [Act.put, zp]
         have O8 := (OwnF.on O1 (later j20 jF8))
         have r8 : ∀ g ∈ gs, PRows vF8 v13.heap.size vF8.heap.size g.P := fun g hg => ((r1 g hg).below (later j20 jF8) (Nat.le_refl _)).more (Nat.le_refl _) (by omega)
         have Rd : PRows vF8 v17.heap.size vF8.heap.size q := (Rq.below jF8 (Nat.le_refl _)).more (Nat.le_refl _) (by omega)
         have hOlt : ∀ k, (Value.slice A2 i c2).ownBlock = some k → v13.heap.size ≤ k ∧ k < v17.heap.size := fun k hk => O1.own.lt k hk
         have hoffd : Fv.off ⟨z, q⟩ (Value.slice A2 i c2).ownBlock := prows_off (f := ⟨z, q⟩) Rd fun k hk => .inl (hOlt k hk).2
         have b8 := (later j1 (later j10 (later j12 (later j14 (later j18 (later j20 jF8))))))
         refine stepK (i := 7) (L := #[zT,zT,zT,zT,zT,zT,zT,zT,zF,zF]) rfl (by rfl) (by kernel_rfl) (by rfl) (fun K hK => ?_)
         refine wp_append_rawC (.tmp 33) (.tmp 38) 22 rfl v13.heap.size 68 i0 _ 17 216 Try.underlying22 hi0 hz0 hz1 hz2 rfl (by decide) _ _ _ rfl O8.own _ _ _ 1 1 (cells17 ⟨z, q⟩) rfl hraw (cells17_one _) (by unfold maxLen; omega) (by omega) (by omega) ?_
         intro A3 c3 vF9 hown hg hob
         refine hK _ _ ⟨fun _ _ => fun p hp => (hg.block p (by omega) (fun e => by have := hOlt p e.symm; omega)).trans (Below.block (later j14 (later j18 (later j20 jF8))) p hp), ?_⟩
         clear hK K
         try simp only [Act.put, zp]
         have O9 := O8.push (d := ⟨z, q⟩) (Rd.more (Nat.zero_le _) (Nat.le_refl _)) hoffd hown hg hob
         have b9 : Below w.heap.size w vF9 := b8.grown hg (by omega) (fun k hk => by have := hOlt k hk; omega)
         have r9 : ∀ g ∈ gs ++ [(⟨z, q⟩ : Fv)], PRows vF9 w.heap.size vF9.heap.size g.P := fun g hg' => by
          rcases List.mem_append.1 hg' with h | h
          · exact (prows_grownL (r8 g h) hg (O8.off g h)).more (by omega) (Nat.le_refl _)
          · obtain rfl : g = ⟨z, q⟩ := by simpa using h
            exact (prows_grownL (f := ⟨z, q⟩) Rd hg hoffd).more (by omega) (Nat.le_refl _)
         have O10 := O9.base (b' := w.heap.size) (by omega)
         have t9 := frozenF_yes (z := z) tf.out tq.out
         refine zE 8 #[zT,zT,zT,zT,zT,zT,zT,zT,zT,zF] ?_ rfl ?hy9 ?rest9
         case hy9 => intro w; go_simp; (try with_reducible rfl)
         try simp only [Act.put, zp]
         refine zE 9 #[zT,zT,zT,zT,zT,zT,zT,zT,zT,zT] ?_ rfl ?hy10 ?rest10
         case hy10 => intro w; go_simp; (try with_reducible rfl)
         try simp only [Act.put, zp]
         refine doneE (by kernel_rfl) ?_ _
         clear hown hg hob hraw O8 O9 r8 Rd
         go_wp2
         go_ret2
         exact ⟨A3, i + 1, c3, _, rfl, t9, b9, O10, r9⟩
end Ma
end Go.Proofs.Ytbbnbgllgomolaa
namespace Go.Proofs.Ytbbnbgllgomolaa
open Go.RowKit
namespace Ma
open Dp Dy
theorem get_code {n : Nat} {fs : List Fv} {z k c : Int} {i : Nat} (hk : getF n fs z = k) (hc : askF n fs z = c) (hi : (if c = 0 then aheadF fs z else 0) = i) (hl : fs.length = n) :
  (c ≠ 0 → k = c) ∧ (c = 0 → i = n → k = 6) ∧ (c = 0 → ∀ h : i < fs.length, (fs[i].e ≠ z → k = 6) ∧ (fs[i].e = z → k = 0)) := by
 subst hk hc
 unfold getF
 refine ⟨fun h => by rw [if_pos h], fun h h1 => ?_, fun h h1 => ⟨fun h2 => ?_, fun h2 => ?_⟩⟩
 · rw [if_pos h] at hi
   rw [if_neg (by rw [h]; simp), hi, List.getElem?_eq_none (by omega)]
 · rw [if_pos h] at hi
   rw [if_neg (by rw [h]; simp), hi, List.getElem?_eq_getElem h1]
   simp only
   rw [if_neg h2]
 · rw [if_pos h] at hi
   rw [if_neg (by rw [h]; simp), hi, List.getElem?_eq_getElem h1]
   simp only
   rw [if_pos h2]
set_option maxHeartbeats 25600000 in
set_option maxRecDepth 100000 in
/-- past.Get. -/
theorem Get_any (w : World) (A : Option Addr) (n c : Nat) (fs : List Fv) (hL : LFs w 0 w.heap.size A n fs) (z : Int) (hs : ∀ j (h : j < fs.length), (∀ x, x < 4 → (fs[j].P.M.get x).n ≤ 1000000) ∧ fs[j].P.n ≤ 1000000) (k : Int) (hk : getF n fs z = k) :
  Calls Try.prog 26 #[.slice A n c, .int .i64 z] w fun e w' => ∃ q : Pv, e = .returned (.tuple #[.agg #[.bool q.M.S.s, .slice q.M.S.A q.M.S.n q.M.S.c, .int .i64 q.M.S.e, .bool q.M.W.s, .slice q.M.W.A q.M.W.n q.M.W.c, .int .i64 q.M.W.e, .bool q.M.C.s, .slice q.M.C.A q.M.C.n q.M.C.c, .int .i64 q.M.C.e, .bool q.M.A.s, .slice q.M.A.A q.M.A.n q.M.A.c, .int .i64 q.M.A.e, .bool q.h, .int .i64 q.mn, .int .i64 q.mx, .slice q.A q.n q.c], .int .i64 k]) ∧ TwinP (gotF k fs z) q ∧ Below w.heap.size w w' ∧ PRows w' w.heap.size w'.heap.size q := by
 obtain ⟨w1, hw, bZ, j1, S1⟩ := alloc_zp w
 have lw1 := j1.size
 have HS := Lib.hid hs
 have HL := Lib.hid hL.len
 obtain ⟨c0, hc0⟩ : ∃ c, askF n fs z = c := ⟨_, rfl⟩
 obtain ⟨i, hi⟩ : ∃ i, (if c0 = 0 then aheadF fs z else 0) = i := ⟨_, rfl⟩
 have HC := Lib.hid (get_code hk hc0 hi hL.len)
 have H0 := Lib.hid hc0
 have HI := Lib.hid hi
 have hin : i ≤ n := by
  have := aheadF_le fs z
  rw [hL.len] at this
  rw [← hi]
  split
  · exact this
  · exact Nat.zero_le _
 clear hk hc0 hi hs
 go_enter Try.func26, Try.ntmps26
 go_wp2_with fail
 refine (place_any w1 A n c fs (LFs.on hL j1) z c0 H0.out i HI.out).mono ?_
 rintro e' v1 ⟨rfl, j2⟩
 try clear hw
 by_cases h0 : c0 = 0
 rotate_left
 · skip
   obtain rfl := HC.out.1 h0
   have n0 : (k != 0) = true := by simpa using h0
   clear HC H0 HI
   have bz_ : PBox v1 (w.heap.size) ZPv := (box_later bZ j2 S1)
   obtain ⟨U_, hU_, bU_, hb_, hf_, l5_, l5'_⟩ := part_into bz_ ZPv
   have th_ := bz_.there
   replace hU_ : v1.setCells (w.heap.size) 0 (#[.bool false, .slice none 0 0, .int .i64 0, .bool false, .slice none 0 0, .int .i64 0, .bool false, .slice none 0 0, .int .i64 0, .bool false, .slice none 0 0, .int .i64 0, .bool false, .int .i64 0, .int .i64 0, .slice none 0 0] : Array Value).toList = U_ := hU_
   have HU_ := Lib.hid hU_
   clear hU_
   have fin_ := hb_ _ _ (later j1 j2) (by omega)
   go_wp2_with (first | (refine wpList_store_mid rfl 31 (.tmp 4) (.tmp 16) rfl (w.heap.size) 0 #[.bool false, .slice none 0 0, .int .i64 0, .bool false, .slice none 0 0, .int .i64 0, .bool false, .slice none 0 0, .int .i64 0, .bool false, .slice none 0 0, .int .i64 0, .bool false, .int .i64 0, .int .i64 0, .slice none 0 0] rfl rfl th_ (by kernel_rfl) (all_oneCell_toArray (cells16_one ZPv)) ?_; rw [HU_.out]))
   obtain ⟨Z_, hZ_⟩ : ∃ q : Pv, q = ZPv := ⟨_, rfl⟩
   rw [← hZ_] at bU_
   exact bodyPost_ret (results_row_slot Try.results26 _ _ (w.heap.size) 31 #[.bool Z_.M.S.s, .slice Z_.M.S.A Z_.M.S.n Z_.M.S.c, .int .i64 Z_.M.S.e, .bool Z_.M.W.s, .slice Z_.M.W.A Z_.M.W.n Z_.M.W.c, .int .i64 Z_.M.W.e, .bool Z_.M.C.s, .slice Z_.M.C.A Z_.M.C.n Z_.M.C.c, .int .i64 Z_.M.C.e, .bool Z_.M.A.s, .slice Z_.M.A.A Z_.M.A.n Z_.M.A.c, .int .i64 Z_.M.A.e, .bool Z_.h, .int .i64 Z_.mn, .int .i64 Z_.mx, .slice Z_.A Z_.n Z_.c] (0, 0) _ (.int .i64 k) rfl rfl bU_ Try.underlying31 rfl (by kernel_rfl)) rfl ⟨Z_, rfl, by rw [hZ_]; exact gotF_no h0 _ _, fin_, by rw [hZ_]; exact rowsZ _ _ _⟩
 · skip
   subst h0
   have HC2 := Lib.hid (HC.out.2.1 rfl)
   have HC3 := Lib.hid (HC.out.2.2 rfl)
   have HI2 : Hid (aheadF fs z = i) := Lib.hid (by have := HI.out; rw [if_pos rfl] at this; exact this)
   clear HC H0 HI
   by_cases h1 : i = n
   · skip
     obtain rfl := HC2.out h1
     have e1 : ((i : Int) == (n : Int)) = true := by rw [h1]; exact beq_self_eq_true _
     clear HC2 HC3 HI2 h1
     have bz_ : PBox v1 (w.heap.size) ZPv := (box_later bZ j2 S1)
     obtain ⟨U_, hU_, bU_, hb_, hf_, l5_, l5'_⟩ := part_into bz_ ZPv
     have th_ := bz_.there
     replace hU_ : v1.setCells (w.heap.size) 0 (#[.bool false, .slice none 0 0, .int .i64 0, .bool false, .slice none 0 0, .int .i64 0, .bool false, .slice none 0 0, .int .i64 0, .bool false, .slice none 0 0, .int .i64 0, .bool false, .int .i64 0, .int .i64 0, .slice none 0 0] : Array Value).toList = U_ := hU_
     have HU_ := Lib.hid hU_
     clear hU_
     have fin_ := hb_ _ _ (later j1 j2) (by omega)
     go_wp2_with (first | (refine wpList_store_mid rfl 31 (.tmp 4) (.tmp 31) rfl (w.heap.size) 0 #[.bool false, .slice none 0 0, .int .i64 0, .bool false, .slice none 0 0, .int .i64 0, .bool false, .slice none 0 0, .int .i64 0, .bool false, .slice none 0 0, .int .i64 0, .bool false, .int .i64 0, .int .i64 0, .slice none 0 0] rfl rfl th_ (by kernel_rfl) (all_oneCell_toArray (cells16_one ZPv)) ?_; rw [HU_.out]))
     obtain ⟨Z_, hZ_⟩ : ∃ q : Pv, q = ZPv := ⟨_, rfl⟩
     rw [← hZ_] at bU_
     exact bodyPost_ret (results_row_slot Try.results26 _ _ (w.heap.size) 31 #[.bool Z_.M.S.s, .slice Z_.M.S.A Z_.M.S.n Z_.M.S.c, .int .i64 Z_.M.S.e, .bool Z_.M.W.s, .slice Z_.M.W.A Z_.M.W.n Z_.M.W.c, .int .i64 Z_.M.W.e, .bool Z_.M.C.s, .slice Z_.M.C.A Z_.M.C.n Z_.M.C.c, .int .i64 Z_.M.C.e, .bool Z_.M.A.s, .slice Z_.M.A.A Z_.M.A.n Z_.M.A.c, .int .i64 Z_.M.A.e, .bool Z_.h, .int .i64 Z_.mn, .int .i64 Z_.mx, .slice Z_.A Z_.n Z_.c] (0, 0) _ (.int .i64 6) rfl rfl bU_ Try.underlying31 rfl (by kernel_rfl)) rfl ⟨Z_, rfl, by rw [hZ_]; exact gotF_no (by decide) _ _, fin_, by rw [hZ_]; exact rowsZ _ _ _⟩
   · skip
     have hif : i < fs.length := by have := HL.out; omega
     have hil : i < n := by omega
     have e1 : ((i : Int) == (n : Int)) = false := by
      have : (i : Int) ≠ (n : Int) := by omega
      simpa using this
     have hLz := (LFs.on hL (later j1 j2))
     obtain ⟨b, off, hA, hb1, hb2, hc⟩ := hLz.row (by omega)
     have hci := Lib.hid (hc i hif)
     have hri := hLz.rows i hif
     have hsz := Lib.hid (HS.out i hif)
     have HC4 := Lib.hid (HC3.out hif)
     obtain ⟨f, hf⟩ : ∃ f, fs[i] = f := ⟨_, rfl⟩
     rw [hf] at hci hri hsz HC4
     have HF := Lib.hid hf
     clear hc hf HC3
     subst hA
     have k_ := hci.out.1
     by_cases h2 : f.e = z
     rotate_left
     · skip
       obtain rfl := HC4.out.1 h2
       have e2 : (f.e != z) = true := by simpa using h2
       clear HC2 HC4 HI2
       have bz_ : PBox v1 (w.heap.size) ZPv := (box_later bZ j2 S1)
       obtain ⟨U_, hU_, bU_, hb_, hf_, l5_, l5'_⟩ := part_into bz_ ZPv
       have th_ := bz_.there
       replace hU_ : v1.setCells (w.heap.size) 0 (#[.bool false, .slice none 0 0, .int .i64 0, .bool false, .slice none 0 0, .int .i64 0, .bool false, .slice none 0 0, .int .i64 0, .bool false, .slice none 0 0, .int .i64 0, .bool false, .int .i64 0, .int .i64 0, .slice none 0 0] : Array Value).toList = U_ := hU_
       have HU_ := Lib.hid hU_
       clear hU_
       have fin_ := hb_ _ _ (later j1 j2) (by omega)
       go_wp2_with (first | (refine wpList_store_mid rfl 31 (.tmp 4) (.tmp 31) rfl (w.heap.size) 0 #[.bool false, .slice none 0 0, .int .i64 0, .bool false, .slice none 0 0, .int .i64 0, .bool false, .slice none 0 0, .int .i64 0, .bool false, .slice none 0 0, .int .i64 0, .bool false, .int .i64 0, .int .i64 0, .slice none 0 0] rfl rfl th_ (by kernel_rfl) (all_oneCell_toArray (cells16_one ZPv)) ?_; rw [HU_.out]))
       obtain ⟨Z_, hZ_⟩ : ∃ q : Pv, q = ZPv := ⟨_, rfl⟩
       rw [← hZ_] at bU_
       exact bodyPost_ret (results_row_slot Try.results26 _ _ (w.heap.size) 31 #[.bool Z_.M.S.s, .slice Z_.M.S.A Z_.M.S.n Z_.M.S.c, .int .i64 Z_.M.S.e, .bool Z_.M.W.s, .slice Z_.M.W.A Z_.M.W.n Z_.M.W.c, .int .i64 Z_.M.W.e, .bool Z_.M.C.s, .slice Z_.M.C.A Z_.M.C.n Z_.M.C.c, .int .i64 Z_.M.C.e, .bool Z_.M.A.s, .slice Z_.M.A.A Z_.M.A.n Z_.M.A.c, .int .i64 Z_.M.A.e, .bool Z_.h, .int .i64 Z_.mn, .int .i64 Z_.mx, .slice Z_.A Z_.n Z_.c] (0, 0) _ (.int .i64 6) rfl rfl bU_ Try.underlying31 rfl (by kernel_rfl)) rfl ⟨Z_, rfl, by rw [hZ_]; exact gotF_no (by decide) _ _, fin_, by rw [hZ_]; exact rowsZ _ _ _⟩
     · skip
       obtain rfl := HC4.out.2 h2
       have e2 : (f.e != z) = false := by simpa using h2
       clear HC2 HC4 h2
       have rg_ : v1.rangeAt b (off + i * 17 + 1) [.bool f.P.M.S.s, .slice f.P.M.S.A f.P.M.S.n f.P.M.S.c, .int .i64 f.P.M.S.e, .bool f.P.M.W.s, .slice f.P.M.W.A f.P.M.W.n f.P.M.W.c, .int .i64 f.P.M.W.e, .bool f.P.M.C.s, .slice f.P.M.C.A f.P.M.C.n f.P.M.C.c, .int .i64 f.P.M.C.e, .bool f.P.M.A.s, .slice f.P.M.A.A f.P.M.A.n f.P.M.A.c, .int .i64 f.P.M.A.e, .bool f.P.h, .int .i64 f.P.mn, .int .i64 f.P.mx, .slice f.P.A f.P.n f.P.c] := hci.out.part
       go_wp2_with (first
        | (refine wpList_load_mid rfl 31 (.tmp 35) rfl b (off + i * 17 + 1) (by go_simp) [.bool f.P.M.S.s, .slice f.P.M.S.A f.P.M.S.n f.P.M.S.c, .int .i64 f.P.M.S.e, .bool f.P.M.W.s, .slice f.P.M.W.A f.P.M.W.n f.P.M.W.c, .int .i64 f.P.M.W.e, .bool f.P.M.C.s, .slice f.P.M.C.A f.P.M.C.n f.P.M.C.c, .int .i64 f.P.M.C.e, .bool f.P.M.A.s, .slice f.P.M.A.A f.P.M.A.n f.P.M.A.c, .int .i64 f.P.M.A.e, .bool f.P.h, .int .i64 f.P.mn, .int .i64 f.P.mx, .slice f.P.A f.P.n f.P.c] _ rg_ Try.underlying31 rfl (by kernel_rfl) ?_))
       refine (TwinPart_any v1 f.P hri hsz.out.1 hsz.out.2).mono ?_
       rintro e' v3 ⟨q, rfl, tq, j4, Rq⟩
       try clear hw
       clear rg_
       replace tq := Lib.hid tq
       have bz_ : PBox v3 (w.heap.size) ZPv := (box_later bZ (later j2 j4) S1)
       obtain ⟨U_, hU_, bU_, hb_, hf_, l5_, l5'_⟩ := part_into bz_ q
       have th_ := bz_.there
       replace hU_ : v3.setCells (w.heap.size) 0 (#[.bool q.M.S.s, .slice q.M.S.A q.M.S.n q.M.S.c, .int .i64 q.M.S.e, .bool q.M.W.s, .slice q.M.W.A q.M.W.n q.M.W.c, .int .i64 q.M.W.e, .bool q.M.C.s, .slice q.M.C.A q.M.C.n q.M.C.c, .int .i64 q.M.C.e, .bool q.M.A.s, .slice q.M.A.A q.M.A.n q.M.A.c, .int .i64 q.M.A.e, .bool q.h, .int .i64 q.mn, .int .i64 q.mx, .slice q.A q.n q.c] : Array Value).toList = U_ := hU_
       have HU_ := Lib.hid hU_
       clear hU_
       have fin_ := hb_ _ _ (later j1 (later j2 j4)) (by omega)
       have Rq2 := (prows_far Rq (offP_of Rq (.inl (by have := Below.size j2; omega))) hf_).more (lo' := w.heap.size) (hi' := U_.heap.size) (by have := Below.size j2; omega) (by omega)
       have tg : TwinP (gotF 0 fs z) q := gotF_yes HI2.out hif (by rw [HF.out]; exact tq.out)
       go_wp2_with (first | (refine wpList_store_mid rfl 31 (.tmp 4) (.tmp 37) rfl (w.heap.size) 0 #[.bool q.M.S.s, .slice q.M.S.A q.M.S.n q.M.S.c, .int .i64 q.M.S.e, .bool q.M.W.s, .slice q.M.W.A q.M.W.n q.M.W.c, .int .i64 q.M.W.e, .bool q.M.C.s, .slice q.M.C.A q.M.C.n q.M.C.c, .int .i64 q.M.C.e, .bool q.M.A.s, .slice q.M.A.A q.M.A.n q.M.A.c, .int .i64 q.M.A.e, .bool q.h, .int .i64 q.mn, .int .i64 q.mx, .slice q.A q.n q.c] rfl rfl th_ (by kernel_rfl) (all_oneCell_toArray (cells16_one q)) ?_; rw [HU_.out]))
       exact bodyPost_ret (results_row_slot Try.results26 _ _ (w.heap.size) 31 #[.bool q.M.S.s, .slice q.M.S.A q.M.S.n q.M.S.c, .int .i64 q.M.S.e, .bool q.M.W.s, .slice q.M.W.A q.M.W.n q.M.W.c, .int .i64 q.M.W.e, .bool q.M.C.s, .slice q.M.C.A q.M.C.n q.M.C.c, .int .i64 q.M.C.e, .bool q.M.A.s, .slice q.M.A.A q.M.A.n q.M.A.c, .int .i64 q.M.A.e, .bool q.h, .int .i64 q.mn, .int .i64 q.mx, .slice q.A q.n q.c] (0, 0) _ (.int .i64 0) rfl rfl bU_ Try.underlying31 rfl (by kernel_rfl)) rfl ⟨q, rfl, tg, fin_, Rq2⟩
end Ma
end Go.Proofs.Ytbbnbgllgomolaa
namespace Go.Proofs.Ytbbnbgllgomolaa
open Go.RowKit
namespace Ma
open Dp Dy
theorem LFs.nil_ (w : World) (lo hi : Nat) (A : Option Addr) : LFs w lo hi A 0 [] := ⟨rfl, by decide, fun h => absurd h (Nat.lt_irrefl 0), fun _ h => absurd h (Nat.not_lt_zero _)⟩
set_option maxHeartbeats 12800000 in
set_option maxRecDepth 100000 in
/-- past.Before. -/
theorem Before_any (w : World) (A : Option Addr) (n c : Nat) (fs : List Fv) (hL : LFs w 0 w.heap.size A n fs) (hnc : n ≤ c) (z : Int) (hs : ∀ j (h : j < fs.length), (∀ x, x < 4 → (fs[j].P.M.get x).n ≤ 1000000) ∧ fs[j].P.n ≤ 1000000) (k : Int) (hk : askF n fs z = k) :
  Calls Try.prog 28 #[.slice A n c, .int .i64 z] w fun e w' => ∃ (A' : Option Addr) (n' c' : Nat) (gs : List Fv), e = .returned (.tuple #[.slice A' n' c', .int .i64 k]) ∧ TwinF (beforeF k fs z) gs ∧ Below w.heap.size w w' ∧ OwnF w' w.heap.size (.slice A' n' c') n' gs ∧ ∀ g ∈ gs, PRows w' w.heap.size w'.heap.size g.P := by
 have HS := Lib.hid hs
 have HL := Lib.hid hL.len
 obtain ⟨i, hi⟩ : ∃ i, (if k = 0 then aheadF fs z else 0) = i := ⟨_, rfl⟩
 have H0 := Lib.hid hk
 have HI := Lib.hid hi
 have hin : i ≤ n := by
  have := aheadF_le fs z
  rw [hL.len] at this
  rw [← hi]
  split
  · exact this
  · exact Nat.zero_le _
 have hbig := hL.big
 clear hk hi hs
 go_enter Try.func28, Try.ntmps28
 go_wp2_with fail
 refine (place_any w A n c fs hL z k H0.out i HI.out).mono ?_
 rintro e' v1 ⟨rfl, j1⟩
 by_cases h0 : k = 0
 rotate_left
 · have n0 : (k != 0) = true := by simpa using h0
   go_wp2
   go_ret2
   exact ⟨none, 0, 0, [], rfl, beforeF_no h0 _ _, j1, OwnF.nil_ _ _, fun _ h => absurd h (by simp)⟩
 · subst h0
   have HI2 : Hid (aheadF fs z = i) := Lib.hid (by have := HI.out; rw [if_pos rfl] at this; exact this)
   obtain ⟨hn4, _, _, _⟩ := askF_zero H0.out
   have hi28 : i ≤ 1028 := by omega
   clear HI H0
   have HST := Lib.hid (small_take HS.out i)
   have hLz := (hL.on j1).take hin
   have htk : Hid (beforeF 0 fs z = fs.take i) := Lib.hid (by unfold beforeF; rw [if_pos rfl, HI2.out])
   have lw := j1.size
   have hic : i ≤ c := by omega
   go_wp2_with fail
   refine (TwinF_any v1 _ i _ (fs.take i) hLz hi28 HST.out).mono ?_
   rintro e' v2 ⟨A3, c3, gs, rfl, tf, j2, O2, r2⟩
   have j3 := j1.trans (j2.mono lw)
   go_wp2
   go_ret2
   exact ⟨A3, i, c3, gs, rfl, by rw [htk.out]; exact tf, j3, O2.base lw, fun g hg => (r2 g hg).more lw (Nat.le_refl _)⟩
end Ma
end Go.Proofs.Ytbbnbgllgomolaa