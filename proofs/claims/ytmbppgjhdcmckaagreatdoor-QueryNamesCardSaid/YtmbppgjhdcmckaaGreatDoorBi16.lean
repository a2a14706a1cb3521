/- Frozen parts that may be; what is frozen, got, and there before: plain laws, no program in sight. -/
/- Tags that may be: least.Check and headcountref10.MayLeast, each by a walk. -/
/- Edges and parts that may be: walks (printed by a program of mine). -/
/- Own lists of frozen parts: appended to. No function in sight (printed by a program of mine). -/
/- headcountref20.Same: a walk (printed by a program of mine). -/
/- past.Same: a walk (printed by a program of mine). -/
/- Frozen parts that may be: past.Check and headcountref20.Check: walks (printed by a program of mine). -/
/- What may be wrong with a node that is up: walks (printed by a program of mine). -/
import Derived.Test.YtmbppgjhdcmckaaGreatDoorBi13
import Derived.Test.YtmbppgjhdcmckaaGreatDoorBi15
import Derived.Test.YtmbppgjhdcmckaaGreatDoorBi11
import Derived.Test.YtmbppgjhdcmckaaGreatDoorProg
import Derived.Test.YtmbppgjhdcmckaaGreatDoorBi01
import Derived.Test.YtmbppgjhdcmckaaGreatDoorBi14
import Derived.Test.YtmbppgjhdcmckaaGreatDoorBi09
import Derived.Test.YtmbppgjhdcmckaaGreatDoorBi12
import Derived.BigQuiet
namespace Go.Proofs.YtmbppgjhdcmckaaGreatDoor
open Go.RowKit
namespace Ma
open Dp Dy
/-- May an edge be? -/
def mayE (h : Bool) (mn mx : Int) : Bool := if h then decide (-2147483647 ≤ mn ∧ mn ≤ 2147483647 ∧ -2147483647 ≤ mx ∧ mx ≤ 2147483647 ∧ mn ≤ mx) else decide (mn = 0 ∧ mx = 0)
/-- May a part be? -/
noncomputable def mayP (p : Pv) : Bool := !badS [p.M] && (mayE p.h p.mn p.mx && decide (Least.checkCode p.xs = 0))
/-- May frozen parts be, all behind an epoch? -/
noncomputable def mayF : Int → List Fv → Bool
 | _, [] => true
 | a, f :: l => decide (a < f.e ∧ f.e ≤ 65535) && (mayP f.P && mayF f.e l)
noncomputable def checkF (n : Nat) (fs : List Fv) : Int := if 1024 < n then 4 else if mayF (-1) fs then 0 else 8
noncomputable def askF (n : Nat) (fs : List Fv) (z : Int) : Int := if checkF n fs ≠ 0 then checkF n fs else if z < 0 ∨ 65535 < z then 2 else 0
/-- How many are of earlier epochs. -/
def aheadF : List Fv → Int → Nat
 | [], _ => 0
 | f :: l, z => if f.e < z then aheadF l z + 1 else 0
theorem aheadF_le : ∀ (fs : List Fv) (z : Int), aheadF fs z ≤ fs.length
 | [], _ => Nat.le_refl _
 | f :: l, z => by
  have := aheadF_le l z
  unfold aheadF
  split
  · simp; omega
  · exact Nat.zero_le _
theorem mayF_at : ∀ {fs : List Fv} {a : Int}, mayF a fs = true → ∀ j (h : j < fs.length), a < fs[j].e ∧ fs[j].e ≤ 65535 ∧ mayP fs[j].P = true
 | [], _, _, j, h => absurd h (Nat.not_lt_zero _)
 | f :: l, a, hm, j, h => by
  simp only [mayF, Bool.and_eq_true, decide_eq_true_eq] at hm
  obtain ⟨⟨h1, h2⟩, h3, h4⟩ := hm
  match j, h with
  | 0, _ => exact ⟨h1, h2, h3⟩
  | j + 1, h =>
   obtain ⟨k1, k2, k3⟩ := mayF_at h4 j (by simpa using h)
   exact ⟨by simp; omega, by simpa using k2, by simpa using k3⟩
theorem aheadF_lt : ∀ {fs : List Fv} {z : Int} (j : Nat) (h : j < fs.length), j < aheadF fs z → fs[j].e < z
 | f :: l, z, 0, _, hj => by
  unfold aheadF at hj
  split at hj
  · assumption
  · exact absurd hj (Nat.lt_irrefl 0)
 | f :: l, z, j + 1, h, hj => by
  unfold aheadF at hj
  split at hj
  · exact aheadF_lt (fs := l) j (by simpa using h) (by omega)
  · exact absurd hj (Nat.not_lt_zero _)
theorem aheadF_ge : ∀ {fs : List Fv} {a z : Int}, mayF a fs = true → ∀ j (h : j < fs.length), aheadF fs z ≤ j → z ≤ fs[j].e
 | f :: l, a, z, hm, j, h, hj => by
  have hm' := hm
  simp only [mayF, Bool.and_eq_true, decide_eq_true_eq] at hm
  obtain ⟨_, _, h4⟩ := hm
  unfold aheadF at hj
  split at hj
  · match j, h with
    | 0, _ => omega
    | j + 1, h => exact aheadF_ge h4 j (by simpa using h) (by omega)
  · match j, h with
    | 0, _ => simp; omega
    | j + 1, h =>
     have := (mayF_at h4 j (by simpa using h)).1
     simp
     omega
/-- A walk from the left: what stands behind place i may be. -/
theorem mayF_drop {fs : List Fv} {i : Nat} (h : i < fs.length) (a : Int) : mayF a (fs.drop i) = (decide (a < fs[i].e ∧ fs[i].e ≤ 65535) && (mayP fs[i].P && mayF fs[i].e (fs.drop (i + 1)))) := by
 rw [List.drop_eq_getElem_cons h]
 rfl
theorem mayF_end {fs : List Fv} {i : Nat} (h : fs.length ≤ i) (a : Int) : mayF a (fs.drop i) = true := by
 rw [List.drop_eq_nil_of_le h]
 rfl
theorem checkF_zero {n : Nat} {fs : List Fv} (h : checkF n fs = 0) : n ≤ 1024 ∧ mayF (-1) fs = true := by
 unfold checkF at h
 split at h
 · omega
 · split at h
   · exact ⟨by omega, by assumption⟩
   · omega
/-- The code of getting. -/
noncomputable def getF (n : Nat) (fs : List Fv) (z : Int) : Int := if askF n fs z ≠ 0 then askF n fs z else match fs[aheadF fs z]? with
 | some f => if f.e = z then 0 else 6
 | none => 6
end Ma
end Go.Proofs.YtmbppgjhdcmckaaGreatDoor
namespace Go.Proofs.YtmbppgjhdcmckaaGreatDoor
open Go.RowKit
namespace Least
theorem ret_int {k : IntKind} {a b : Int} (h : a = b) : Ending.returned (.int k a) = .returned (.int k b) := by rw [h]
theorem ret_bool {a b : Bool} (h : a = b) : Ending.returned (.bool a) = .returned (.bool b) := by rw [h]
theorem below_get {xs : List Int} {A : Option Addr} {n : Nat} {w : World} {lo hi : Nat} (h : Ints w lo hi .u32 A n xs) (hn : 0 < n) :
  ∃ b off, A = some ⟨b, off, none⟩ ∧ ∀ j, j < n → w.cell? ⟨b, off + j, none⟩ = some (.int .u32 (xs[j]?.getD 0)) := by
 obtain ⟨b, off, e, _, _, hc⟩ := h.row hn
 exact ⟨b, off, e, fun j hj => (hc j hj).1⟩
set_option maxHeartbeats 400000 in
/-- least.Check. -/
theorem Check_any (w : World) (lo hi : Nat) (A : Option Addr) (n c : Nat) (xs : List Int) (h : Ints w lo hi .u32 A n xs) (code : Int) (hcode : checkCode xs = code) :
  Calls Tryz.prog 69 #[.slice A n c] w fun e w' => e = .returned (.int .i64 code) ∧ ∃ m, w' = w.drewN m := by
 have hlen := h.len
 have Hl := Lib.hid h.len
 have hbig := h.big
 have Hc := Lib.hid hcode
 clear hcode
 by_cases h8 : 8 < n
 · have hf : code = 4 := by rw [← Hc.out]; unfold checkCode; rw [if_pos (by omega)]
   have Hf := Lib.hid hf
   clear hf hlen
   go_enter Tryz.func69, Tryz.ntmps69
   go_wp2
   go_ret
   exact ⟨ret_int (by rw [Hf.out]), 0, rfl⟩
 · clear hlen
   go_enter Tryz.func69, Tryz.ntmps69
   go_wp2
   go_loopw [3] (fun i wr => ∃ k : Nat, 1 ≤ k ∧ i = .int .i64 k ∧ (k ≤ n ∨ k = 1) ∧ Hid (risesTo xs k = true) ∧ ∃ m, wr = w.drewN m) (fun i _ => n - (intOf i).toNat)
   case atStart => exact ⟨1, by omega, rfl, by omega, (by simp [Hid, risesTo]), 0, rfl⟩
   case round =>
    obtain ⟨k, hk, rfl, hk1, hr, m, rfl⟩ := hrel
    by_cases hlt : k < n
    · obtain ⟨b, off, rfl, hcell⟩ := below_get h (by omega)
      have g1 : w.cell? ⟨b, off + k, none⟩ = some (.int .u32 (xs[k]?.getD 0)) := hcell _ (by omega)
      have g2 : w.cell? ⟨b, off + (k - 1), none⟩ = some (.int .u32 (xs[k-1]?.getD 0)) := hcell _ (by omega)
      clear hcell
      go_wp2
      go_quiet (fail)
      go_wp2
      · have hle : xs[k]?.getD 0 ≤ xs[k - 1]?.getD 0 := by assumption
        have hf : code = 8 := by
         have hl := Hl.out
         rw [← Hc.out]; unfold checkCode rises
         rw [if_neg (by omega), risesTo_false (k := k + 1) (by simp [risesTo]; omega) (by omega)]
         rfl
        go_ret
        exact ⟨ret_int (by rw [hf]), m + nq, by simp⟩
      · have hgt : xs[k - 1]?.getD 0 < xs[k]?.getD 0 := by assumption
        go_roundw
        case rel => exact ⟨k + 1, by omega, by go_num, by omega, (by have := hr.out; simp [Hid, risesTo, this, hgt]), m + nq, by simp⟩
        case measure => simp [intOf]; omega
    · have hf : code = 0 := by
        have hl := Hl.out
        have hr := hr.out
        rw [← Hc.out]; unfold checkCode rises
        rw [if_neg (by omega)]
        rcases hk1 with hk1 | hk1
        · rw [show xs.length = k by omega, hr]; rfl
        · subst hk1
          have : xs.length = 0 ∨ xs.length = 1 := by omega
          rcases this with e | e <;> simp [e, risesTo]
      have Hf := Lib.hid hf
      clear hf
      go_wp2
      go_ret
      exact ⟨ret_int (by rw [Hf.out]), m, rfl⟩
end Least
end Go.Proofs.YtmbppgjhdcmckaaGreatDoor
namespace Go.Proofs.YtmbppgjhdcmckaaGreatDoor
open Go.RowKit
namespace Ma
open Dp Dy
theorem mayE_true (mn mx : Int) : mayE true mn mx = decide (-2147483647 ≤ mn ∧ mn ≤ 2147483647 ∧ -2147483647 ≤ mx ∧ mx ≤ 2147483647 ∧ mn ≤ mx) := rfl
theorem mayE_false (mn mx : Int) : mayE false mn mx = decide (mn = 0 ∧ mx = 0) := rfl
set_option maxHeartbeats 1600000 in
/-- edge.value. -/
theorem value_any (w : World) (x : Int) (b : Bool) (hb : decide (-2147483647 ≤ x ∧ x ≤ 2147483647) = b) :
  Calls Tryz.prog 131 #[.int .i64 x] w fun e w' => e = .returned (.bool b) ∧ Below w.heap.size w w' := by
 by_cases h1 : (-2147483647 : Int) ≤ x
 · by_cases h2 : x ≤ 2147483647
   · have hb' : b = true := by rw [← hb]; exact decide_eq_true ⟨h1, h2⟩
     subst hb'
     clear hb
     go_enter Tryz.func131, Tryz.ntmps131
     go_wp2
     go_ret
     exact ⟨rfl, Below.refl _ _⟩
   · have hb' : b = false := by rw [← hb]; exact decide_eq_false fun h => h2 h.2
     subst hb'
     have d2 : decide (x ≤ 2147483647) = false := decide_eq_false h2
     clear hb
     go_enter Tryz.func131, Tryz.ntmps131
     go_wp2
     go_ret
     exact ⟨rfl, Below.refl _ _⟩
 · have hb' : b = false := by rw [← hb]; exact decide_eq_false fun h => h1 h.1
   subst hb'
   have d1 : decide ((-2147483647 : Int) ≤ x) = false := decide_eq_false h1
   clear hb
   go_enter Tryz.func131, Tryz.ntmps131
   go_wp2
   go_ret
   exact ⟨rfl, Below.refl _ _⟩
set_option maxHeartbeats 3200000 in
set_option maxRecDepth 100000 in
/-- edge.Check. -/
theorem edgeCheck_any (w : World) (h : Bool) (mn mx : Int) (k : Bool) (hk : mayE h mn mx = k) :
  Calls Tryz.prog 68 #[.agg #[.bool h, .int .i64 mn, .int .i64 mx]] w fun e w' => e = .returned (.int .i64 (if k then 0 else 8)) ∧ Below w.heap.size w w' := by
 have fin := (Below.refl w.heap.size w).alloc (Nat.le_refl _) (.cells #[.bool h, .int .i64 mn, .int .i64 mx] 28)
 have B1 := heap_alloc_last w (.cells #[.bool h, .int .i64 mn, .int .i64 mx] 28)
 have S1 : w.heap.size < (w.alloc (.cells #[.bool h, .int .i64 mn, .int .i64 mx] 28)).heap.size := by simp
 generalize hw : w.alloc (.cells #[.bool h, .int .i64 mn, .int .i64 mx] 28) = w1 at *
 obtain ⟨⟨p1, p2, p3⟩, p4, p5, p6⟩ := boxD B1
 have HK := Lib.hid hk
 clear hk
 cases h
 · by_cases e1 : mn = 0
   · subst e1
     by_cases e2 : mx = 0
     · subst e2
       have hk' : k = true := by rw [← HK.out, mayE_false]; rfl
       subst hk'
       clear HK
       go_enter Tryz.func68, Tryz.ntmps68
       go_wp2
       go_ret
       exact ⟨rfl, fin⟩
     · have hk' : k = false := by rw [← HK.out, mayE_false]; exact decide_eq_false fun h => e2 h.2
       subst hk'
       have n2 : (mx == 0) = false := by simpa using e2
       have n3 : (0 == mx) = false := by simpa using Ne.symm e2
       clear HK
       go_enter Tryz.func68, Tryz.ntmps68
       go_wp2
       go_ret
       exact ⟨rfl, fin⟩
   · have hk' : k = false := by rw [← HK.out, mayE_false]; exact decide_eq_false fun h => e1 h.1
     subst hk'
     have n2 : (mn == 0) = false := by simpa using e1
     have n3 : (0 == mn) = false := by simpa using Ne.symm e1
     clear HK
     go_enter Tryz.func68, Tryz.ntmps68
     go_wp2
     go_ret
     exact ⟨rfl, fin⟩
 · obtain ⟨b1, hb1⟩ : ∃ b, decide (-2147483647 ≤ mn ∧ mn ≤ 2147483647) = b := ⟨_, rfl⟩
   obtain ⟨b2, hb2⟩ : ∃ b, decide (-2147483647 ≤ mx ∧ mx ≤ 2147483647) = b := ⟨_, rfl⟩
   have HB1 := Lib.hid hb1
   have HB2 := Lib.hid hb2
   clear hb1 hb2
   go_enter Tryz.func68, Tryz.ntmps68
   go_wp2_with fail
   refine (value_any w1 mn b1 HB1.out).mono ?_
   rintro e v1 ⟨rfl, j1⟩
   clear p1 p2 p3 p4 p5 p6
   have B2 := (j1.block _ S1).trans B1
   have fin1 := fin.trans (j1.mono (by omega))
   have S2 := j1.size
   obtain ⟨⟨p1, p2, p3⟩, p4, p5, p6⟩ := boxD B2
   cases b1
   · have hk' : k = false := by rw [← HK.out, mayE_true]; exact decide_eq_false fun h => of_decide_eq_false HB1.out ⟨h.1, h.2.1⟩
     subst hk'
     clear HK HB1 HB2
     go_wp2
     go_ret
     exact ⟨rfl, fin1⟩
   · go_wp2_with fail
     refine (value_any v1 mx b2 HB2.out).mono ?_
     rintro e v2 ⟨rfl, j2⟩
     clear p1 p2 p3 p4 p5 p6
     have B3 := (j2.block _ (by omega)).trans B2
     have fin2 := fin1.trans (j2.mono (by omega))
     obtain ⟨⟨p1, p2, p3⟩, p4, p5, p6⟩ := boxD B3
     cases b2
     · have hk' : k = false := by rw [← HK.out, mayE_true]; exact decide_eq_false fun h => of_decide_eq_false HB2.out ⟨h.2.2.1, h.2.2.2.1⟩
       subst hk'
       clear HK HB1 HB2
       go_wp2
       go_ret
       exact ⟨rfl, fin2⟩
     · by_cases hlt : mn ≤ mx
       · have hk' : k = true := by
           rw [← HK.out, mayE_true]
           have a1 := of_decide_eq_true HB1.out
           have a2 := of_decide_eq_true HB2.out
           exact decide_eq_true ⟨a1.1, a1.2, a2.1, a2.2, hlt⟩
         subst hk'
         have d1 : decide (mx < mn) = false := decide_eq_false (by omega)
         have d2 : decide (mn ≤ mx) = true := decide_eq_true hlt
         clear HK HB1 HB2
         go_wp2
         go_ret
         exact ⟨rfl, fin2⟩
       · have hk' : k = false := by rw [← HK.out, mayE_true]; exact decide_eq_false fun h => hlt h.2.2.2.2
         subst hk'
         have d1 : decide (mx < mn) = true := decide_eq_true (by omega)
         have d2 : decide (mn ≤ mx) = false := decide_eq_false hlt
         clear HK HB1 HB2
         go_wp2
         go_ret
         exact ⟨rfl, fin2⟩
set_option maxHeartbeats 6400000 in
set_option maxRecDepth 100000 in
/-- past.CheckPart. -/
theorem CheckPart_any (w : World) (p : Pv) (hR : PRows w 0 w.heap.size p) (k : Bool) (hk : mayP p = k) :
  Calls Tryz.prog 35 #[.agg #[.bool p.M.S.s, .slice p.M.S.A p.M.S.n p.M.S.c, .int .i64 p.M.S.e, .bool p.M.W.s, .slice p.M.W.A p.M.W.n p.M.W.c, .int .i64 p.M.W.e, .bool p.M.C.s, .slice p.M.C.A p.M.C.n p.M.C.c, .int .i64 p.M.C.e, .bool p.M.A.s, .slice p.M.A.A p.M.A.n p.M.A.c, .int .i64 p.M.A.e, .bool p.h, .int .i64 p.mn, .int .i64 p.mx, .slice p.A p.n p.c]] w fun e w' => e = .returned (.int .i64 (if k then 0 else 8)) ∧ Below w.heap.size w w' := by
 obtain ⟨w1, hw, bP, j1, S1⟩ := alloc_p w p
 obtain ⟨q, hq⟩ : ∃ q, badS [p.M] = q := ⟨_, rfl⟩
 obtain ⟨r, hr⟩ : ∃ q, mayE p.h p.mn p.mx = q := ⟨_, rfl⟩
 have HQ := Lib.hid hq
 have HR := Lib.hid hr
 have HK := Lib.hid hk
 clear hq hr hk
 go_enter Tryz.func35, Tryz.ntmps35
 obtain ⟨⟨q1_0, q1_1, q1_2, q1_3, q1_4, q1_5, q1_6, q1_7, q1_8, q1_9, q1_10, q1_11, q1_12, q1_13, q1_14, q1_15⟩, q1f⟩ := PBox.cell bP
 go_wp2_with fail
 refine (PCheck_any w1 p.M (PRows.on hR j1).M q HQ.out).mono ?_
 rintro e' v2 ⟨rfl, j3⟩
 clear q1_0 q1_1 q1_2 q1_3 q1_4 q1_5 q1_6 q1_7 q1_8 q1_9 q1_10 q1_11 q1_12 q1_13 q1_14 q1_15 q1f
 try clear hw
 obtain ⟨⟨q4_0, q4_1, q4_2, q4_3, q4_4, q4_5, q4_6, q4_7, q4_8, q4_9, q4_10, q4_11, q4_12, q4_13, q4_14, q4_15⟩, q4f⟩ := PBox.cell (box_later bP j3 S1)
 cases q
 rotate_left
 · skip
   have hk' : k = false := by rw [← HK.out, mayP, HQ.out]; rfl
   subst hk'
   clear HK HQ HR
   go_wp2
   go_ret
   exact ⟨rfl, (later j1 j3)⟩
 · skip
   go_wp2_with fail
   refine (edgeCheck_any v2 p.h p.mn p.mx r HR.out).mono ?_
   rintro e' v5 ⟨rfl, j6⟩
   clear q4_0 q4_1 q4_2 q4_3 q4_4 q4_5 q4_6 q4_7 q4_8 q4_9 q4_10 q4_11 q4_12 q4_13 q4_14 q4_15 q4f
   try clear hw
   obtain ⟨⟨q7_0, q7_1, q7_2, q7_3, q7_4, q7_5, q7_6, q7_7, q7_8, q7_9, q7_10, q7_11, q7_12, q7_13, q7_14, q7_15⟩, q7f⟩ := PBox.cell (box_later bP (later j3 j6) S1)
   cases r
   · skip
     have hk' : k = false := by rw [← HK.out, mayP, HQ.out, HR.out]; rfl
     subst hk'
     clear HK HQ HR
     go_wp2
     go_ret
     exact ⟨rfl, (later j1 (later j3 j6))⟩
   · skip
     obtain ⟨cd, hcd⟩ : ∃ c, Least.checkCode p.xs = c := ⟨_, rfl⟩
     have HC := Lib.hid hcd
     clear hcd
     go_wp2_with fail
     refine (Least.Check_any v5 0 v5.heap.size p.A p.n p.c p.xs (PRows.on hR (later j1 (later j3 j6))).L cd HC.out).mono ?_
     rintro e' v_ ⟨rfl, m_, rfl⟩
     have jd : Below w.heap.size w (v5.drewN m_) := below_drewN (later j1 (later j3 j6)) m_
     by_cases h0 : cd = 0
     · subst h0
       have hk' : k = true := by rw [← HK.out, mayP, HQ.out, HR.out, HC.out]; rfl
       subst hk'
       clear HK HQ HR HC
       go_wp2
       go_ret
       exact ⟨rfl, jd⟩
     · have hk' : k = false := by rw [← HK.out, mayP, HQ.out, HR.out, HC.out, decide_eq_false h0]; rfl
       subst hk'
       have n0 : (cd != 0) = true := by simpa using h0
       clear HK HQ HR HC
       go_wp2
       go_ret
       exact ⟨rfl, jd⟩
end Ma
end Go.Proofs.YtmbppgjhdcmckaaGreatDoor
namespace Go.Proofs.YtmbppgjhdcmckaaGreatDoor
open Go.RowKit
namespace Ma
open Dp Dy
def cells17 (f : Fv) : List Value := [.int .i64 f.e, .bool f.P.M.S.s, .slice f.P.M.S.A f.P.M.S.n f.P.M.S.c, .int .i64 f.P.M.S.e, .bool f.P.M.W.s, .slice f.P.M.W.A f.P.M.W.n f.P.M.W.c, .int .i64 f.P.M.W.e, .bool f.P.M.C.s, .slice f.P.M.C.A f.P.M.C.n f.P.M.C.c, .int .i64 f.P.M.C.e, .bool f.P.M.A.s, .slice f.P.M.A.A f.P.M.A.n f.P.M.A.c, .int .i64 f.P.M.A.e, .bool f.P.h, .int .i64 f.P.mn, .int .i64 f.P.mx, .slice f.P.A f.P.n f.P.c]
theorem cells17_one (f : Fv) : ∀ u ∈ cells17 f, u.oneCell' = true := by
 intro u hu
 simp only [cells17, List.mem_cons, List.not_mem_nil, or_false] at hu
 rcases hu with rfl | rfl | rfl | rfl | rfl | rfl | rfl | rfl | rfl | rfl | rfl | rfl | rfl | rfl | rfl | rfl | rfl <;> rfl
theorem fcells_of {w : World} {b o : Nat} {f : Fv} (h : ∀ k, k < 17 → w.cell? ⟨b, o + k, none⟩ = (cells17 f)[k]?) : FCells w b o f :=
 ⟨h 0 (by decide), h 1 (by decide), h 2 (by decide), h 3 (by decide), h 4 (by decide), h 5 (by decide), h 6 (by decide), h 7 (by decide), h 8 (by decide), h 9 (by decide), h 10 (by decide), h 11 (by decide), h 12 (by decide), h 13 (by decide), h 14 (by decide), h 15 (by decide), h 16 (by decide)⟩
/-- What its rows lie in is another block. -/
def Fv.off (f : Fv) (g : Option Nat) : Prop := f.P.M.off g ∧ ∀ a, f.P.A = some a → 0 < f.P.n → g ≠ some a.block
end Ma
end Go.Proofs.YtmbppgjhdcmckaaGreatDoor
namespace Go.Proofs.YtmbppgjhdcmckaaGreatDoor
open Go.RowKit
namespace Ma
open Dp Dy
theorem sameF_yes {fs gs : List Fv} (hl : fs.length = gs.length) (h : ∀ j (h1 : j < fs.length) (h2 : j < gs.length), fs[j].e = gs[j].e ∧ sameP fs[j].P gs[j].P = true) : sameF fs gs = true := by
 unfold sameF
 rw [decide_eq_true hl, Bool.true_and, List.all_eq_true]
 intro x hx
 obtain ⟨j, hj, rfl⟩ := List.mem_iff_getElem.1 hx
 rw [List.getElem_zip]
 have h1 : j < fs.length := by rw [List.length_zip] at hj; omega
 have h2 : j < gs.length := by omega
 obtain ⟨k1, k2⟩ := h j h1 h2
 show (decide (fs[j].e = gs[j].e) && sameP fs[j].P gs[j].P) = true
 rw [decide_eq_true k1, k2]
 rfl
theorem sameF_no {fs gs : List Fv} {i : Nat} (h1 : i < fs.length) (h2 : i < gs.length) (h : ¬ (fs[i].e = gs[i].e ∧ sameP fs[i].P gs[i].P = true)) : sameF fs gs = false := by
 cases hx : sameF fs gs
 · rfl
 · exfalso
   unfold sameF at hx
   rw [Bool.and_eq_true, List.all_eq_true] at hx
   have hz : i < (fs.zip gs).length := by rw [List.length_zip]; omega
   have := hx.2 _ (List.getElem_mem hz)
   rw [List.getElem_zip] at this
   have k : (decide (fs[i].e = gs[i].e) && sameP fs[i].P gs[i].P) = true := this
   rw [Bool.and_eq_true, decide_eq_true_eq] at k
   exact h k
theorem sameF_len {fs gs : List Fv} (h : fs.length ≠ gs.length) : sameF fs gs = false := by
 unfold sameF
 rw [decide_eq_false h]
 rfl
end Ma
end Go.Proofs.YtmbppgjhdcmckaaGreatDoor
namespace Go.Proofs.YtmbppgjhdcmckaaGreatDoor
open Go.RowKit
namespace Ma
open Dp Dy
set_option maxHeartbeats 25600000 in
set_option maxRecDepth 100000 in
/-- past.Same's own function. -/
theorem SameFn_any (w : World) (f h : Fv) (hA : PRows w 0 w.heap.size f.P) (hB : PRows w 0 w.heap.size h.P) (k : Bool) (hk : (decide (f.e = h.e) && sameP f.P h.P) = k) :
  Calls Tryz.prog 166 #[.agg #[.int .i64 f.e, .bool f.P.M.S.s, .slice f.P.M.S.A f.P.M.S.n f.P.M.S.c, .int .i64 f.P.M.S.e, .bool f.P.M.W.s, .slice f.P.M.W.A f.P.M.W.n f.P.M.W.c, .int .i64 f.P.M.W.e, .bool f.P.M.C.s, .slice f.P.M.C.A f.P.M.C.n f.P.M.C.c, .int .i64 f.P.M.C.e, .bool f.P.M.A.s, .slice f.P.M.A.A f.P.M.A.n f.P.M.A.c, .int .i64 f.P.M.A.e, .bool f.P.h, .int .i64 f.P.mn, .int .i64 f.P.mx, .slice f.P.A f.P.n f.P.c], .agg #[.int .i64 h.e, .bool h.P.M.S.s, .slice h.P.M.S.A h.P.M.S.n h.P.M.S.c, .int .i64 h.P.M.S.e, .bool h.P.M.W.s, .slice h.P.M.W.A h.P.M.W.n h.P.M.W.c, .int .i64 h.P.M.W.e, .bool h.P.M.C.s, .slice h.P.M.C.A h.P.M.C.n h.P.M.C.c, .int .i64 h.P.M.C.e, .bool h.P.M.A.s, .slice h.P.M.A.A h.P.M.A.n h.P.M.A.c, .int .i64 h.P.M.A.e, .bool h.P.h, .int .i64 h.P.mn, .int .i64 h.P.mx, .slice h.P.A h.P.n h.P.c]] w fun e w' => e = .returned (.bool k) ∧ Below w.heap.size w w' := by
 generalize hw : (w.alloc (.cells #[.int .i64 f.e, .bool f.P.M.S.s, .slice f.P.M.S.A f.P.M.S.n f.P.M.S.c, .int .i64 f.P.M.S.e, .bool f.P.M.W.s, .slice f.P.M.W.A f.P.M.W.n f.P.M.W.c, .int .i64 f.P.M.W.e, .bool f.P.M.C.s, .slice f.P.M.C.A f.P.M.C.n f.P.M.C.c, .int .i64 f.P.M.C.e, .bool f.P.M.A.s, .slice f.P.M.A.A f.P.M.A.n f.P.M.A.c, .int .i64 f.P.M.A.e, .bool f.P.h, .int .i64 f.P.mn, .int .i64 f.P.mx, .slice f.P.A f.P.n f.P.c] 115)).alloc (.cells #[.int .i64 h.e, .bool h.P.M.S.s, .slice h.P.M.S.A h.P.M.S.n h.P.M.S.c, .int .i64 h.P.M.S.e, .bool h.P.M.W.s, .slice h.P.M.W.A h.P.M.W.n h.P.M.W.c, .int .i64 h.P.M.W.e, .bool h.P.M.C.s, .slice h.P.M.C.A h.P.M.C.n h.P.M.C.c, .int .i64 h.P.M.C.e, .bool h.P.M.A.s, .slice h.P.M.A.A h.P.M.A.n h.P.M.A.c, .int .i64 h.P.M.A.e, .bool h.P.h, .int .i64 h.P.mn, .int .i64 h.P.mx, .slice h.P.A h.P.n h.P.c] 115) = w1
 obtain ⟨bA, bB, j1, lo1, hi1⟩ := boxes2 w _ _ hw
 replace bA : FBox w1 w.heap.size f := bA
 replace bB : FBox w1 (w.heap.size + 1) h := bB
 replace j1 : Below w.heap.size w w1 := j1
 have S1 : w.heap.size < w1.heap.size := by omega
 have S2 : w.heap.size + 1 < w1.heap.size := by omega
 obtain ⟨q, hq⟩ : ∃ q, sameP f.P h.P = q := ⟨_, rfl⟩
 have HQ := Lib.hid hq
 have HK := Lib.hid hk
 clear hq hk
 go_enter Tryz.func166, Tryz.ntmps166
 have ka_ := (FBox.cell bA).1.1
 have kb_ := (FBox.cell bB).1.1
 have ra_ : w1.rangeAt w.heap.size 1 [.bool f.P.M.S.s, .slice f.P.M.S.A f.P.M.S.n f.P.M.S.c, .int .i64 f.P.M.S.e, .bool f.P.M.W.s, .slice f.P.M.W.A f.P.M.W.n f.P.M.W.c, .int .i64 f.P.M.W.e, .bool f.P.M.C.s, .slice f.P.M.C.A f.P.M.C.n f.P.M.C.c, .int .i64 f.P.M.C.e, .bool f.P.M.A.s, .slice f.P.M.A.A f.P.M.A.n f.P.M.A.c, .int .i64 f.P.M.A.e, .bool f.P.h, .int .i64 f.P.mn, .int .i64 f.P.mx, .slice f.P.A f.P.n f.P.c] := FBox.part bA
 have rb_ : w1.rangeAt (w.heap.size + 1) 1 [.bool h.P.M.S.s, .slice h.P.M.S.A h.P.M.S.n h.P.M.S.c, .int .i64 h.P.M.S.e, .bool h.P.M.W.s, .slice h.P.M.W.A h.P.M.W.n h.P.M.W.c, .int .i64 h.P.M.W.e, .bool h.P.M.C.s, .slice h.P.M.C.A h.P.M.C.n h.P.M.C.c, .int .i64 h.P.M.C.e, .bool h.P.M.A.s, .slice h.P.M.A.A h.P.M.A.n h.P.M.A.c, .int .i64 h.P.M.A.e, .bool h.P.h, .int .i64 h.P.mn, .int .i64 h.P.mx, .slice h.P.A h.P.n h.P.c] := FBox.part bB
 by_cases he : f.e = h.e
 rotate_left
 · skip
   have heb : (f.e == h.e) = false := by simpa using he
   have hk' : k = false := by rw [← HK.out, decide_eq_false he]; rfl
   subst hk'
   clear HK HQ
   go_wp2
   go_ret
   exact ⟨rfl, j1⟩
 · skip
   have heb : (f.e == h.e) = true := by simpa using he
   have hk' : k = q := by rw [← HK.out, decide_eq_true he, HQ.out]; rfl
   subst hk'
   clear HK he
   go_wp2_with (first
    | (refine wpList_load_midG (by rfl) 30 (.tmp 11) rfl w.heap.size 1 rfl [.bool f.P.M.S.s, .slice f.P.M.S.A f.P.M.S.n f.P.M.S.c, .int .i64 f.P.M.S.e, .bool f.P.M.W.s, .slice f.P.M.W.A f.P.M.W.n f.P.M.W.c, .int .i64 f.P.M.W.e, .bool f.P.M.C.s, .slice f.P.M.C.A f.P.M.C.n f.P.M.C.c, .int .i64 f.P.M.C.e, .bool f.P.M.A.s, .slice f.P.M.A.A f.P.M.A.n f.P.M.A.c, .int .i64 f.P.M.A.e, .bool f.P.h, .int .i64 f.P.mn, .int .i64 f.P.mx, .slice f.P.A f.P.n f.P.c] _ ra_ Tryz.underlying30 rfl (by kernel_rfl) ?_)
    | (refine wpList_load_midG (by rfl) 30 (.tmp 13) rfl (w.heap.size + 1) 1 rfl [.bool h.P.M.S.s, .slice h.P.M.S.A h.P.M.S.n h.P.M.S.c, .int .i64 h.P.M.S.e, .bool h.P.M.W.s, .slice h.P.M.W.A h.P.M.W.n h.P.M.W.c, .int .i64 h.P.M.W.e, .bool h.P.M.C.s, .slice h.P.M.C.A h.P.M.C.n h.P.M.C.c, .int .i64 h.P.M.C.e, .bool h.P.M.A.s, .slice h.P.M.A.A h.P.M.A.n h.P.M.A.c, .int .i64 h.P.M.A.e, .bool h.P.h, .int .i64 h.P.mn, .int .i64 h.P.mx, .slice h.P.A h.P.n h.P.c] _ rb_ Tryz.underlying30 rfl (by kernel_rfl) ?_))
   refine (SamePart_any w1 f.P h.P (PRows.on hA j1) (PRows.on hB j1) k HQ.out).mono ?_
   rintro e' v1 ⟨rfl, j2⟩
   try clear hw
   clear ra_ rb_ ka_ kb_
   cases k
   · skip
     go_wp2
     go_ret
     exact ⟨rfl, (later j1 j2)⟩
   · skip
     go_wp2
     go_ret
     exact ⟨rfl, (later j1 j2)⟩
set_option maxHeartbeats 51200000 in
set_option maxRecDepth 100000 in
/-- slices.EqualFunc, of frozen parts. -/
theorem EqualFuncF_any (w : World) (A A' : Option Addr) (n c n' c' : Nat) (fs gs : List Fv) (hL : LFs w 0 w.heap.size A n fs) (hL' : LFs w 0 w.heap.size A' n' gs) (r : Bool) (hr : sameF fs gs = r) :
  Calls Tryz.prog 165 #[.slice A n c, .slice A' n' c', .func (.func 166) #[] #[]] w fun e w' => e = .returned (.bool r) ∧ Below w.heap.size w w' := by
 have HL := Lib.hid hL.len
 have HL' := Lib.hid hL'.len
 have HR := Lib.hid hr
 have hbig := hL.big
 have hbig' := hL'.big
 clear hr
 go_enter Tryz.func165, Tryz.ntmps165
 by_cases hnn : n = n'
 rotate_left
 · have hr' : r = false := by rw [← HR.out]; exact sameF_len (by rw [HL.out, HL'.out]; exact hnn)
   subst hr'
   have hnb : ((n : Int) != (n' : Int)) = true := by
    have : (n : Int) ≠ (n' : Int) := by omega
    simpa using this
   clear HR
   go_wp2
   go_ret
   exact ⟨rfl, Below.refl _ _⟩
 · subst hnn
   go_wp2
   go_loopw [6, 7, 8, 9, 17] (fun ev _ _ _ iv wr => ∃ i : Nat, iv = .int .i64 i ∧ ev = .bool false ∧ i ≤ n ∧ Below w.heap.size w wr ∧ Hid (∀ j (h1 : j < fs.length) (h2 : j < gs.length), j < i → fs[j].e = gs[j].e ∧ sameP fs[j].P gs[j].P = true)) (fun _ _ _ _ iv _ => n - (intOf iv).toNat)
   case atStart => exact ⟨0, rfl, rfl, Nat.zero_le _, Below.refl _ _, Lib.hid fun _ _ _ h => absurd h (Nat.not_lt_zero _)⟩
   case round =>
    obtain ⟨i, rfl, rfl, hi1, hb, hall⟩ := hrel
    by_cases hi : i < n
    rotate_left
    · have hr' : r = true := by
        rw [← HR.out]
        exact sameF_yes (HL.out.trans HL'.out.symm) fun j h1 h2 => hall.out j h1 h2 (by have := HL.out; omega)
      subst hr'
      go_wp2
      go_ret
      exact ⟨rfl, hb⟩
    · have hi2 : i < fs.length := by rw [HL.out]; exact hi
      have hi3 : i < gs.length := by rw [HL'.out]; exact hi
      obtain ⟨b, off, hA, hb1, hb2, hc⟩ := (hL.below hb (Nat.le_refl _)).row (by omega)
      obtain ⟨b', off', hA', hb1', hb2', hc'⟩ := (hL'.below hb (Nat.le_refl _)).row (by omega)
      have hci := Lib.hid (hc i hi2)
      have hdi := Lib.hid (hc' i hi3)
      have hri := (hL.below hb (Nat.le_refl _)).rows i hi2
      have hsi := (hL'.below hb (Nat.le_refl _)).rows i hi3
      obtain ⟨f, hf⟩ : ∃ f, fs[i] = f := ⟨_, rfl⟩
      obtain ⟨h, hh⟩ : ∃ f, gs[i] = f := ⟨_, rfl⟩
      rw [hf] at hci hri
      rw [hh] at hdi hsi
      have HF := Lib.hid hf
      have HH := Lib.hid hh
      have hwrj : IntKind.i64.wrap ((i : Int) + 1) = ((i + 1 : Nat) : Int) := by rw [IntKind.wrap_i64]; omega
      clear hc hc' hf hh
      subst hA hA'
      have lw := hb.size
      obtain ⟨u1, hu1, f1, j1, s1⟩ := alloc_f wr f
      have rg := hci.out.range
      go_upto_region 6 with (first
       | (refine wpList_load_mid rfl 115 (.tmp 20) rfl b (off + i * 17) rfl [.int .i64 f.e, .bool f.P.M.S.s, .slice f.P.M.S.A f.P.M.S.n f.P.M.S.c, .int .i64 f.P.M.S.e, .bool f.P.M.W.s, .slice f.P.M.W.A f.P.M.W.n f.P.M.W.c, .int .i64 f.P.M.W.e, .bool f.P.M.C.s, .slice f.P.M.C.A f.P.M.C.n f.P.M.C.c, .int .i64 f.P.M.C.e, .bool f.P.M.A.s, .slice f.P.M.A.A f.P.M.A.n f.P.M.A.c, .int .i64 f.P.M.A.e, .bool f.P.h, .int .i64 f.P.mn, .int .i64 f.P.mx, .slice f.P.A f.P.n f.P.c] _ rg Tryz.underlying115 rfl (by kernel_rfl) ?_)
       | (refine wpList_store_new rfl 115 (.tmp 8) (.tmp 21) rfl _ #[.int .i64 f.e, .bool f.P.M.S.s, .slice f.P.M.S.A f.P.M.S.n f.P.M.S.c, .int .i64 f.P.M.S.e, .bool f.P.M.W.s, .slice f.P.M.W.A f.P.M.W.n f.P.M.W.c, .int .i64 f.P.M.W.e, .bool f.P.M.C.s, .slice f.P.M.C.A f.P.M.C.n f.P.M.C.c, .int .i64 f.P.M.C.e, .bool f.P.M.A.s, .slice f.P.M.A.A f.P.M.A.n f.P.M.A.c, .int .i64 f.P.M.A.e, .bool f.P.h, .int .i64 f.P.mn, .int .i64 f.P.mx, .slice f.P.A f.P.n f.P.c] rfl rfl (by kernel_rfl) rfl (all_oneCell_toArray (cells17_one f)) ?_))
      try rw [hu1]
      try clear hu1
      obtain ⟨u2, hu2, f2, j2, s2⟩ := alloc_f u1 h
      have rg2 := (hdi.out.blk (j1.block b' (by omega))).range
      go_upto_region 7 with (first
       | (refine wpList_load_mid rfl 115 (.tmp 24) rfl b' (off' + i * 17) rfl [.int .i64 h.e, .bool h.P.M.S.s, .slice h.P.M.S.A h.P.M.S.n h.P.M.S.c, .int .i64 h.P.M.S.e, .bool h.P.M.W.s, .slice h.P.M.W.A h.P.M.W.n h.P.M.W.c, .int .i64 h.P.M.W.e, .bool h.P.M.C.s, .slice h.P.M.C.A h.P.M.C.n h.P.M.C.c, .int .i64 h.P.M.C.e, .bool h.P.M.A.s, .slice h.P.M.A.A h.P.M.A.n h.P.M.A.c, .int .i64 h.P.M.A.e, .bool h.P.h, .int .i64 h.P.mn, .int .i64 h.P.mx, .slice h.P.A h.P.n h.P.c] _ rg2 Tryz.underlying115 rfl (by kernel_rfl) ?_)
       | (refine wpList_store_new rfl 115 (.tmp 9) (.tmp 25) rfl _ #[.int .i64 h.e, .bool h.P.M.S.s, .slice h.P.M.S.A h.P.M.S.n h.P.M.S.c, .int .i64 h.P.M.S.e, .bool h.P.M.W.s, .slice h.P.M.W.A h.P.M.W.n h.P.M.W.c, .int .i64 h.P.M.W.e, .bool h.P.M.C.s, .slice h.P.M.C.A h.P.M.C.n h.P.M.C.c, .int .i64 h.P.M.C.e, .bool h.P.M.A.s, .slice h.P.M.A.A h.P.M.A.n h.P.M.A.c, .int .i64 h.P.M.A.e, .bool h.P.h, .int .i64 h.P.mn, .int .i64 h.P.mx, .slice h.P.A h.P.n h.P.c] rfl rfl (by kernel_rfl) rfl (all_oneCell_toArray (cells17_one h)) ?_))
      try rw [hu2]
      try clear hu2
      clear rg rg2
      have f1' : FBox u2 wr.heap.size f := (j2.block _ s1).trans f1
      have rg := f1'.range
      have rg2 := f2.range
      have j12 := later j1 j2
      obtain ⟨q, hq⟩ : ∃ q, (decide (f.e = h.e) && sameP f.P h.P) = q := ⟨_, rfl⟩
      have HQ := Lib.hid hq
      clear hq
      go_wp2_with (first
       | (refine wpList_load_mid rfl 115 (.tmp 8) rfl wr.heap.size 0 rfl [.int .i64 f.e, .bool f.P.M.S.s, .slice f.P.M.S.A f.P.M.S.n f.P.M.S.c, .int .i64 f.P.M.S.e, .bool f.P.M.W.s, .slice f.P.M.W.A f.P.M.W.n f.P.M.W.c, .int .i64 f.P.M.W.e, .bool f.P.M.C.s, .slice f.P.M.C.A f.P.M.C.n f.P.M.C.c, .int .i64 f.P.M.C.e, .bool f.P.M.A.s, .slice f.P.M.A.A f.P.M.A.n f.P.M.A.c, .int .i64 f.P.M.A.e, .bool f.P.h, .int .i64 f.P.mn, .int .i64 f.P.mx, .slice f.P.A f.P.n f.P.c] _ rg Tryz.underlying115 rfl (by kernel_rfl) ?_)
       | (refine wpList_load_mid rfl 115 (.tmp 9) rfl u1.heap.size 0 rfl [.int .i64 h.e, .bool h.P.M.S.s, .slice h.P.M.S.A h.P.M.S.n h.P.M.S.c, .int .i64 h.P.M.S.e, .bool h.P.M.W.s, .slice h.P.M.W.A h.P.M.W.n h.P.M.W.c, .int .i64 h.P.M.W.e, .bool h.P.M.C.s, .slice h.P.M.C.A h.P.M.C.n h.P.M.C.c, .int .i64 h.P.M.C.e, .bool h.P.M.A.s, .slice h.P.M.A.A h.P.M.A.n h.P.M.A.c, .int .i64 h.P.M.A.e, .bool h.P.h, .int .i64 h.P.mn, .int .i64 h.P.mx, .slice h.P.A h.P.n h.P.c] _ rg2 Tryz.underlying115 rfl (by kernel_rfl) ?_))
      refine (SameFn_any u2 f h ((hri.more (Nat.le_refl _) lw).on j12) ((hsi.more (Nat.le_refl _) lw).on j12) q HQ.out).mono ?_
      rintro e' u3 ⟨rfl, j3⟩
      clear rg rg2
      have hb5 := hb.trans ((later j12 j3).mono lw)
      cases q
      · have hr' : r = false := by
          rw [← HR.out]
          refine sameF_no hi2 hi3 ?_
          rw [HF.out, HH.out]
          intro k
          have := HQ.out
          rw [decide_eq_true k.1, k.2] at this
          cases this
        subst hr'
        go_wp2
        go_ret
        exact ⟨rfl, hb5⟩
      · have hall2 : Hid (∀ j (h1 : j < fs.length) (h2 : j < gs.length), j < i + 1 → fs[j].e = gs[j].e ∧ sameP fs[j].P gs[j].P = true) := Lib.hid fun j h1 h2 h3 => by
          by_cases e : j = i
          · subst e
            rw [HF.out, HH.out]
            have := HQ.out
            rw [Bool.and_eq_true, decide_eq_true_eq] at this
            exact this
          · exact hall.out j h1 h2 (by omega)
        go_wp2
        go_roundw
        case rel => exact ⟨i + 1, by first | rfl | (congr 1; omega) | go_num, rfl, by omega, hb5, hall2⟩
        case measure => first | (simp [intOf]; done) | (simp [intOf]; omega)
set_option maxHeartbeats 6400000 in
set_option maxRecDepth 100000 in
/-- past.Same. -/
theorem SameF_any (w : World) (A A' : Option Addr) (n c n' c' : Nat) (fs gs : List Fv) (hL : LFs w 0 w.heap.size A n fs) (hL' : LFs w 0 w.heap.size A' n' gs) (r : Bool) (hr : sameF fs gs = r) :
  Calls Tryz.prog 112 #[.slice A n c, .slice A' n' c'] w fun e w' => e = .returned (.bool r) ∧ Below w.heap.size w w' := by
 go_enter Tryz.func112, Tryz.ntmps112
 go_wp2_with fail
 refine (EqualFuncF_any w A A' n c n' c' fs gs hL hL' r hr).mono ?_
 rintro e' v1 ⟨rfl, j1⟩
 go_wp2
 go_ret
 exact ⟨rfl, j1⟩
end Ma
end Go.Proofs.YtmbppgjhdcmckaaGreatDoor
namespace Go.Proofs.YtmbppgjhdcmckaaGreatDoor
open Go.RowKit
namespace Ma
open Dp Dy
theorem checkF_no {n : Nat} {fs : List Fv} (h : ¬ 1024 < n) (h2 : mayF (-1) fs = false) : checkF n fs = 8 := by
 unfold checkF
 rw [if_neg h, h2]
 rfl
theorem checkF_ok {n : Nat} {fs : List Fv} (h : ¬ 1024 < n) (h2 : mayF (-1) fs = true) : checkF n fs = 0 := by
 unfold checkF
 rw [if_neg h, h2]
 rfl
set_option maxHeartbeats 12800000 in
set_option maxRecDepth 100000 in
/-- past.Check. -/
theorem CheckF_any (w : World) (A : Option Addr) (n c : Nat) (fs : List Fv) (hL : LFs w 0 w.heap.size A n fs) (k : Int) (hk : checkF n fs = k) :
  Calls Tryz.prog 126 #[.slice A n c] w fun e w' => e = .returned (.int .i64 k) ∧ Below w.heap.size w w' := by
 have HL := Lib.hid hL.len
 have HK := Lib.hid hk
 have hbig := hL.big
 clear hk
 go_enter Tryz.func126, Tryz.ntmps126
 by_cases c1 : 1024 < n
 · have hk' : k = 4 := by rw [← HK.out, checkF, if_pos c1]
   subst hk'
   clear HK
   go_wp2
   go_ret
   exact ⟨rfl, Below.refl _ _⟩
 · go_wp2
   go_loopw [3, 11] (fun lv iv wr => ∃ (i : Nat) (last : Int), iv = .int .i64 i ∧ lv = .int .i64 last ∧ i ≤ n ∧ Below w.heap.size w wr ∧ Hid (mayF (-1) fs = mayF last (fs.drop i))) (fun _ iv _ => n - (intOf iv).toNat)
   case atStart => exact ⟨0, -1, rfl, rfl, Nat.zero_le _, Below.refl _ _, Lib.hid rfl⟩
   case round =>
    obtain ⟨i, last, rfl, rfl, hi1, hb, hmy⟩ := hrel
    by_cases hi : i < n
    rotate_left
    · have hk' : k = 0 := by
        rw [← HK.out]
        exact checkF_ok c1 (by rw [hmy.out]; exact mayF_end (by have := HL.out; omega) _)
      subst hk'
      go_wp2
      go_ret
      exact ⟨rfl, hb⟩
    · have hi2 : i < fs.length := by rw [HL.out]; exact hi
      obtain ⟨b, off, hA, hb1, hb2, hc⟩ := (hL.below hb (Nat.le_refl _)).row (by omega)
      have hci := Lib.hid (hc i hi2)
      have hri := (hL.below hb (Nat.le_refl _)).rows i hi2
      obtain ⟨f, hf⟩ : ∃ f, fs[i] = f := ⟨_, rfl⟩
      have hmy2 : Hid (mayF (-1) fs = (decide (last < f.e ∧ f.e ≤ 65535) && (mayP f.P && mayF f.e (fs.drop (i + 1))))) := Lib.hid (by rw [hmy.out, mayF_drop hi2, hf])
      rw [hf] at hci hri
      have hwrj : IntKind.i64.wrap ((i : Int) + 1) = ((i + 1 : Nat) : Int) := by rw [IntKind.wrap_i64]; omega
      clear hc hf hmy
      subst hA
      have lw := hb.size
      obtain ⟨u1, hu1, f1, j1, s1⟩ := alloc_f wr f
      have rg := hci.out.range
      go_upto_region 7 with (first
       | (refine wpList_load_mid rfl 115 (.tmp 13) rfl b (off + i * 17) rfl [.int .i64 f.e, .bool f.P.M.S.s, .slice f.P.M.S.A f.P.M.S.n f.P.M.S.c, .int .i64 f.P.M.S.e, .bool f.P.M.W.s, .slice f.P.M.W.A f.P.M.W.n f.P.M.W.c, .int .i64 f.P.M.W.e, .bool f.P.M.C.s, .slice f.P.M.C.A f.P.M.C.n f.P.M.C.c, .int .i64 f.P.M.C.e, .bool f.P.M.A.s, .slice f.P.M.A.A f.P.M.A.n f.P.M.A.c, .int .i64 f.P.M.A.e, .bool f.P.h, .int .i64 f.P.mn, .int .i64 f.P.mx, .slice f.P.A f.P.n f.P.c] _ rg Tryz.underlying115 rfl (by kernel_rfl) ?_)
       | (refine wpList_store_new rfl 115 (.tmp 5) (.tmp 14) rfl _ #[.int .i64 f.e, .bool f.P.M.S.s, .slice f.P.M.S.A f.P.M.S.n f.P.M.S.c, .int .i64 f.P.M.S.e, .bool f.P.M.W.s, .slice f.P.M.W.A f.P.M.W.n f.P.M.W.c, .int .i64 f.P.M.W.e, .bool f.P.M.C.s, .slice f.P.M.C.A f.P.M.C.n f.P.M.C.c, .int .i64 f.P.M.C.e, .bool f.P.M.A.s, .slice f.P.M.A.A f.P.M.A.n f.P.M.A.c, .int .i64 f.P.M.A.e, .bool f.P.h, .int .i64 f.P.mn, .int .i64 f.P.mx, .slice f.P.A f.P.n f.P.c] rfl rfl (by kernel_rfl) rfl (all_oneCell_toArray (cells17_one f)) ?_))
      try rw [hu1]
      try clear hu1
      clear rg
      have hb3 := hb.trans (j1.mono lw)
      obtain ⟨⟨k0, k1, k2, k3, k4, k5, k6, k7, k8, k9, k10, k11, k12, k13, k14, k15, k16⟩, kf⟩ := FBox.cell f1
      by_cases a1 : f.e ≤ last
      · have hk' : k = 8 := by
          rw [← HK.out]
          exact checkF_no c1 (by rw [hmy2.out, decide_eq_false (by omega)]; rfl)
        subst hk'
        clear HK hmy2
        go_wp2
        go_ret
        exact ⟨rfl, hb3⟩
      · have d1 : decide (f.e ≤ last) = false := decide_eq_false a1
        by_cases a2 : (65535 : Int) < f.e
        · have hk' : k = 8 := by
            rw [← HK.out]
            exact checkF_no c1 (by rw [hmy2.out, decide_eq_false (by omega)]; rfl)
          subst hk'
          clear HK hmy2
          go_wp2
          go_ret
          exact ⟨rfl, hb3⟩
        · have d2 : decide ((65535 : Int) < f.e) = false := decide_eq_false a2
          obtain ⟨m, hm⟩ : ∃ m, mayP f.P = m := ⟨_, rfl⟩
          have HM := Lib.hid hm
          clear hm
          go_wp2_with fail
          refine (CheckPart_any u1 f.P ((hri.more (Nat.le_refl _) lw).on j1) m HM.out).mono ?_
          rintro e' u2 ⟨rfl, j2⟩
          have hb4 := hb3.trans (j2.mono (by omega))
          have f2 : FBox u2 wr.heap.size f := (j2.block _ s1).trans f1
          clear k0 k1 k2 k3 k4 k5 k6 k7 k8 k9 k10 k11 k12 k13 k14 k15 k16 kf
          have k0 := (FBox.cell f2).1.1
          have kf := (FBox.cell f2).2
          cases m
          · have hk' : k = 8 := by
              rw [← HK.out]
              exact checkF_no c1 (by rw [hmy2.out, HM.out]; simp)
            subst hk'
            clear HK hmy2 HM
            go_wp2
            go_ret
            exact ⟨rfl, hb4⟩
          · have hmy3 : Hid (mayF (-1) fs = mayF f.e (fs.drop (i + 1))) := Lib.hid (by rw [hmy2.out, HM.out, decide_eq_true (by omega)]; simp)
            clear hmy2 HM
            go_wp2
            go_roundw
            case rel => exact ⟨i + 1, f.e, by first | rfl | (congr 1; omega) | go_num, rfl, by omega, hb4, hmy3⟩
            case measure => first | (simp [intOf]; done) | (simp [intOf]; omega)
theorem ask_code {n : Nat} {fs : List Fv} {z k q : Int} (hk : askF n fs z = k) (hq : checkF n fs = q) : (q ≠ 0 → k = q) ∧ (q = 0 → z < 0 ∨ 65535 < z → k = 2) ∧ (q = 0 → ¬ (z < 0 ∨ 65535 < z) → k = 0) := by
 subst hk hq
 unfold askF
 refine ⟨fun h => by rw [if_pos h], fun h h2 => by rw [if_neg (by rw [h]; simp), if_pos h2], fun h h2 => by rw [if_neg (by rw [h]; simp), if_neg h2]⟩
end Ma
end Go.Proofs.YtmbppgjhdcmckaaGreatDoor
namespace Go.Proofs.YtmbppgjhdcmckaaGreatDoor
open Go.RowKit
namespace No
open Ma (Pv PRows sameP valV mayCl mayP checkF)
open NoT (timersC)
open De (mayC)
open Dy
def lastE (v : Nv) : Int := (v.fs[v.fn - 1]?.map (·.e)).getD 0
noncomputable def fault1N (v : Nv) : Bool := !valV v.val || !mayCl v.kl v.kt v.ks v.ke v.kf
noncomputable def fault2N (v : Nv) : Bool := !mayP v.P
noncomputable def fault3N (v : Nv) : Bool := (!takesN v && !sameP v.P Ma.ZPv) || !waitN v
noncomputable def fault4N (v : Nv) : Bool := decide (heardC v.hs ≠ 0) || decide (timersC v.ts ≠ 0)
noncomputable def fault5N (v : Nv) : Bool := !mayC v.own v.cap v.ds || decide (v.own ≠ v.id)
noncomputable def fault6N (v : Nv) : Bool := decide (checkF v.fn v.fs ≠ 0)
noncomputable def fault7N (v : Nv) : Bool := decide (0 < v.fn) && decide (v.ke ≤ lastE v)
theorem bne_dec (a b : Int) : (a != b) = decide (a ≠ b) := by by_cases h : a = b <;> simp [h]
theorem quiet_below8 {P : Program} {F : FuncId} {args : Array Value} {w : World} {v : Value} (h : Calls P F args w fun e w' => e = .returned v ∧ ∃ m, w' = w.drewN m) : Calls P F args w fun e w' => e = .returned v ∧ Below w.heap.size w w' :=
 h.mono fun e w' k => ⟨k.1, by obtain ⟨m, hm⟩ := k.2; rw [hm]; exact below_of_drewN _ _ _⟩
def PtrAt (w : World) (g1 g : Nat) : Prop := w.heap[g1]? = some (.cells #[.pointer (some ⟨g, 0, none⟩)] 105 (0, 0))
set_option maxHeartbeats 12800000 in
set_option maxRecDepth 100000 in
/-- (*node.one).faults$1. -/
theorem fault1_any (w : World) (g1 g : Nat) (v : Nv) (h1 : g1 < w.heap.size) (h2 : g < w.heap.size) (bp : PtrAt w g1 g) (bo : NBox 107 w g v) (_hR : NRows w 0 w.heap.size v) (k : Bool) (hk : fault1N v = k) :
  Calls Tryz.prog 115 #[.pointer (some ⟨g1, 0, none⟩)] w fun e w' => e = .returned (.bool k) ∧ Below w.heap.size w w' := by
 have HK := Lib.hid hk
 clear hk
 obtain ⟨a, ha⟩ : ∃ a, valV v.val = a := ⟨_, rfl⟩
 obtain ⟨b, hb⟩ : ∃ b, mayCl v.kl v.kt v.ks v.ke v.kf = b := ⟨_, rfl⟩
 have HA := Lib.hid ha
 have HB := Lib.hid hb
 clear ha hb
 go_enter Tryz.func115, Tryz.ntmps115
 have pp : w.cell? ⟨g1, 0, none⟩ = some (.pointer (some ⟨g, 0, none⟩)) := cell_of_row w g1 0 _ _ _ bp
 have c1 : w.cell? ⟨g, 1, none⟩ = some (.int .i64 v.val) := NBox.at_ bo 1 _ rfl
 go_wp2_with fail
 refine (Ma.nvalue_any w v.val a HA.out).mono ?_
 rintro e' v1 ⟨rfl, j2⟩
 try clear hw
 clear pp c1
 cases a
 case false =>
  obtain rfl : k = true := by rw [← HK.out]; unfold fault1N; rw [HA.out]; rfl
  go_wp2
  go_ret
  exact ⟨rfl, j2⟩
 have pp : v1.cell? ⟨g1, 0, none⟩ = some (.pointer (some ⟨g, 0, none⟩)) := cell_of_row v1 g1 0 _ _ _ (box_later bp j2 h1)
 have c3 : v1.cell? ⟨g, 3, none⟩ = some (.int .i64 v.kl) := NBox.at_ (box_later bo j2 h2) 3 _ rfl
 have c4 : v1.cell? ⟨g, 4, none⟩ = some (.int .i64 v.kt) := NBox.at_ (box_later bo j2 h2) 4 _ rfl
 have c5 : v1.cell? ⟨g, 5, none⟩ = some (.int .i64 v.ks) := NBox.at_ (box_later bo j2 h2) 5 _ rfl
 have c6 : v1.cell? ⟨g, 6, none⟩ = some (.int .i64 v.ke) := NBox.at_ (box_later bo j2 h2) 6 _ rfl
 have c7 : v1.cell? ⟨g, 7, none⟩ = some (.int .i64 v.kf) := NBox.at_ (box_later bo j2 h2) 7 _ rfl
 go_wp2_with fail
 refine (Ma.epochCheck_any v1 v.kl v.kt v.ks v.ke v.kf b HB.out).mono ?_
 rintro e' v3 ⟨rfl, j4⟩
 try clear hw
 clear pp c3 c4 c5 c6 c7
 cases b
 case false =>
  obtain rfl : k = true := by rw [← HK.out]; unfold fault1N; rw [HA.out, HB.out]; rfl
  go_wp2
  go_ret
  exact ⟨rfl, (later j2 j4)⟩
 obtain rfl : k = false := by rw [← HK.out]; unfold fault1N; rw [HA.out, HB.out]; rfl
 go_wp2
 go_ret
 exact ⟨rfl, (later j2 j4)⟩
set_option maxHeartbeats 12800000 in
set_option maxRecDepth 100000 in
/-- (*node.one).faults$2. -/
theorem fault2_any (w : World) (g1 g : Nat) (v : Nv) (_h1 : g1 < w.heap.size) (_h2 : g < w.heap.size) (bp : PtrAt w g1 g) (bo : NBox 107 w g v) (hR : NRows w 0 w.heap.size v) (k : Bool) (hk : fault2N v = k) :
  Calls Tryz.prog 116 #[.pointer (some ⟨g1, 0, none⟩)] w fun e w' => e = .returned (.bool k) ∧ Below w.heap.size w w' := by
 have HK := Lib.hid hk
 clear hk
 obtain ⟨a, ha⟩ : ∃ a, mayP v.P = a := ⟨_, rfl⟩
 have HA := Lib.hid ha
 clear ha
 go_enter Tryz.func116, Tryz.ntmps116
 have pp : w.cell? ⟨g1, 0, none⟩ = some (.pointer (some ⟨g, 0, none⟩)) := cell_of_row w g1 0 _ _ _ bp
 have ra := NBox.part bo
 go_wp2_with (first
  | (refine wpList_load_mid rfl 30 (.tmp 5) rfl (g) 8 rfl [.bool v.P.M.S.s, .slice v.P.M.S.A v.P.M.S.n v.P.M.S.c, .int .i64 v.P.M.S.e, .bool v.P.M.W.s, .slice v.P.M.W.A v.P.M.W.n v.P.M.W.c, .int .i64 v.P.M.W.e, .bool v.P.M.C.s, .slice v.P.M.C.A v.P.M.C.n v.P.M.C.c, .int .i64 v.P.M.C.e, .bool v.P.M.A.s, .slice v.P.M.A.A v.P.M.A.n v.P.M.A.c, .int .i64 v.P.M.A.e, .bool v.P.h, .int .i64 v.P.mn, .int .i64 v.P.mx, .slice v.P.A v.P.n v.P.c] _ ra Tryz.underlying30 rfl (by kernel_rfl) ?_))
 refine (Ma.CheckPart_any w v.P hR.P a HA.out).mono ?_
 rintro e' v5 ⟨rfl, j6⟩
 try clear hw
 clear ra pp
 cases a
 case false =>
  obtain rfl : k = true := by rw [← HK.out]; unfold fault2N; rw [HA.out]; rfl
  go_wp2
  go_ret
  exact ⟨rfl, j6⟩
 obtain rfl : k = false := by rw [← HK.out]; unfold fault2N; rw [HA.out]; rfl
 go_wp2
 go_ret
 exact ⟨rfl, j6⟩
set_option maxHeartbeats 12800000 in
set_option maxRecDepth 100000 in
/-- (*node.one).faults$3. -/
theorem fault3_any (w : World) (g1 g : Nat) (v : Nv) (h1 : g1 < w.heap.size) (h2 : g < w.heap.size) (bp : PtrAt w g1 g) (bo : NBox 107 w g v) (hR : NRows w 0 w.heap.size v) (k : Bool) (hk : fault3N v = k) :
  Calls Tryz.prog 117 #[.pointer (some ⟨g1, 0, none⟩)] w fun e w' => e = .returned (.bool k) ∧ Below w.heap.size w w' := by
 have HK := Lib.hid hk
 clear hk
 obtain ⟨a, ha⟩ : ∃ a, takesN v = a := ⟨_, rfl⟩
 obtain ⟨b, hb⟩ : ∃ b, sameP v.P Ma.ZPv = b := ⟨_, rfl⟩
 obtain ⟨c, hc⟩ : ∃ c, waitN v = c := ⟨_, rfl⟩
 have HA := Lib.hid ha
 have HB := Lib.hid hb
 have HC := Lib.hid hc
 clear ha hb hc
 go_enter Tryz.func117, Tryz.ntmps117
 have pp : w.cell? ⟨g1, 0, none⟩ = some (.pointer (some ⟨g, 0, none⟩)) := cell_of_row w g1 0 _ _ _ bp
 go_wp2_with fail
 refine (quiet_below8 (takes_any w g v bo a HA.out)).mono ?_
 rintro e' v7 ⟨rfl, j8⟩
 try clear hw
 clear pp
 cases a
 case true =>
  have pp : v7.cell? ⟨g1, 0, none⟩ = some (.pointer (some ⟨g, 0, none⟩)) := cell_of_row v7 g1 0 _ _ _ (box_later bp j8 h1)
  go_wp2_with fail
  refine (quiet_below8 (waits_any v7 g v (box_later bo j8 h2) c HC.out)).mono ?_
  rintro e' v9 ⟨rfl, j10⟩
  try clear hw
  clear pp
  cases c
  case false =>
   obtain rfl : k = true := by rw [← HK.out]; unfold fault3N; rw [HA.out, HC.out]; rfl
   go_wp2
   go_ret
   exact ⟨rfl, (later j8 j10)⟩
  obtain rfl : k = false := by rw [← HK.out]; unfold fault3N; rw [HA.out, HC.out]; rfl
  go_wp2
  go_ret
  exact ⟨rfl, (later j8 j10)⟩
 have pp : v7.cell? ⟨g1, 0, none⟩ = some (.pointer (some ⟨g, 0, none⟩)) := cell_of_row v7 g1 0 _ _ _ (box_later bp j8 h1)
 have ra := NBox.part (box_later bo j8 h2)
 go_wp2_with (first
  | (refine Ma.wpList_load_midG (by rfl) 30 (.tmp 9) rfl (g) 8 rfl [.bool v.P.M.S.s, .slice v.P.M.S.A v.P.M.S.n v.P.M.S.c, .int .i64 v.P.M.S.e, .bool v.P.M.W.s, .slice v.P.M.W.A v.P.M.W.n v.P.M.W.c, .int .i64 v.P.M.W.e, .bool v.P.M.C.s, .slice v.P.M.C.A v.P.M.C.n v.P.M.C.c, .int .i64 v.P.M.C.e, .bool v.P.M.A.s, .slice v.P.M.A.A v.P.M.A.n v.P.M.A.c, .int .i64 v.P.M.A.e, .bool v.P.h, .int .i64 v.P.mn, .int .i64 v.P.mx, .slice v.P.A v.P.n v.P.c] _ ra Tryz.underlying30 rfl (by kernel_rfl) ?_))
 refine (Ma.SamePart_any v7 v.P Ma.ZPv (NRows.on hR j8).P ⟨⟨Ints.nil_ .., Ints.nil_ .., Ints.nil_ .., Ints.nil_ ..⟩, Ints.nil_ ..⟩ b HB.out).mono ?_
 rintro e' v11 ⟨rfl, j12⟩
 try clear hw
 clear ra pp
 cases b
 case false =>
  obtain rfl : k = true := by rw [← HK.out]; unfold fault3N; rw [HA.out, HB.out]; rfl
  go_wp2
  go_ret
  exact ⟨rfl, (later j8 j12)⟩
 have pp : v11.cell? ⟨g1, 0, none⟩ = some (.pointer (some ⟨g, 0, none⟩)) := cell_of_row v11 g1 0 _ _ _ (box_later bp (later j8 j12) h1)
 go_wp2_with fail
 refine (quiet_below8 (waits_any v11 g v (box_later bo (later j8 j12) h2) c HC.out)).mono ?_
 rintro e' v13 ⟨rfl, j14⟩
 try clear hw
 clear pp
 cases c
 case false =>
  obtain rfl : k = true := by rw [← HK.out]; unfold fault3N; rw [HA.out, HB.out, HC.out]; rfl
  go_wp2
  go_ret
  exact ⟨rfl, (later j8 (later j12 j14))⟩
 obtain rfl : k = false := by rw [← HK.out]; unfold fault3N; rw [HA.out, HB.out, HC.out]; rfl
 go_wp2
 go_ret
 exact ⟨rfl, (later j8 (later j12 j14))⟩
set_option maxHeartbeats 12800000 in
set_option maxRecDepth 100000 in
/-- (*node.one).faults$4. -/
theorem fault4_any (w : World) (g1 g : Nat) (v : Nv) (h1 : g1 < w.heap.size) (h2 : g < w.heap.size) (bp : PtrAt w g1 g) (bo : NBox 107 w g v) (hR : NRows w 0 w.heap.size v) (k : Bool) (hk : fault4N v = k) :
  Calls Tryz.prog 120 #[.pointer (some ⟨g1, 0, none⟩)] w fun e w' => e = .returned (.bool k) ∧ Below w.heap.size w w' := by
 have HK := Lib.hid hk
 clear hk
 obtain ⟨a, ha⟩ : ∃ a, heardC v.hs = a := ⟨_, rfl⟩
 obtain ⟨b, hb⟩ : ∃ b, timersC v.ts = b := ⟨_, rfl⟩
 have HA := Lib.hid ha
 have HB := Lib.hid hb
 clear ha hb
 go_enter Tryz.func120, Tryz.ntmps120
 have pp : w.cell? ⟨g1, 0, none⟩ = some (.pointer (some ⟨g, 0, none⟩)) := cell_of_row w g1 0 _ _ _ bp
 have c27 : w.cell? ⟨g, 27, none⟩ = some (.slice v.hA v.hn v.hc) := NBox.at_ bo 27 _ rfl
 go_wp2_with fail
 refine (quiet_below8 (SeenChk_any w 0 w.heap.size v.hA v.hn v.hc v.hs hR.H a HA.out)).mono ?_
 rintro e' v15 ⟨rfl, j16⟩
 try clear hw
 clear pp c27
 obtain ⟨a0, ha0⟩ : ∃ b, (a != 0) = b := ⟨_, rfl⟩
 have HA0 : Hid (decide (heardC v.hs ≠ 0) = a0) := Lib.hid (by rw [HA.out, ← ha0]; exact (bne_dec _ _).symm)
 cases a0
 case true =>
  obtain rfl : k = true := by rw [← HK.out]; unfold fault4N; rw [HA0.out]; rfl
  go_wp2
  go_ret
  exact ⟨rfl, j16⟩
 have pp : v15.cell? ⟨g1, 0, none⟩ = some (.pointer (some ⟨g, 0, none⟩)) := cell_of_row v15 g1 0 _ _ _ (box_later bp j16 h1)
 have c32 : v15.cell? ⟨g, 32, none⟩ = some (.slice v.tA v.tn v.tc) := NBox.at_ (box_later bo j16 h2) 32 _ rfl
 go_wp2_with fail
 refine (NoT.TimerChk_any v15 0 v15.heap.size v.tA v.tn v.tc v.ts (NRows.on hR j16).T (Nat.le_refl _) b HB.out).mono ?_
 rintro e' v17 ⟨rfl, j18⟩
 try clear hw
 clear pp c32
 obtain ⟨b0, hb0⟩ : ∃ c, (b != 0) = c := ⟨_, rfl⟩
 have HB0 : Hid (decide (timersC v.ts ≠ 0) = b0) := Lib.hid (by rw [HB.out, ← hb0]; exact (bne_dec _ _).symm)
 obtain rfl : k = b0 := by rw [← HK.out]; unfold fault4N; rw [HA0.out, HB0.out]; rfl
 go_wp2
 go_ret
 exact ⟨rfl, (later j16 j18)⟩
set_option maxHeartbeats 12800000 in
set_option maxRecDepth 100000 in
/-- (*node.one).faults$5. -/
theorem fault5_any (w : World) (g1 g : Nat) (v : Nv) (h1 : g1 < w.heap.size) (h2 : g < w.heap.size) (bp : PtrAt w g1 g) (bo : NBox 107 w g v) (hR : NRows w 0 w.heap.size v) (k : Bool) (hk : fault5N v = k) :
  Calls Tryz.prog 123 #[.pointer (some ⟨g1, 0, none⟩)] w fun e w' => e = .returned (.bool k) ∧ Below w.heap.size w w' := by
 have HK := Lib.hid hk
 clear hk
 obtain ⟨a, ha⟩ : ∃ a, mayC v.own v.cap v.ds = a := ⟨_, rfl⟩
 obtain ⟨b, hb⟩ : ∃ b, (v.own != v.id) = b := ⟨_, rfl⟩
 have HA := Lib.hid ha
 have HB : Hid (decide (v.own ≠ v.id) = b) := Lib.hid (by rw [← hb]; exact (bne_dec _ _).symm)
 clear ha
 go_enter Tryz.func123, Tryz.ntmps123
 go_upto_region 1 with fail
 try clear hw
 refine region_E (Keeps w) [] (m := 22) (L := #[zF,zF,zF,zF,zF,zF,zF,zF,zF,zF,zF,zF,zF,zF,zF,zF,zF,zF,zF,zF,zF,zF]) (by kernel_rfl) (by rfl) (by rfl) ?_
 have j20 : Below w.heap.size w w.drew := (Below.refl _ _).drew
 generalize w.drew = v19 at *
 have kpy21 : Keeps w v19 := fun p hp => Below.block j20 p hp
 refine readE (i := 0) (L := #[zT,zF,zF,zF,zF,zF,zF,zF,zF,zF,zF,zF,zF,zF,zF,zF,zF,zF,zF,zF,zF,zF]) (v := .pointer (some ⟨g, 0, none⟩)) rfl (by rfl) (by kernel_rfl) (by kernel_rfl) (by kernel_rfl) (fun _ _ _ h => h) (by assumption) (by rfl) ?y21 ?z22
 case y21 =>
  intro w' h_
  have k_ : w'.cell? ⟨g1, 0, none⟩ = some (.pointer (some ⟨g, 0, none⟩)) := cell_of_row w' g1 0 _ _ _ ((h_ _ h1).trans bp)
  go_simp
 try simp only [Act.put, zp]
 refine zE 1 #[zT,zT,zF,zF,zF,zF,zF,zF,zF,zF,zF,zF,zF,zF,zF,zF,zF,zF,zF,zF,zF,zF] ?_ rfl ?hy2 ?rest2
 case hy2 => intro w; go_simp; (try with_reducible rfl)
 try simp only [Act.put, zp]
 refine zE 2 #[zT,zT,zT,zF,zF,zF,zF,zF,zF,zF,zF,zF,zF,zF,zF,zF,zF,zF,zF,zF,zF,zF] ?_ rfl ?hy3 ?rest3
 case hy3 => intro w; go_simp; (try with_reducible rfl)
 try simp only [Act.put, zp]
 refine zE 3 #[zT,zT,zT,zT,zF,zF,zF,zF,zF,zF,zF,zF,zF,zF,zF,zF,zF,zF,zF,zF,zF,zF] ?_ rfl ?hy4 ?rest4
 case hy4 => intro w; go_simp; (try with_reducible rfl)
 try simp only [Act.put, zp]
 have kpy23 : Keeps w v19 := fun p hp => Below.block j20 p hp
 refine readE (i := 4) (L := #[zT,zT,zT,zT,zT,zF,zF,zF,zF,zF,zF,zF,zF,zF,zF,zF,zF,zF,zF,zF,zF,zF]) (v := .agg #[.int .i64 v.own, .int .i64 v.cap, .slice v.dA v.dn v.dc]) rfl (by rfl) (by kernel_rfl) (by kernel_rfl) (by kernel_rfl) (fun _ _ _ h => h) (by assumption) (by rfl) ?y23 ?z24
 case y23 =>
  intro w' h_
  exact Ma.run_load_op 59 (.tmp 5) rfl g 28 rfl (cells3C v) _ (NBox.cache (t := 107) ((h_ _ h2).trans bo)) Tryz.underlying59 rfl (by kernel_rfl)
 try simp only [Act.put, zp]
 refine stepK (i := 5) (L := #[zT,zT,zT,zT,zT,zT,zF,zF,zF,zF,zF,zF,zF,zF,zF,zF,zF,zF,zF,zF,zF,zF]) rfl (by rfl) (by kernel_rfl) (by rfl) (fun K hK => ?_)
 go_simp
 go_at_call 124
 refine ((De.CheckC_any v19 v.own v.cap v.dA v.dn v.dc v.ds (NRows.on hR j20).D (if a = true then 0 else 8) (by rw [HA.out])).mono (fun _ _ h => And.intro h.1 h.2.1)).mono ?_
 rintro e' v25 ⟨rfl, j26⟩
 refine hK _ _ ⟨fun _ _ => fun p hp => Below.block (later j20 j26) p hp, ?_⟩
 clear hK K
 try simp only [Act.put, zp]
 cases a
 · skip
   refine zE 6 #[zT,zT,zT,zT,zT,zT,zT,zF,zF,zF,zF,zF,zF,zF,zF,zF,zF,zF,zF,zF,zF,zF] ?_ rfl ?hy7 ?rest7
   case hy7 => intro w; go_simp; (try with_reducible rfl)
   try simp only [Act.put, zp]
   refine zE 7 #[zT,zT,zT,zT,zT,zT,zT,zT,zF,zF,zF,zF,zF,zF,zF,zF,zF,zF,zF,zF,zF,zF] ?_ rfl ?hy8 ?rest8
   case hy8 => intro w; go_simp; (try with_reducible rfl)
   try simp only [Act.put, zp]
   refine skipE (i := 8) (L := #[zT,zT,zT,zT,zT,zT,zT,zT,zT,zF,zF,zF,zF,zF,zF,zF,zF,zF,zF,zF,zF,zF]) rfl (by rfl) (by kernel_rfl) (by kernel_rfl) (by kernel_rfl) (fun _ _ _ h => h) (by rfl) ?_
   try simp only [Act.put, zp]
   refine skipE (i := 9) (L := #[zT,zT,zT,zT,zT,zT,zT,zT,zT,zT,zF,zF,zF,zF,zF,zF,zF,zF,zF,zF,zF,zF]) rfl (by rfl) (by kernel_rfl) (by kernel_rfl) (by kernel_rfl) (fun _ _ _ h => h) (by rfl) ?_
   try simp only [Act.put, zp]
   refine skipE (i := 10) (L := #[zT,zT,zT,zT,zT,zT,zT,zT,zT,zT,zT,zF,zF,zF,zF,zF,zF,zF,zF,zF,zF,zF]) rfl (by rfl) (by kernel_rfl) (by kernel_rfl) (by kernel_rfl) (fun _ _ _ h => h) (by rfl) ?_
   try simp only [Act.put, zp]
   refine skipE (i := 11) (L := #[zT,zT,zT,zT,zT,zT,zT,zT,zT,zT,zT,zT,zF,zF,zF,zF,zF,zF,zF,zF,zF,zF]) rfl (by rfl) (by kernel_rfl) (by kernel_rfl) (by kernel_rfl) (fun _ _ _ h => h) (by rfl) ?_
   try simp only [Act.put, zp]
   refine skipE (i := 12) (L := #[zT,zT,zT,zT,zT,zT,zT,zT,zT,zT,zT,zT,zT,zF,zF,zF,zF,zF,zF,zF,zF,zF]) rfl (by rfl) (by kernel_rfl) (by kernel_rfl) (by kernel_rfl) (fun _ _ _ h => h) (by rfl) ?_
   try simp only [Act.put, zp]
   refine skipE (i := 13) (L := #[zT,zT,zT,zT,zT,zT,zT,zT,zT,zT,zT,zT,zT,zT,zF,zF,zF,zF,zF,zF,zF,zF]) rfl (by rfl) (by kernel_rfl) (by kernel_rfl) (by kernel_rfl) (fun _ _ _ h => h) (by rfl) ?_
   try simp only [Act.put, zp]
   refine skipE (i := 14) (L := #[zT,zT,zT,zT,zT,zT,zT,zT,zT,zT,zT,zT,zT,zT,zT,zF,zF,zF,zF,zF,zF,zF]) rfl (by rfl) (by kernel_rfl) (by kernel_rfl) (by kernel_rfl) (fun _ _ _ h => h) (by rfl) ?_
   try simp only [Act.put, zp]
   refine skipE (i := 15) (L := #[zT,zT,zT,zT,zT,zT,zT,zT,zT,zT,zT,zT,zT,zT,zT,zT,zF,zF,zF,zF,zF,zF]) rfl (by rfl) (by kernel_rfl) (by kernel_rfl) (by kernel_rfl) (fun _ _ _ h => h) (by rfl) ?_
   try simp only [Act.put, zp]
   refine skipE (i := 16) (L := #[zT,zT,zT,zT,zT,zT,zT,zT,zT,zT,zT,zT,zT,zT,zT,zT,zT,zF,zF,zF,zF,zF]) rfl (by rfl) (by kernel_rfl) (by kernel_rfl) (by kernel_rfl) (fun _ _ _ h => h) (by rfl) ?_
   try simp only [Act.put, zp]
   refine skipE (i := 17) (L := #[zT,zT,zT,zT,zT,zT,zT,zT,zT,zT,zT,zT,zT,zT,zT,zT,zT,zT,zF,zF,zF,zF]) rfl (by rfl) (by kernel_rfl) (by kernel_rfl) (by kernel_rfl) (fun _ _ _ h => h) (by rfl) ?_
   try simp only [Act.put, zp]
   refine skipE (i := 18) (L := #[zT,zT,zT,zT,zT,zT,zT,zT,zT,zT,zT,zT,zT,zT,zT,zT,zT,zT,zT,zF,zF,zF]) rfl (by rfl) (by kernel_rfl) (by kernel_rfl) (by kernel_rfl) (fun _ _ _ h => h) (by rfl) ?_
   try simp only [Act.put, zp]
   refine skipE (i := 19) (L := #[zT,zT,zT,zT,zT,zT,zT,zT,zT,zT,zT,zT,zT,zT,zT,zT,zT,zT,zT,zT,zF,zF]) rfl (by rfl) (by kernel_rfl) (by kernel_rfl) (by kernel_rfl) (fun _ _ _ h => h) (by rfl) ?_
   try simp only [Act.put, zp]
   refine zE 20 #[zT,zT,zT,zT,zT,zT,zT,zT,zT,zT,zT,zT,zT,zT,zT,zT,zT,zT,zT,zT,zT,zF] ?_ rfl ?hy9 ?rest9
   case hy9 => intro w; go_simp; (try with_reducible rfl)
   try simp only [Act.put, zp]
   refine zE 21 #[zT,zT,zT,zT,zT,zT,zT,zT,zT,zT,zT,zT,zT,zT,zT,zT,zT,zT,zT,zT,zT,zT] ?_ rfl ?hy10 ?rest10
   case hy10 => intro w; go_simp; (try with_reducible rfl)
   try simp only [Act.put, zp]
   refine doneE (by kernel_rfl) ?_ _
   obtain rfl : k = true := by rw [← HK.out]; unfold fault5N; rw [HA.out]; rfl
   go_wp2
   go_ret
   exact ⟨rfl, (later j20 j26)⟩
 · skip
   refine zE 6 #[zT,zT,zT,zT,zT,zT,zT,zF,zF,zF,zF,zF,zF,zF,zF,zF,zF,zF,zF,zF,zF,zF] ?_ rfl ?hy11 ?rest11
   case hy11 => intro w; go_simp; (try with_reducible rfl)
   try simp only [Act.put, zp]
   refine zE 7 #[zT,zT,zT,zT,zT,zT,zT,zT,zF,zF,zF,zF,zF,zF,zF,zF,zF,zF,zF,zF,zF,zF] ?_ rfl ?hy12 ?rest12
   case hy12 => intro w; go_simp; (try with_reducible rfl)
   try simp only [Act.put, zp]
   have kpy27 : Keeps w v25 := fun p hp => Below.block (later j20 j26) p hp
   refine readE (i := 8) (L := #[zT,zT,zT,zT,zT,zT,zT,zT,zT,zF,zF,zF,zF,zF,zF,zF,zF,zF,zF,zF,zF,zF]) (v := .pointer (some ⟨g, 0, none⟩)) rfl (by rfl) (by kernel_rfl) (by kernel_rfl) (by kernel_rfl) (fun _ _ _ h => h) (by assumption) (by rfl) ?y27 ?z28
   case y27 =>
    intro w' h_
    have k_ : w'.cell? ⟨g1, 0, none⟩ = some (.pointer (some ⟨g, 0, none⟩)) := cell_of_row w' g1 0 _ _ _ ((h_ _ h1).trans bp)
    go_simp
   try simp only [Act.put, zp]
   refine zE 9 #[zT,zT,zT,zT,zT,zT,zT,zT,zT,zT,zF,zF,zF,zF,zF,zF,zF,zF,zF,zF,zF,zF] ?_ rfl ?hy14 ?rest14
   case hy14 => intro w; go_simp; (try with_reducible rfl)
   try simp only [Act.put, zp]
   refine zE 10 #[zT,zT,zT,zT,zT,zT,zT,zT,zT,zT,zT,zF,zF,zF,zF,zF,zF,zF,zF,zF,zF,zF] ?_ rfl ?hy15 ?rest15
   case hy15 => intro w; go_simp; (try with_reducible rfl)
   try simp only [Act.put, zp]
   refine zE 11 #[zT,zT,zT,zT,zT,zT,zT,zT,zT,zT,zT,zT,zF,zF,zF,zF,zF,zF,zF,zF,zF,zF] ?_ rfl ?hy16 ?rest16
   case hy16 => intro w; go_simp; (try with_reducible rfl)
   try simp only [Act.put, zp]
   refine zE 12 #[zT,zT,zT,zT,zT,zT,zT,zT,zT,zT,zT,zT,zT,zF,zF,zF,zF,zF,zF,zF,zF,zF] ?_ rfl ?hy17 ?rest17
   case hy17 => intro w; go_simp; (try with_reducible rfl)
   try simp only [Act.put, zp]
   have kpy29 : Keeps w v25 := fun p hp => Below.block (later j20 j26) p hp
   refine readE (i := 13) (L := #[zT,zT,zT,zT,zT,zT,zT,zT,zT,zT,zT,zT,zT,zT,zF,zF,zF,zF,zF,zF,zF,zF]) (v := .int .i64 v.own) rfl (by rfl) (by kernel_rfl) (by kernel_rfl) (by kernel_rfl) (fun _ _ _ h => h) (by assumption) (by rfl) ?y29 ?z30
   case y29 =>
    intro w' h_
    have k_ : w'.cell? ⟨g, 28, none⟩ = some (.int .i64 v.own) := NBox.at_ (t := 107) ((h_ _ h2).trans bo) 28 _ rfl
    go_simp
   try simp only [Act.put, zp]
   have kpy31 : Keeps w v25 := fun p hp => Below.block (later j20 j26) p hp
   refine readE (i := 14) (L := #[zT,zT,zT,zT,zT,zT,zT,zT,zT,zT,zT,zT,zT,zT,zT,zF,zF,zF,zF,zF,zF,zF]) (v := .pointer (some ⟨g, 0, none⟩)) rfl (by rfl) (by kernel_rfl) (by kernel_rfl) (by kernel_rfl) (fun _ _ _ h => h) (by assumption) (by rfl) ?y31 ?z32
   case y31 =>
    intro w' h_
    have k_ : w'.cell? ⟨g1, 0, none⟩ = some (.pointer (some ⟨g, 0, none⟩)) := cell_of_row w' g1 0 _ _ _ ((h_ _ h1).trans bp)
    go_simp
   try simp only [Act.put, zp]
   refine zE 15 #[zT,zT,zT,zT,zT,zT,zT,zT,zT,zT,zT,zT,zT,zT,zT,zT,zF,zF,zF,zF,zF,zF] ?_ rfl ?hy20 ?rest20
   case hy20 => intro w; go_simp; (try with_reducible rfl)
   try simp only [Act.put, zp]
   refine zE 16 #[zT,zT,zT,zT,zT,zT,zT,zT,zT,zT,zT,zT,zT,zT,zT,zT,zT,zF,zF,zF,zF,zF] ?_ rfl ?hy21 ?rest21
   case hy21 => intro w; go_simp; (try with_reducible rfl)
   try simp only [Act.put, zp]
   refine zE 17 #[zT,zT,zT,zT,zT,zT,zT,zT,zT,zT,zT,zT,zT,zT,zT,zT,zT,zT,zF,zF,zF,zF] ?_ rfl ?hy22 ?rest22
   case hy22 => intro w; go_simp; (try with_reducible rfl)
   try simp only [Act.put, zp]
   have kpy33 : Keeps w v25 := fun p hp => Below.block (later j20 j26) p hp
   refine readE (i := 18) (L := #[zT,zT,zT,zT,zT,zT,zT,zT,zT,zT,zT,zT,zT,zT,zT,zT,zT,zT,zT,zF,zF,zF]) (v := .int .i64 v.id) rfl (by rfl) (by kernel_rfl) (by kernel_rfl) (by kernel_rfl) (fun _ _ _ h => h) (by assumption) (by rfl) ?y33 ?z34
   case y33 =>
    intro w' h_
    have k_ : w'.cell? ⟨g, 0, none⟩ = some (.int .i64 v.id) := NBox.at_ (t := 107) ((h_ _ h2).trans bo) 0 _ rfl
    go_simp
   try simp only [Act.put, zp]
   refine zE 19 #[zT,zT,zT,zT,zT,zT,zT,zT,zT,zT,zT,zT,zT,zT,zT,zT,zT,zT,zT,zT,zF,zF] ?_ rfl ?hy24 ?rest24
   case hy24 => intro w; go_simp; (try with_reducible rfl)
   try simp only [Act.put, zp]
   refine zE 20 #[zT,zT,zT,zT,zT,zT,zT,zT,zT,zT,zT,zT,zT,zT,zT,zT,zT,zT,zT,zT,zT,zF] ?_ rfl ?hy25 ?rest25
   case hy25 => intro w; go_simp; (try with_reducible rfl)
   try simp only [Act.put, zp]
   refine zE 21 #[zT,zT,zT,zT,zT,zT,zT,zT,zT,zT,zT,zT,zT,zT,zT,zT,zT,zT,zT,zT,zT,zT] ?_ rfl ?hy26 ?rest26
   case hy26 => intro w; go_simp; (try with_reducible rfl)
   try simp only [Act.put, zp]
   refine doneE (by kernel_rfl) ?_ _
   obtain rfl : k = b := by rw [← HK.out]; unfold fault5N; rw [HA.out, HB.out]; rfl
   go_wp2
   go_ret
   exact ⟨rfl, (later j20 j26)⟩
set_option maxHeartbeats 12800000 in
set_option maxRecDepth 100000 in
/-- (*node.one).faults$6. -/
theorem fault6_any (w : World) (g1 g : Nat) (v : Nv) (_h1 : g1 < w.heap.size) (_h2 : g < w.heap.size) (bp : PtrAt w g1 g) (bo : NBox 107 w g v) (hR : NRows w 0 w.heap.size v) (k : Bool) (hk : fault6N v = k) :
  Calls Tryz.prog 125 #[.pointer (some ⟨g1, 0, none⟩)] w fun e w' => e = .returned (.bool k) ∧ Below w.heap.size w w' := by
 have HK := Lib.hid hk
 clear hk
 obtain ⟨a, ha⟩ : ∃ a, checkF v.fn v.fs = a := ⟨_, rfl⟩
 have HA := Lib.hid ha
 clear ha
 go_enter Tryz.func125, Tryz.ntmps125
 have pp : w.cell? ⟨g1, 0, none⟩ = some (.pointer (some ⟨g, 0, none⟩)) := cell_of_row w g1 0 _ _ _ bp
 have c31 : w.cell? ⟨g, 31, none⟩ = some (.slice v.fA v.fn v.fc) := NBox.at_ bo 31 _ rfl
 go_wp2_with fail
 refine (Ma.CheckF_any w v.fA v.fn v.fc v.fs hR.F a HA.out).mono ?_
 rintro e' v35 ⟨rfl, j36⟩
 try clear hw
 clear pp c31
 obtain ⟨a0, ha0⟩ : ∃ b, (a != 0) = b := ⟨_, rfl⟩
 have HA0 : Hid (decide (checkF v.fn v.fs ≠ 0) = a0) := Lib.hid (by rw [HA.out, ← ha0]; exact (bne_dec _ _).symm)
 obtain rfl : k = a0 := by rw [← HK.out]; unfold fault6N; rw [HA0.out]
 go_wp2
 go_ret
 exact ⟨rfl, j36⟩
set_option maxHeartbeats 12800000 in
set_option maxRecDepth 100000 in
/-- (*node.one).faults$7. -/
theorem fault7_any (w : World) (g1 g : Nat) (v : Nv) (bp : PtrAt w g1 g) (bo : NBox 107 w g v) (hR : NRows w 0 w.heap.size v) (k : Bool) (hk : fault7N v = k) :
  Calls Tryz.prog 127 #[.pointer (some ⟨g1, 0, none⟩)] w fun e w' => e = .returned (.bool k) ∧ Below w.heap.size w w' := by
 have HK := Lib.hid hk
 have pp : w.cell? ⟨g1, 0, none⟩ = some (.pointer (some ⟨g, 0, none⟩)) := cell_of_row w g1 0 _ _ _ bp
 have c6 : w.cell? ⟨g, 6, none⟩ = some (.int .i64 v.ke) := NBox.at_ bo 6 _ rfl
 have c31 : w.cell? ⟨g, 31, none⟩ = some (.slice v.fA v.fn v.fc) := NBox.at_ bo 31 _ rfl
 have HL := Lib.hid hR.F.len
 have hbig := hR.F.big
 clear hk
 by_cases h0 : 0 < v.fn
 · obtain ⟨b, o_, hA, _, _, hc⟩ := hR.F.row h0
   have hlt : v.fn - 1 < v.fs.length := by rw [HL.out]; omega
   have ce := (hc (v.fn - 1) hlt).1
   have hle : Hid (lastE v = (v.fs[v.fn - 1]'hlt).e) := Lib.hid (by unfold lastE; rw [List.getElem?_eq_getElem hlt]; rfl)
   have hks : IntKind.i64.wrap ((v.fn : Int) - 1) = ((v.fn - 1 : Nat) : Int) := by rw [IntKind.wrap_i64]; omega
   have hkq : (((v.fn - 1 : Nat) : Int)) < v.fn := by omega
   have hkr : (0 : Int) ≤ ((v.fn - 1 : Nat) : Int) := by omega
   generalize (v.fs[v.fn - 1]'hlt).e = E at ce hle
   clear hc hlt
   rw [hA] at c31
   generalize hkk : v.fn - 1 = q at *
   have hdk : k = decide (v.ke ≤ E) := by
    have h := HK.out
    rw [← h]
    unfold fault7N
    rw [hle.out, decide_eq_true h0]
    rfl
   have HKd := Lib.hid hdk
   clear hdk
   go_enter Tryz.func127, Tryz.ntmps127
   go_wp2
   go_quiet (fail)
   go_wp2
   go_ret
   exact ⟨by rw [HKd.out]; rfl, below_of_drewN _ _ _⟩
 · have hd := decide_eq_false h0
   obtain rfl : k = false := by
    have h := HK.out
    rw [← h]
    unfold fault7N
    rw [hd]
    rfl
   go_enter Tryz.func127, Tryz.ntmps127
   go_wp2
   go_quiet (fail)
   go_wp2
   go_ret
   exact ⟨rfl, below_of_drewN _ _ _⟩
end No
end Go.Proofs.YtmbppgjhdcmckaaGreatDoor