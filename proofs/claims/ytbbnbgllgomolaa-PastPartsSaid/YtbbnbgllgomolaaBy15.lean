/- Getting: past.Get and its reference: walks (printed by a program of mine). -/
/- Those before: past.Before and its reference: walks (printed by a program of mine). -/
/- What the law PastTells needs besides: sizes, and what stays where others are spoilt. -/
import Derived.Test.YtbbnbgllgomolaaBy13
import Derived.Test.YtbbnbgllgomolaaBy14
import Derived.Test.YtbbnbgllgomolaaBy11
namespace Go.Proofs.Ytbbnbgllgomolaa
open Go.RowKit
namespace Ma
open Dp Dy
theorem get_code {n : Nat} {fs : List Fv} {z k c : Int} {i : Nat} (hk : getF n fs z = k) (hc : askF n fs z = c) (hi : (if c = 0 then aheadF fs z else 0) = i) (hl : fs.length = n) :
  (c ≠ 0 → k = c) ∧ (c = 0 → i = n → k = 6) ∧ (c = 0 → ∀ h : i < fs.length, (fs[i].e ≠ z → k = 6) ∧ (fs[i].e = z → k = 0)) := by
 subst hk hc
 unfold getF
 refine ⟨fun h => by rw [if_pos h], fun h h1 => ?_, fun h h1 => ⟨fun h2 => ?_, fun h2 => ?_⟩⟩
 · rw [if_pos h] at hi
   rw [if_neg (by rw [h]; simp), hi, List.getElem?_eq_none (by omega)]
 · rw [if_pos h] at hi
   rw [if_neg (by rw [h]; simp), hi, List.getElem?_eq_getElem h1]
   simp only
   rw [if_neg h2]
 · rw [if_pos h] at hi
   rw [if_neg (by rw [h]; simp), hi, List.getElem?_eq_getElem h1]
   simp only
   rw [if_pos h2]
set_option maxHeartbeats 25600000 in
set_option maxRecDepth 100000 in
/-- past.Get. -/
theorem Get_any (w : World) (A : Option Addr) (n c : Nat) (fs : List Fv) (hL : LFs w 0 w.heap.size A n fs) (z : Int) (hs : ∀ j (h : j < fs.length), (∀ x, x < 4 → (fs[j].P.M.get x).n ≤ 1000000) ∧ fs[j].P.n ≤ 1000000) (k : Int) (hk : getF n fs z = k) :
  Calls Try.prog 26 #[.slice A n c, .int .i64 z] w fun e w' => ∃ q : Pv, e = .returned (.tuple #[.agg #[.bool q.M.S.s, .slice q.M.S.A q.M.S.n q.M.S.c, .int .i64 q.M.S.e, .bool q.M.W.s, .slice q.M.W.A q.M.W.n q.M.W.c, .int .i64 q.M.W.e, .bool q.M.C.s, .slice q.M.C.A q.M.C.n q.M.C.c, .int .i64 q.M.C.e, .bool q.M.A.s, .slice q.M.A.A q.M.A.n q.M.A.c, .int .i64 q.M.A.e, .bool q.h, .int .i64 q.mn, .int .i64 q.mx, .slice q.A q.n q.c], .int .i64 k]) ∧ TwinP (gotF k fs z) q ∧ Below w.heap.size w w' ∧ PRows w' w.heap.size w'.heap.size q := by
 obtain ⟨w1, hw, bZ, j1, S1⟩ := alloc_zp w
 have lw1 := j1.size
 have HS := Lib.hid hs
 have HL := Lib.hid hL.len
 obtain ⟨c0, hc0⟩ : ∃ c, askF n fs z = c := ⟨_, rfl⟩
 obtain ⟨i, hi⟩ : ∃ i, (if c0 = 0 then aheadF fs z else 0) = i := ⟨_, rfl⟩
 have HC := Lib.hid (get_code hk hc0 hi hL.len)
 have H0 := Lib.hid hc0
 have HI := Lib.hid hi
 have hin : i ≤ n := by
  have := aheadF_le fs z
  rw [hL.len] at this
  rw [← hi]
  split
  · exact this
  · exact Nat.zero_le _
 clear hk hc0 hi hs
 go_enter Try.func26, Try.ntmps26
 go_wp2_with fail
 refine (place_any w1 A n c fs (LFs.on hL j1) z c0 H0.out i HI.out).mono ?_
 rintro e' v1 ⟨rfl, j2⟩
 try clear hw
 by_cases h0 : c0 = 0
 rotate_left
 · skip
   obtain rfl := HC.out.1 h0
   have n0 : (k != 0) = true := by simpa using h0
   clear HC H0 HI
   have bz_ : PBox v1 (w.heap.size) ZPv := (box_later bZ j2 S1)
   obtain ⟨U_, hU_, bU_, hb_, hf_, l5_, l5'_⟩ := part_into bz_ ZPv
   have th_ := bz_.there
   replace hU_ : v1.setCells (w.heap.size) 0 (#[.bool false, .slice none 0 0, .int .i64 0, .bool false, .slice none 0 0, .int .i64 0, .bool false, .slice none 0 0, .int .i64 0, .bool false, .slice none 0 0, .int .i64 0, .bool false, .int .i64 0, .int .i64 0, .slice none 0 0] : Array Value).toList = U_ := hU_
   have HU_ := Lib.hid hU_
   clear hU_
   have fin_ := hb_ _ _ (later j1 j2) (by omega)
   go_wp2_with (first | (refine wpList_store_mid rfl 31 (.tmp 4) (.tmp 16) rfl (w.heap.size) 0 #[.bool false, .slice none 0 0, .int .i64 0, .bool false, .slice none 0 0, .int .i64 0, .bool false, .slice none 0 0, .int .i64 0, .bool false, .slice none 0 0, .int .i64 0, .bool false, .int .i64 0, .int .i64 0, .slice none 0 0] rfl rfl th_ (by kernel_rfl) (all_oneCell_toArray (cells16_one ZPv)) ?_; rw [HU_.out]))
   obtain ⟨Z_, hZ_⟩ : ∃ q : Pv, q = ZPv := ⟨_, rfl⟩
   rw [← hZ_] at bU_
   exact bodyPost_ret (results_row_slot Try.results26 _ _ (w.heap.size) 31 #[.bool Z_.M.S.s, .slice Z_.M.S.A Z_.M.S.n Z_.M.S.c, .int .i64 Z_.M.S.e, .bool Z_.M.W.s, .slice Z_.M.W.A Z_.M.W.n Z_.M.W.c, .int .i64 Z_.M.W.e, .bool Z_.M.C.s, .slice Z_.M.C.A Z_.M.C.n Z_.M.C.c, .int .i64 Z_.M.C.e, .bool Z_.M.A.s, .slice Z_.M.A.A Z_.M.A.n Z_.M.A.c, .int .i64 Z_.M.A.e, .bool Z_.h, .int .i64 Z_.mn, .int .i64 Z_.mx, .slice Z_.A Z_.n Z_.c] (0, 0) _ (.int .i64 k) rfl rfl bU_ Try.underlying31 rfl (by kernel_rfl)) rfl ⟨Z_, rfl, by rw [hZ_]; exact gotF_no h0 _ _, fin_, by rw [hZ_]; exact rowsZ _ _ _⟩
 · skip
   subst h0
   have HC2 := Lib.hid (HC.out.2.1 rfl)
   have HC3 := Lib.hid (HC.out.2.2 rfl)
   have HI2 : Hid (aheadF fs z = i) := Lib.hid (by have := HI.out; rw [if_pos rfl] at this; exact this)
   clear HC H0 HI
   by_cases h1 : i = n
   · skip
     obtain rfl := HC2.out h1
     have e1 : ((i : Int) == (n : Int)) = true := by rw [h1]; exact beq_self_eq_true _
     clear HC2 HC3 HI2 h1
     have bz_ : PBox v1 (w.heap.size) ZPv := (box_later bZ j2 S1)
     obtain ⟨U_, hU_, bU_, hb_, hf_, l5_, l5'_⟩ := part_into bz_ ZPv
     have th_ := bz_.there
     replace hU_ : v1.setCells (w.heap.size) 0 (#[.bool false, .slice none 0 0, .int .i64 0, .bool false, .slice none 0 0, .int .i64 0, .bool false, .slice none 0 0, .int .i64 0, .bool false, .slice none 0 0, .int .i64 0, .bool false, .int .i64 0, .int .i64 0, .slice none 0 0] : Array Value).toList = U_ := hU_
     have HU_ := Lib.hid hU_
     clear hU_
     have fin_ := hb_ _ _ (later j1 j2) (by omega)
     go_wp2_with (first | (refine wpList_store_mid rfl 31 (.tmp 4) (.tmp 31) rfl (w.heap.size) 0 #[.bool false, .slice none 0 0, .int .i64 0, .bool false, .slice none 0 0, .int .i64 0, .bool false, .slice none 0 0, .int .i64 0, .bool false, .slice none 0 0, .int .i64 0, .bool false, .int .i64 0, .int .i64 0, .slice none 0 0] rfl rfl th_ (by kernel_rfl) (all_oneCell_toArray (cells16_one ZPv)) ?_; rw [HU_.out]))
     obtain ⟨Z_, hZ_⟩ : ∃ q : Pv, q = ZPv := ⟨_, rfl⟩
     rw [← hZ_] at bU_
     exact bodyPost_ret (results_row_slot Try.results26 _ _ (w.heap.size) 31 #[.bool Z_.M.S.s, .slice Z_.M.S.A Z_.M.S.n Z_.M.S.c, .int .i64 Z_.M.S.e, .bool Z_.M.W.s, .slice Z_.M.W.A Z_.M.W.n Z_.M.W.c, .int .i64 Z_.M.W.e, .bool Z_.M.C.s, .slice Z_.M.C.A Z_.M.C.n Z_.M.C.c, .int .i64 Z_.M.C.e, .bool Z_.M.A.s, .slice Z_.M.A.A Z_.M.A.n Z_.M.A.c, .int .i64 Z_.M.A.e, .bool Z_.h, .int .i64 Z_.mn, .int .i64 Z_.mx, .slice Z_.A Z_.n Z_.c] (0, 0) _ (.int .i64 6) rfl rfl bU_ Try.underlying31 rfl (by kernel_rfl)) rfl ⟨Z_, rfl, by rw [hZ_]; exact gotF_no (by decide) _ _, fin_, by rw [hZ_]; exact rowsZ _ _ _⟩
   · skip
     have hif : i < fs.length := by have := HL.out; omega
     have hil : i < n := by omega
     have e1 : ((i : Int) == (n : Int)) = false := by
      have : (i : Int) ≠ (n : Int) := by omega
      simpa using this
     have hLz := (LFs.on hL (later j1 j2))
     obtain ⟨b, off, hA, hb1, hb2, hc⟩ := hLz.row (by omega)
     have hci := Lib.hid (hc i hif)
     have hri := hLz.rows i hif
     have hsz := Lib.hid (HS.out i hif)
     have HC4 := Lib.hid (HC3.out hif)
     obtain ⟨f, hf⟩ : ∃ f, fs[i] = f := ⟨_, rfl⟩
     rw [hf] at hci hri hsz HC4
     have HF := Lib.hid hf
     clear hc hf HC3
     subst hA
     have k_ := hci.out.1
     by_cases h2 : f.e = z
     rotate_left
     · skip
       obtain rfl := HC4.out.1 h2
       have e2 : (f.e != z) = true := by simpa using h2
       clear HC2 HC4 HI2
       have bz_ : PBox v1 (w.heap.size) ZPv := (box_later bZ j2 S1)
       obtain ⟨U_, hU_, bU_, hb_, hf_, l5_, l5'_⟩ := part_into bz_ ZPv
       have th_ := bz_.there
       replace hU_ : v1.setCells (w.heap.size) 0 (#[.bool false, .slice none 0 0, .int .i64 0, .bool false, .slice none 0 0, .int .i64 0, .bool false, .slice none 0 0, .int .i64 0, .bool false, .slice none 0 0, .int .i64 0, .bool false, .int .i64 0, .int .i64 0, .slice none 0 0] : Array Value).toList = U_ := hU_
       have HU_ := Lib.hid hU_
       clear hU_
       have fin_ := hb_ _ _ (later j1 j2) (by omega)
       go_wp2_with (first | (refine wpList_store_mid rfl 31 (.tmp 4) (.tmp 31) rfl (w.heap.size) 0 #[.bool false, .slice none 0 0, .int .i64 0, .bool false, .slice none 0 0, .int .i64 0, .bool false, .slice none 0 0, .int .i64 0, .bool false, .slice none 0 0, .int .i64 0, .bool false, .int .i64 0, .int .i64 0, .slice none 0 0] rfl rfl th_ (by kernel_rfl) (all_oneCell_toArray (cells16_one ZPv)) ?_; rw [HU_.out]))
       obtain ⟨Z_, hZ_⟩ : ∃ q : Pv, q = ZPv := ⟨_, rfl⟩
       rw [← hZ_] at bU_
       exact bodyPost_ret (results_row_slot Try.results26 _ _ (w.heap.size) 31 #[.bool Z_.M.S.s, .slice Z_.M.S.A Z_.M.S.n Z_.M.S.c, .int .i64 Z_.M.S.e, .bool Z_.M.W.s, .slice Z_.M.W.A Z_.M.W.n Z_.M.W.c, .int .i64 Z_.M.W.e, .bool Z_.M.C.s, .slice Z_.M.C.A Z_.M.C.n Z_.M.C.c, .int .i64 Z_.M.C.e, .bool Z_.M.A.s, .slice Z_.M.A.A Z_.M.A.n Z_.M.A.c, .int .i64 Z_.M.A.e, .bool Z_.h, .int .i64 Z_.mn, .int .i64 Z_.mx, .slice Z_.A Z_.n Z_.c] (0, 0) _ (.int .i64 6) rfl rfl bU_ Try.underlying31 rfl (by kernel_rfl)) rfl ⟨Z_, rfl, by rw [hZ_]; exact gotF_no (by decide) _ _, fin_, by rw [hZ_]; exact rowsZ _ _ _⟩
     · skip
       obtain rfl := HC4.out.2 h2
       have e2 : (f.e != z) = false := by simpa using h2
       clear HC2 HC4 h2
       have rg_ : v1.rangeAt b (off + i * 17 + 1) [.bool f.P.M.S.s, .slice f.P.M.S.A f.P.M.S.n f.P.M.S.c, .int .i64 f.P.M.S.e, .bool f.P.M.W.s, .slice f.P.M.W.A f.P.M.W.n f.P.M.W.c, .int .i64 f.P.M.W.e, .bool f.P.M.C.s, .slice f.P.M.C.A f.P.M.C.n f.P.M.C.c, .int .i64 f.P.M.C.e, .bool f.P.M.A.s, .slice f.P.M.A.A f.P.M.A.n f.P.M.A.c, .int .i64 f.P.M.A.e, .bool f.P.h, .int .i64 f.P.mn, .int .i64 f.P.mx, .slice f.P.A f.P.n f.P.c] := hci.out.part
       go_wp2_with (first
        | (refine wpList_load_mid rfl 31 (.tmp 35) rfl b (off + i * 17 + 1) (by go_simp) [.bool f.P.M.S.s, .slice f.P.M.S.A f.P.M.S.n f.P.M.S.c, .int .i64 f.P.M.S.e, .bool f.P.M.W.s, .slice f.P.M.W.A f.P.M.W.n f.P.M.W.c, .int .i64 f.P.M.W.e, .bool f.P.M.C.s, .slice f.P.M.C.A f.P.M.C.n f.P.M.C.c, .int .i64 f.P.M.C.e, .bool f.P.M.A.s, .slice f.P.M.A.A f.P.M.A.n f.P.M.A.c, .int .i64 f.P.M.A.e, .bool f.P.h, .int .i64 f.P.mn, .int .i64 f.P.mx, .slice f.P.A f.P.n f.P.c] _ rg_ Try.underlying31 rfl (by kernel_rfl) ?_))
       refine (TwinPart_any v1 f.P hri hsz.out.1 hsz.out.2).mono ?_
       rintro e' v3 ⟨q, rfl, tq, j4, Rq⟩
       try clear hw
       clear rg_
       replace tq := Lib.hid tq
       have bz_ : PBox v3 (w.heap.size) ZPv := (box_later bZ (later j2 j4) S1)
       obtain ⟨U_, hU_, bU_, hb_, hf_, l5_, l5'_⟩ := part_into bz_ q
       have th_ := bz_.there
       replace hU_ : v3.setCells (w.heap.size) 0 (#[.bool q.M.S.s, .slice q.M.S.A q.M.S.n q.M.S.c, .int .i64 q.M.S.e, .bool q.M.W.s, .slice q.M.W.A q.M.W.n q.M.W.c, .int .i64 q.M.W.e, .bool q.M.C.s, .slice q.M.C.A q.M.C.n q.M.C.c, .int .i64 q.M.C.e, .bool q.M.A.s, .slice q.M.A.A q.M.A.n q.M.A.c, .int .i64 q.M.A.e, .bool q.h, .int .i64 q.mn, .int .i64 q.mx, .slice q.A q.n q.c] : Array Value).toList = U_ := hU_
       have HU_ := Lib.hid hU_
       clear hU_
       have fin_ := hb_ _ _ (later j1 (later j2 j4)) (by omega)
       have Rq2 := (prows_far Rq (offP_of Rq (.inl (by have := Below.size j2; omega))) hf_).more (lo' := w.heap.size) (hi' := U_.heap.size) (by have := Below.size j2; omega) (by omega)
       have tg : TwinP (gotF 0 fs z) q := gotF_yes HI2.out hif (by rw [HF.out]; exact tq.out)
       go_wp2_with (first | (refine wpList_store_mid rfl 31 (.tmp 4) (.tmp 37) rfl (w.heap.size) 0 #[.bool q.M.S.s, .slice q.M.S.A q.M.S.n q.M.S.c, .int .i64 q.M.S.e, .bool q.M.W.s, .slice q.M.W.A q.M.W.n q.M.W.c, .int .i64 q.M.W.e, .bool q.M.C.s, .slice q.M.C.A q.M.C.n q.M.C.c, .int .i64 q.M.C.e, .bool q.M.A.s, .slice q.M.A.A q.M.A.n q.M.A.c, .int .i64 q.M.A.e, .bool q.h, .int .i64 q.mn, .int .i64 q.mx, .slice q.A q.n q.c] rfl rfl th_ (by kernel_rfl) (all_oneCell_toArray (cells16_one q)) ?_; rw [HU_.out]))
       exact bodyPost_ret (results_row_slot Try.results26 _ _ (w.heap.size) 31 #[.bool q.M.S.s, .slice q.M.S.A q.M.S.n q.M.S.c, .int .i64 q.M.S.e, .bool q.M.W.s, .slice q.M.W.A q.M.W.n q.M.W.c, .int .i64 q.M.W.e, .bool q.M.C.s, .slice q.M.C.A q.M.C.n q.M.C.c, .int .i64 q.M.C.e, .bool q.M.A.s, .slice q.M.A.A q.M.A.n q.M.A.c, .int .i64 q.M.A.e, .bool q.h, .int .i64 q.mn, .int .i64 q.mx, .slice q.A q.n q.c] (0, 0) _ (.int .i64 0) rfl rfl bU_ Try.underlying31 rfl (by kernel_rfl)) rfl ⟨q, rfl, tg, fin_, Rq2⟩
set_option maxHeartbeats 25600000 in
set_option maxRecDepth 100000 in
/-- headcountref20.Of. -/
theorem ROf_any (w : World) (A : Option Addr) (n c : Nat) (fs : List Fv) (hL : LFs w 0 w.heap.size A n fs) (z : Int) (hs : ∀ j (h : j < fs.length), (∀ x, x < 4 → (fs[j].P.M.get x).n ≤ 1000000) ∧ fs[j].P.n ≤ 1000000) (r : Option Pv) (hr : ofF fs z = r) :
  Calls Try.prog 67 #[.slice A n c, .int .i64 z] w fun e w' => ∃ q : Pv, e = .returned (.tuple #[.agg #[.bool q.M.S.s, .slice q.M.S.A q.M.S.n q.M.S.c, .int .i64 q.M.S.e, .bool q.M.W.s, .slice q.M.W.A q.M.W.n q.M.W.c, .int .i64 q.M.W.e, .bool q.M.C.s, .slice q.M.C.A q.M.C.n q.M.C.c, .int .i64 q.M.C.e, .bool q.M.A.s, .slice q.M.A.A q.M.A.n q.M.A.c, .int .i64 q.M.A.e, .bool q.h, .int .i64 q.mn, .int .i64 q.mx, .slice q.A q.n q.c], .bool r.isSome]) ∧ TwinP (r.getD ZPv) q ∧ Below w.heap.size w w' ∧ PRows w' w.heap.size w'.heap.size q := by
 obtain ⟨w1, hw, bZ0, j1, S1⟩ := alloc_zp w
 have lw1 := j1.size
 have HS := Lib.hid hs
 have HL := Lib.hid hL.len
 have HR := Lib.hid hr
 have hbig := hL.big
 clear hr hs
 go_enter Try.func67, Try.ntmps67
 go_wp2
 try rw [hw]
 go_loopw [6] (fun iv wr => ∃ i : Nat, iv = .int .i64 i ∧ i ≤ n ∧ wr = w1 ∧ Hid (ofF fs z = ofF (fs.drop i) z)) (fun iv _ => n - (intOf iv).toNat)
 case atStart => exact ⟨0, rfl, Nat.zero_le _, by first | rfl | assumption, Lib.hid rfl⟩
 case round =>
  obtain ⟨i, rfl, hi1, hwr, hmy⟩ := hrel
  obtain rfl : w1 = wr := hwr.symm
  try clear hw
  have bZ := bZ0
  by_cases hi : i < n
  rotate_left
  · have hr' : r = none := by rw [← HR.out, hmy.out, List.drop_eq_nil_of_le (by have := HL.out; omega)]; rfl
    subst hr'
    have bz_ : PBox w1 (w.heap.size) ZPv := bZ
    obtain ⟨U_, hU_, bU_, hb_, hf_, l5_, l5'_⟩ := part_into bz_ ZPv
    have th_ := bz_.there
    replace hU_ : w1.setCells (w.heap.size) 0 (#[.bool false, .slice none 0 0, .int .i64 0, .bool false, .slice none 0 0, .int .i64 0, .bool false, .slice none 0 0, .int .i64 0, .bool false, .slice none 0 0, .int .i64 0, .bool false, .int .i64 0, .int .i64 0, .slice none 0 0] : Array Value).toList = U_ := hU_
    have HU_ := Lib.hid hU_
    clear hU_
    have fin_ := hb_ _ _ j1 (by omega)
    go_wp2_with (first | (refine wpList_store_mid rfl 31 (.tmp 4) (.tmp 26) rfl (w.heap.size) 0 #[.bool false, .slice none 0 0, .int .i64 0, .bool false, .slice none 0 0, .int .i64 0, .bool false, .slice none 0 0, .int .i64 0, .bool false, .slice none 0 0, .int .i64 0, .bool false, .int .i64 0, .int .i64 0, .slice none 0 0] rfl rfl th_ (by kernel_rfl) (all_oneCell_toArray (cells16_one ZPv)) ?_; rw [HU_.out]))
    obtain ⟨Z_, hZ_⟩ : ∃ q : Pv, q = ZPv := ⟨_, rfl⟩
    rw [← hZ_] at bU_
    exact bodyPost_ret (results_row_slot Try.results67 _ _ (w.heap.size) 31 #[.bool Z_.M.S.s, .slice Z_.M.S.A Z_.M.S.n Z_.M.S.c, .int .i64 Z_.M.S.e, .bool Z_.M.W.s, .slice Z_.M.W.A Z_.M.W.n Z_.M.W.c, .int .i64 Z_.M.W.e, .bool Z_.M.C.s, .slice Z_.M.C.A Z_.M.C.n Z_.M.C.c, .int .i64 Z_.M.C.e, .bool Z_.M.A.s, .slice Z_.M.A.A Z_.M.A.n Z_.M.A.c, .int .i64 Z_.M.A.e, .bool Z_.h, .int .i64 Z_.mn, .int .i64 Z_.mx, .slice Z_.A Z_.n Z_.c] (0, 0) _ (.bool false) rfl rfl bU_ Try.underlying31 rfl (by kernel_rfl)) rfl ⟨Z_, rfl, by rw [hZ_]; exact twinZ, fin_, by rw [hZ_]; exact rowsZ _ _ _⟩
  · skip
    have hif : i < fs.length := by rw [HL.out]; exact hi
    have hLz := (LFs.on hL j1)
    obtain ⟨b, off, hA, hb1, hb2, hc⟩ := hLz.row (by omega)
    have hci := Lib.hid (hc i hif)
    have hri := hLz.rows i hif
    have hsz := Lib.hid (HS.out i hif)
    obtain ⟨f, hf⟩ : ∃ f, fs[i] = f := ⟨_, rfl⟩
    have hmy2 : Hid (ofF fs z = if f.e = z then some f.P else ofF (fs.drop (i + 1)) z) := Lib.hid (by rw [hmy.out, List.drop_eq_getElem_cons hif, hf]; rfl)
    rw [hf] at hci hri hsz
    have hwrj : IntKind.i64.wrap ((i : Int) + 1) = ((i + 1 : Nat) : Int) := by rw [IntKind.wrap_i64]; omega
    clear hc hf hmy
    subst hA
    have k_ := hci.out.1
    by_cases h2 : f.e = z
    rotate_left
    · have e2 : (f.e == z) = false := by simpa using h2
      have hmy3 : Hid (ofF fs z = ofF (fs.drop (i + 1)) z) := Lib.hid (by rw [hmy2.out, if_neg h2])
      clear hmy2
      go_wp2
      go_roundw
      case rel => exact ⟨i + 1, by first | rfl | (congr 1; omega) | go_num, by omega, by first | rfl | trivial, hmy3⟩
      case measure => first | (simp [intOf]; done) | (simp [intOf]; omega)
    · skip
      have hr' : r = some f.P := by rw [← HR.out, hmy2.out, if_pos h2]
      subst hr'
      have e2 : (f.e == z) = true := by simpa using h2
      clear hmy2 h2 HR
      have rg_ : w1.rangeAt b (off + i * 17 + 1) [.bool f.P.M.S.s, .slice f.P.M.S.A f.P.M.S.n f.P.M.S.c, .int .i64 f.P.M.S.e, .bool f.P.M.W.s, .slice f.P.M.W.A f.P.M.W.n f.P.M.W.c, .int .i64 f.P.M.W.e, .bool f.P.M.C.s, .slice f.P.M.C.A f.P.M.C.n f.P.M.C.c, .int .i64 f.P.M.C.e, .bool f.P.M.A.s, .slice f.P.M.A.A f.P.M.A.n f.P.M.A.c, .int .i64 f.P.M.A.e, .bool f.P.h, .int .i64 f.P.mn, .int .i64 f.P.mx, .slice f.P.A f.P.n f.P.c] := hci.out.part
      go_wp2_with (first
       | (refine wpList_load_mid rfl 31 (.tmp 23) rfl b (off + i * 17 + 1) (by go_simp) [.bool f.P.M.S.s, .slice f.P.M.S.A f.P.M.S.n f.P.M.S.c, .int .i64 f.P.M.S.e, .bool f.P.M.W.s, .slice f.P.M.W.A f.P.M.W.n f.P.M.W.c, .int .i64 f.P.M.W.e, .bool f.P.M.C.s, .slice f.P.M.C.A f.P.M.C.n f.P.M.C.c, .int .i64 f.P.M.C.e, .bool f.P.M.A.s, .slice f.P.M.A.A f.P.M.A.n f.P.M.A.c, .int .i64 f.P.M.A.e, .bool f.P.h, .int .i64 f.P.mn, .int .i64 f.P.mx, .slice f.P.A f.P.n f.P.c] _ rg_ Try.underlying31 rfl (by kernel_rfl) ?_))
      refine (RTwinPart_any w1 f.P hri hsz.out.1 hsz.out.2).mono ?_
      rintro e' v5 ⟨q, rfl, tq, j6, Rq⟩
      try clear hw
      clear rg_
      have bz_ : PBox v5 (w.heap.size) ZPv := (box_later bZ j6 S1)
      obtain ⟨U_, hU_, bU_, hb_, hf_, l5_, l5'_⟩ := part_into bz_ q
      have th_ := bz_.there
      replace hU_ : v5.setCells (w.heap.size) 0 (#[.bool q.M.S.s, .slice q.M.S.A q.M.S.n q.M.S.c, .int .i64 q.M.S.e, .bool q.M.W.s, .slice q.M.W.A q.M.W.n q.M.W.c, .int .i64 q.M.W.e, .bool q.M.C.s, .slice q.M.C.A q.M.C.n q.M.C.c, .int .i64 q.M.C.e, .bool q.M.A.s, .slice q.M.A.A q.M.A.n q.M.A.c, .int .i64 q.M.A.e, .bool q.h, .int .i64 q.mn, .int .i64 q.mx, .slice q.A q.n q.c] : Array Value).toList = U_ := hU_
      have HU_ := Lib.hid hU_
      clear hU_
      have fin_ := hb_ _ _ (later j1 j6) (by omega)
      have Rq2 := (prows_far Rq (offP_of Rq (.inl (by omega))) hf_).more (lo' := w.heap.size) (hi' := U_.heap.size) (by omega) (by omega)
      go_wp2_with (first | (refine wpList_store_mid rfl 31 (.tmp 4) (.tmp 25) rfl (w.heap.size) 0 #[.bool q.M.S.s, .slice q.M.S.A q.M.S.n q.M.S.c, .int .i64 q.M.S.e, .bool q.M.W.s, .slice q.M.W.A q.M.W.n q.M.W.c, .int .i64 q.M.W.e, .bool q.M.C.s, .slice q.M.C.A q.M.C.n q.M.C.c, .int .i64 q.M.C.e, .bool q.M.A.s, .slice q.M.A.A q.M.A.n q.M.A.c, .int .i64 q.M.A.e, .bool q.h, .int .i64 q.mn, .int .i64 q.mx, .slice q.A q.n q.c] rfl rfl th_ (by kernel_rfl) (all_oneCell_toArray (cells16_one q)) ?_; rw [HU_.out]))
      exact bodyPost_ret (results_row_slot Try.results67 _ _ (w.heap.size) 31 #[.bool q.M.S.s, .slice q.M.S.A q.M.S.n q.M.S.c, .int .i64 q.M.S.e, .bool q.M.W.s, .slice q.M.W.A q.M.W.n q.M.W.c, .int .i64 q.M.W.e, .bool q.M.C.s, .slice q.M.C.A q.M.C.n q.M.C.c, .int .i64 q.M.C.e, .bool q.M.A.s, .slice q.M.A.A q.M.A.n q.M.A.c, .int .i64 q.M.A.e, .bool q.h, .int .i64 q.mn, .int .i64 q.mx, .slice q.A q.n q.c] (0, 0) _ (.bool true) rfl rfl bU_ Try.underlying31 rfl (by kernel_rfl)) rfl ⟨q, rfl, tq, fin_, Rq2⟩
set_option maxHeartbeats 25600000 in
set_option maxRecDepth 100000 in
/-- headcountref20.Get. -/
theorem RGet_any (w : World) (A : Option Addr) (n c : Nat) (fs : List Fv) (hL : LFs w 0 w.heap.size A n fs) (z : Int) (hs : ∀ j (h : j < fs.length), (∀ x, x < 4 → (fs[j].P.M.get x).n ≤ 1000000) ∧ fs[j].P.n ≤ 1000000) (k : Int) (hk : getF n fs z = k) :
  Calls Try.prog 27 #[.slice A n c, .int .i64 z] w fun e w' => ∃ q : Pv, e = .returned (.tuple #[.agg #[.bool q.M.S.s, .slice q.M.S.A q.M.S.n q.M.S.c, .int .i64 q.M.S.e, .bool q.M.W.s, .slice q.M.W.A q.M.W.n q.M.W.c, .int .i64 q.M.W.e, .bool q.M.C.s, .slice q.M.C.A q.M.C.n q.M.C.c, .int .i64 q.M.C.e, .bool q.M.A.s, .slice q.M.A.A q.M.A.n q.M.A.c, .int .i64 q.M.A.e, .bool q.h, .int .i64 q.mn, .int .i64 q.mx, .slice q.A q.n q.c], .int .i64 k]) ∧ TwinP (gotF k fs z) q ∧ Below w.heap.size w w' ∧ PRows w' w.heap.size w'.heap.size q := by
 obtain ⟨w1, hw, bZ, j1, S1⟩ := alloc_zp w
 have lw1 := j1.size
 obtain ⟨c0, hc0⟩ : ∃ c, askF n fs z = c := ⟨_, rfl⟩
 obtain ⟨r, hr⟩ : ∃ r, ofF fs z = r := ⟨_, rfl⟩
 have HC : Hid (c0 ≠ 0 → k = c0) := Lib.hid (get_code hk hc0 rfl hL.len).1
 have HC2 : Hid (c0 = 0 → k = (if r.isSome then 0 else 6) ∧ gotF k fs z = r.getD ZPv) := Lib.hid (fun h => by
  obtain ⟨a, b⟩ := getF_of (hc0.trans h)
  rw [← hk, ← hr]
  exact ⟨a, b⟩)
 have H0 := Lib.hid hc0
 have HR := Lib.hid hr
 clear hk hc0 hr
 go_enter Try.func27, Try.ntmps27
 go_wp2_with fail
 refine (rAsked_any w1 A n c fs (LFs.on hL j1) z c0 H0.out).mono ?_
 rintro e' v7 ⟨rfl, j8⟩
 try clear hw
 by_cases h0 : c0 = 0
 rotate_left
 · skip
   obtain rfl := HC.out h0
   have n0 : (k != 0) = true := by simpa using h0
   clear HC HC2 H0 HR
   have bz_ : PBox v7 (w.heap.size) ZPv := (box_later bZ j8 S1)
   obtain ⟨U_, hU_, bU_, hb_, hf_, l5_, l5'_⟩ := part_into bz_ ZPv
   have th_ := bz_.there
   replace hU_ : v7.setCells (w.heap.size) 0 (#[.bool false, .slice none 0 0, .int .i64 0, .bool false, .slice none 0 0, .int .i64 0, .bool false, .slice none 0 0, .int .i64 0, .bool false, .slice none 0 0, .int .i64 0, .bool false, .int .i64 0, .int .i64 0, .slice none 0 0] : Array Value).toList = U_ := hU_
   have HU_ := Lib.hid hU_
   clear hU_
   have fin_ := hb_ _ _ (later j1 j8) (by omega)
   go_wp2_with (first | (refine wpList_store_mid rfl 31 (.tmp 4) (.tmp 14) rfl (w.heap.size) 0 #[.bool false, .slice none 0 0, .int .i64 0, .bool false, .slice none 0 0, .int .i64 0, .bool false, .slice none 0 0, .int .i64 0, .bool false, .slice none 0 0, .int .i64 0, .bool false, .int .i64 0, .int .i64 0, .slice none 0 0] rfl rfl th_ (by kernel_rfl) (all_oneCell_toArray (cells16_one ZPv)) ?_; rw [HU_.out]))
   obtain ⟨Z_, hZ_⟩ : ∃ q : Pv, q = ZPv := ⟨_, rfl⟩
   rw [← hZ_] at bU_
   exact bodyPost_ret (results_row_slot Try.results27 _ _ (w.heap.size) 31 #[.bool Z_.M.S.s, .slice Z_.M.S.A Z_.M.S.n Z_.M.S.c, .int .i64 Z_.M.S.e, .bool Z_.M.W.s, .slice Z_.M.W.A Z_.M.W.n Z_.M.W.c, .int .i64 Z_.M.W.e, .bool Z_.M.C.s, .slice Z_.M.C.A Z_.M.C.n Z_.M.C.c, .int .i64 Z_.M.C.e, .bool Z_.M.A.s, .slice Z_.M.A.A Z_.M.A.n Z_.M.A.c, .int .i64 Z_.M.A.e, .bool Z_.h, .int .i64 Z_.mn, .int .i64 Z_.mx, .slice Z_.A Z_.n Z_.c] (0, 0) _ (.int .i64 k) rfl rfl bU_ Try.underlying31 rfl (by kernel_rfl)) rfl ⟨Z_, rfl, by rw [hZ_]; exact gotF_no h0 _ _, fin_, by rw [hZ_]; exact rowsZ _ _ _⟩
 · skip
   subst h0
   replace HC2 := Lib.hid (HC2.out rfl)
   clear HC H0
   go_wp2_with fail
   refine (ROf_any v7 A n c fs (LFs.on hL (later j1 j8)) z hs r HR.out).mono ?_
   rintro e' v9 ⟨q, rfl, tq, j10, Rq⟩
   try clear hw
   replace tq := Lib.hid tq
   obtain ⟨u8, hu8, bQ, jq8, sq8⟩ := alloc_p v9 q
   go_upto_region 5 with (first
    | (refine wpList_store_new rfl 31 (.tmp 7) (.tmp 20) rfl _ #[.bool q.M.S.s, .slice q.M.S.A q.M.S.n q.M.S.c, .int .i64 q.M.S.e, .bool q.M.W.s, .slice q.M.W.A q.M.W.n q.M.W.c, .int .i64 q.M.W.e, .bool q.M.C.s, .slice q.M.C.A q.M.C.n q.M.C.c, .int .i64 q.M.C.e, .bool q.M.A.s, .slice q.M.A.A q.M.A.n q.M.A.c, .int .i64 q.M.A.e, .bool q.h, .int .i64 q.mn, .int .i64 q.mx, .slice q.A q.n q.c] rfl rfl (by kernel_rfl) rfl (all_oneCell_toArray (cells16_one q)) ?_))
   try rw [hu8]
   try clear hu8
   have Rq8 := Rq.below jq8 (Nat.le_refl _)
   have s2_ := Below.size (later j1 j8)
   have s3_ := Below.size jq8
   have s4_ := Below.size j8
   cases r
   · skip
     obtain rfl := HC2.out.1
     clear HC2 HR
     have bz_ : PBox u8 (w.heap.size) ZPv := (box_later bZ (later j8 (later j10 jq8)) S1)
     obtain ⟨U_, hU_, bU_, hb_, hf_, l5_, l5'_⟩ := part_into bz_ ZPv
     have th_ := bz_.there
     replace hU_ : u8.setCells (w.heap.size) 0 (#[.bool false, .slice none 0 0, .int .i64 0, .bool false, .slice none 0 0, .int .i64 0, .bool false, .slice none 0 0, .int .i64 0, .bool false, .slice none 0 0, .int .i64 0, .bool false, .int .i64 0, .int .i64 0, .slice none 0 0] : Array Value).toList = U_ := hU_
     have HU_ := Lib.hid hU_
     clear hU_
     have fin_ := hb_ _ _ (later j1 (later j8 (later j10 jq8))) (by omega)
     go_wp2_with (first | (refine wpList_store_mid rfl 31 (.tmp 4) (.tmp 24) rfl (w.heap.size) 0 #[.bool false, .slice none 0 0, .int .i64 0, .bool false, .slice none 0 0, .int .i64 0, .bool false, .slice none 0 0, .int .i64 0, .bool false, .slice none 0 0, .int .i64 0, .bool false, .int .i64 0, .int .i64 0, .slice none 0 0] rfl rfl th_ (by kernel_rfl) (all_oneCell_toArray (cells16_one ZPv)) ?_; rw [HU_.out]))
     obtain ⟨Z_, hZ_⟩ : ∃ q : Pv, q = ZPv := ⟨_, rfl⟩
     rw [← hZ_] at bU_
     exact bodyPost_ret (results_row_slot Try.results27 _ _ (w.heap.size) 31 #[.bool Z_.M.S.s, .slice Z_.M.S.A Z_.M.S.n Z_.M.S.c, .int .i64 Z_.M.S.e, .bool Z_.M.W.s, .slice Z_.M.W.A Z_.M.W.n Z_.M.W.c, .int .i64 Z_.M.W.e, .bool Z_.M.C.s, .slice Z_.M.C.A Z_.M.C.n Z_.M.C.c, .int .i64 Z_.M.C.e, .bool Z_.M.A.s, .slice Z_.M.A.A Z_.M.A.n Z_.M.A.c, .int .i64 Z_.M.A.e, .bool Z_.h, .int .i64 Z_.mn, .int .i64 Z_.mx, .slice Z_.A Z_.n Z_.c] (0, 0) _ (.int .i64 6) rfl rfl bU_ Try.underlying31 rfl (by kernel_rfl)) rfl ⟨Z_, rfl, by rw [hZ_]; exact gotF_no (by decide) _ _, fin_, by rw [hZ_]; exact rowsZ _ _ _⟩
   · skip
     obtain rfl := HC2.out.1
     have bz_ : PBox u8 (w.heap.size) ZPv := (box_later bZ (later j8 (later j10 jq8)) S1)
     obtain ⟨U_, hU_, bU_, hb_, hf_, l5_, l5'_⟩ := part_into bz_ q
     have th_ := bz_.there
     replace hU_ : u8.setCells (w.heap.size) 0 (#[.bool q.M.S.s, .slice q.M.S.A q.M.S.n q.M.S.c, .int .i64 q.M.S.e, .bool q.M.W.s, .slice q.M.W.A q.M.W.n q.M.W.c, .int .i64 q.M.W.e, .bool q.M.C.s, .slice q.M.C.A q.M.C.n q.M.C.c, .int .i64 q.M.C.e, .bool q.M.A.s, .slice q.M.A.A q.M.A.n q.M.A.c, .int .i64 q.M.A.e, .bool q.h, .int .i64 q.mn, .int .i64 q.mx, .slice q.A q.n q.c] : Array Value).toList = U_ := hU_
     have HU_ := Lib.hid hU_
     clear hU_
     have fin_ := hb_ _ _ (later j1 (later j8 (later j10 jq8))) (by omega)
     have Rq2 := (prows_far Rq8 (offP_of Rq8 (.inl (by omega))) hf_).more (lo' := w.heap.size) (hi' := U_.heap.size) (by omega) (by omega)
     have tg : TwinP (gotF 0 fs z) q := by rw [show gotF 0 fs z = _ from HC2.out.2]; exact tq.out
     have rg_ : u8.rangeAt (v9.heap.size) 0 [.bool q.M.S.s, .slice q.M.S.A q.M.S.n q.M.S.c, .int .i64 q.M.S.e, .bool q.M.W.s, .slice q.M.W.A q.M.W.n q.M.W.c, .int .i64 q.M.W.e, .bool q.M.C.s, .slice q.M.C.A q.M.C.n q.M.C.c, .int .i64 q.M.C.e, .bool q.M.A.s, .slice q.M.A.A q.M.A.n q.M.A.c, .int .i64 q.M.A.e, .bool q.h, .int .i64 q.mn, .int .i64 q.mx, .slice q.A q.n q.c] := PBox.range bQ
     clear HC2 HR
     go_wp2_with (first | (refine wpList_load_mid rfl 31 (.tmp 7) rfl (v9.heap.size) 0 rfl [.bool q.M.S.s, .slice q.M.S.A q.M.S.n q.M.S.c, .int .i64 q.M.S.e, .bool q.M.W.s, .slice q.M.W.A q.M.W.n q.M.W.c, .int .i64 q.M.W.e, .bool q.M.C.s, .slice q.M.C.A q.M.C.n q.M.C.c, .int .i64 q.M.C.e, .bool q.M.A.s, .slice q.M.A.A q.M.A.n q.M.A.c, .int .i64 q.M.A.e, .bool q.h, .int .i64 q.mn, .int .i64 q.mx, .slice q.A q.n q.c] _ rg_ Try.underlying31 rfl (by kernel_rfl) ?_) | (refine wpList_store_mid rfl 31 (.tmp 4) (.tmp 25) rfl (w.heap.size) 0 #[.bool q.M.S.s, .slice q.M.S.A q.M.S.n q.M.S.c, .int .i64 q.M.S.e, .bool q.M.W.s, .slice q.M.W.A q.M.W.n q.M.W.c, .int .i64 q.M.W.e, .bool q.M.C.s, .slice q.M.C.A q.M.C.n q.M.C.c, .int .i64 q.M.C.e, .bool q.M.A.s, .slice q.M.A.A q.M.A.n q.M.A.c, .int .i64 q.M.A.e, .bool q.h, .int .i64 q.mn, .int .i64 q.mx, .slice q.A q.n q.c] rfl rfl th_ (by kernel_rfl) (all_oneCell_toArray (cells16_one q)) ?_; rw [HU_.out]))
     exact bodyPost_ret (results_row_slot Try.results27 _ _ (w.heap.size) 31 #[.bool q.M.S.s, .slice q.M.S.A q.M.S.n q.M.S.c, .int .i64 q.M.S.e, .bool q.M.W.s, .slice q.M.W.A q.M.W.n q.M.W.c, .int .i64 q.M.W.e, .bool q.M.C.s, .slice q.M.C.A q.M.C.n q.M.C.c, .int .i64 q.M.C.e, .bool q.M.A.s, .slice q.M.A.A q.M.A.n q.M.A.c, .int .i64 q.M.A.e, .bool q.h, .int .i64 q.mn, .int .i64 q.mx, .slice q.A q.n q.c] (0, 0) _ (.int .i64 0) rfl rfl bU_ Try.underlying31 rfl (by kernel_rfl)) rfl ⟨q, rfl, tg, fin_, Rq2⟩
end Ma
end Go.Proofs.Ytbbnbgllgomolaa
namespace Go.Proofs.Ytbbnbgllgomolaa
open Go.RowKit
namespace Ma
open Dp Dy
theorem LFs.nil_ (w : World) (lo hi : Nat) (A : Option Addr) : LFs w lo hi A 0 [] := ⟨rfl, by decide, fun h => absurd h (Nat.lt_irrefl 0), fun _ h => absurd h (Nat.not_lt_zero _)⟩
set_option maxHeartbeats 12800000 in
set_option maxRecDepth 100000 in
/-- past.Before. -/
theorem Before_any (w : World) (A : Option Addr) (n c : Nat) (fs : List Fv) (hL : LFs w 0 w.heap.size A n fs) (hnc : n ≤ c) (z : Int) (hs : ∀ j (h : j < fs.length), (∀ x, x < 4 → (fs[j].P.M.get x).n ≤ 1000000) ∧ fs[j].P.n ≤ 1000000) (k : Int) (hk : askF n fs z = k) :
  Calls Try.prog 28 #[.slice A n c, .int .i64 z] w fun e w' => ∃ (A' : Option Addr) (n' c' : Nat) (gs : List Fv), e = .returned (.tuple #[.slice A' n' c', .int .i64 k]) ∧ TwinF (beforeF k fs z) gs ∧ Below w.heap.size w w' ∧ OwnF w' w.heap.size (.slice A' n' c') n' gs ∧ ∀ g ∈ gs, PRows w' w.heap.size w'.heap.size g.P := by
 have HS := Lib.hid hs
 have HL := Lib.hid hL.len
 obtain ⟨i, hi⟩ : ∃ i, (if k = 0 then aheadF fs z else 0) = i := ⟨_, rfl⟩
 have H0 := Lib.hid hk
 have HI := Lib.hid hi
 have hin : i ≤ n := by
  have := aheadF_le fs z
  rw [hL.len] at this
  rw [← hi]
  split
  · exact this
  · exact Nat.zero_le _
 have hbig := hL.big
 clear hk hi hs
 go_enter Try.func28, Try.ntmps28
 go_wp2_with fail
 refine (place_any w A n c fs hL z k H0.out i HI.out).mono ?_
 rintro e' v1 ⟨rfl, j1⟩
 by_cases h0 : k = 0
 rotate_left
 · have n0 : (k != 0) = true := by simpa using h0
   go_wp2
   go_ret2
   exact ⟨none, 0, 0, [], rfl, beforeF_no h0 _ _, j1, OwnF.nil_ _ _, fun _ h => absurd h (by simp)⟩
 · subst h0
   have HI2 : Hid (aheadF fs z = i) := Lib.hid (by have := HI.out; rw [if_pos rfl] at this; exact this)
   obtain ⟨hn4, _, _, _⟩ := askF_zero H0.out
   have hi28 : i ≤ 1028 := by omega
   clear HI H0
   have HST := Lib.hid (small_take HS.out i)
   have hLz := (hL.on j1).take hin
   have htk : Hid (beforeF 0 fs z = fs.take i) := Lib.hid (by unfold beforeF; rw [if_pos rfl, HI2.out])
   have lw := j1.size
   have hic : i ≤ c := by omega
   go_wp2_with fail
   refine (TwinF_any v1 _ i _ (fs.take i) hLz hi28 HST.out).mono ?_
   rintro e' v2 ⟨A3, c3, gs, rfl, tf, j2, O2, r2⟩
   have j3 := j1.trans (j2.mono lw)
   go_wp2
   go_ret2
   exact ⟨A3, i, c3, gs, rfl, by rw [htk.out]; exact tf, j3, O2.base lw, fun g hg => (r2 g hg).more lw (Nat.le_refl _)⟩
set_option maxHeartbeats 25600000 in
set_option maxRecDepth 100000 in
/-- headcountref20.Before. -/
theorem RBefore_any (w : World) (A : Option Addr) (n c : Nat) (fs : List Fv) (hL : LFs w 0 w.heap.size A n fs) (z : Int) (hs : ∀ j (h : j < fs.length), (∀ x, x < 4 → (fs[j].P.M.get x).n ≤ 1000000) ∧ fs[j].P.n ≤ 1000000) (k : Int) (hk : askF n fs z = k) :
  Calls Try.prog 29 #[.slice A n c, .int .i64 z] w fun e w' => ∃ (A' : Option Addr) (n' c' : Nat) (gs : List Fv), e = .returned (.tuple #[.slice A' n' c', .int .i64 k]) ∧ TwinF (beforeF k fs z) gs ∧ Below w.heap.size w w' ∧ OwnF w' w.heap.size (.slice A' n' c') n' gs ∧ ∀ g ∈ gs, PRows w' w.heap.size w'.heap.size g.P := by
 have HS := Lib.hid hs
 have HL := Lib.hid hL.len
 have H0 := Lib.hid hk
 have hbig := hL.big
 clear hk hs
 obtain ⟨i0, hi0, hz0, hz1, hz2⟩ := info_parts infoF
 go_enter Try.func29, Try.ntmps29
 go_wp2_with fail
 refine (rAsked_any w A n c fs hL z k H0.out).mono ?_
 rintro e' v1 ⟨rfl, j1⟩
 by_cases h0 : k = 0
 rotate_left
 · have n0 : (k != 0) = true := by simpa using h0
   go_wp2
   go_ret2
   exact ⟨none, 0, 0, [], rfl, beforeF_no h0 _ _, j1, OwnF.nil_ _ _, fun _ h => absurd h (by simp)⟩
 · subst h0
   obtain ⟨hn4, hmF, _, _⟩ := askF_zero H0.out
   have HM := Lib.hid hmF
   have lw1 := j1.size
   clear H0 hmF
   go_wp2
   go_loopw [7, 8] (fun ov iv wr => ∃ (i m : Nat) (os : List Fv), iv = .int .i64 i ∧ i ≤ n ∧ m ≤ i ∧ OwnF wr v1.heap.size ov m os ∧ Below w.heap.size w wr ∧ v1.heap.size ≤ wr.heap.size ∧ Hid (os = (fs.take i).filter (fun f => decide (f.e < z)))) (fun _ iv _ => n - (intOf iv).toNat)
   case atStart => exact ⟨0, 0, [], rfl, Nat.zero_le _, Nat.le_refl _, OwnF.nil_ _ _, j1, Nat.le_refl _, Lib.hid rfl⟩
   case round =>
    obtain ⟨i, m, os, rfl, hi1, hm1, hO, hb, lv, hos⟩ := hrel
    have lw := hb.size
    obtain ⟨Ao, co, rfl, hcap, hcm⟩ := hO.shape
    by_cases hi : i < n
    rotate_left
    · obtain rfl : i = n := by omega
      have htk : os = fs.take (aheadF fs z) := by
       rw [hos.out, List.take_of_length_le (by have := HL.out; omega)]
       exact filter_take HM.out
      have hsO : Hid (∀ j (h : j < os.length), (∀ x, x < 4 → (os[j].P.M.get x).n ≤ 1000000) ∧ os[j].P.n ≤ 1000000) := Lib.hid (by rw [htk]; exact small_take HS.out _)
      have hbe : Hid (beforeF 0 fs z = os) := Lib.hid (by unfold beforeF; rw [if_pos rfl, htk])
      have hOl := hO.lfs
      clear hos htk
      go_wp2_with fail
      refine (RTwinF_any wr Ao m co os hOl (by omega) hsO.out).mono ?_
      rintro e' v2 ⟨A3, c3, gs, rfl, tf, j2, O2, r2⟩
      have j3 := hb.trans (j2.mono lw)
      go_wp2
      go_ret2
      exact ⟨A3, m, c3, gs, rfl, by rw [hbe.out]; exact tf, j3, O2.base lw, fun g hg => (r2 g hg).more lw (Nat.le_refl _)⟩
    · have hif : i < fs.length := by rw [HL.out]; exact hi
      obtain ⟨b, off, hA, hb1, hb2, hc⟩ := (hL.below hb (Nat.le_refl _)).row (by omega)
      have hci := Lib.hid (hc i hif)
      have hri := (hL.below hb (Nat.le_refl _)).rows i hif
      obtain ⟨f, hf⟩ : ∃ f, fs[i] = f := ⟨_, rfl⟩
      rw [hf] at hci hri
      have HF := Lib.hid hf
      have hwrj : IntKind.i64.wrap ((i : Int) + 1) = ((i + 1 : Nat) : Int) := by rw [IntKind.wrap_i64]; omega
      have hnx : fs.take (i + 1) = fs.take i ++ [f] := by rw [List.take_succ_eq_append_getElem hif, hf]
      have HNX := Lib.hid hnx
      clear hc hf hnx
      subst hA
      have k_ := hci.out.1
      by_cases h2 : f.e < z
      rotate_left
      · have d2 : decide (f.e < z) = false := decide_eq_false h2
        have hos2 : Hid (os = (fs.take (i + 1)).filter (fun f => decide (f.e < z))) := Lib.hid (by rw [HNX.out, List.filter_append, ← hos.out, List.filter_cons_of_neg (by simpa using h2), List.filter_nil, List.append_nil])
        clear hos
        go_wp2
        go_roundw
        case rel => exact ⟨i + 1, m, os, by first | rfl | (congr 1; omega) | go_num, by omega, by omega, hO, hb, lv, hos2⟩
        case measure => first | (simp [intOf]; done) | (simp [intOf]; omega)
      · have hos2 : Hid (os ++ [f] = (fs.take (i + 1)).filter (fun f => decide (f.e < z))) := Lib.hid (by rw [HNX.out, List.filter_append, ← hos.out, List.filter_cons_of_pos (by simpa using h2), List.filter_nil])
        clear hos
        have rg_ : wr.rangeAt b (off + i * 17) [.int .i64 f.e, .bool f.P.M.S.s, .slice f.P.M.S.A f.P.M.S.n f.P.M.S.c, .int .i64 f.P.M.S.e, .bool f.P.M.W.s, .slice f.P.M.W.A f.P.M.W.n f.P.M.W.c, .int .i64 f.P.M.W.e, .bool f.P.M.C.s, .slice f.P.M.C.A f.P.M.C.n f.P.M.C.c, .int .i64 f.P.M.C.e, .bool f.P.M.A.s, .slice f.P.M.A.A f.P.M.A.n f.P.M.A.c, .int .i64 f.P.M.A.e, .bool f.P.h, .int .i64 f.P.mn, .int .i64 f.P.mx, .slice f.P.A f.P.n f.P.c] := hci.out.range
        obtain ⟨u8, hu8⟩ : ∃ U, wr.alloc (.cells #[.int .i64 f.e, .bool f.P.M.S.s, .slice f.P.M.S.A f.P.M.S.n f.P.M.S.c, .int .i64 f.P.M.S.e, .bool f.P.M.W.s, .slice f.P.M.W.A f.P.M.W.n f.P.M.W.c, .int .i64 f.P.M.W.e, .bool f.P.M.C.s, .slice f.P.M.C.A f.P.M.C.n f.P.M.C.c, .int .i64 f.P.M.C.e, .bool f.P.M.A.s, .slice f.P.M.A.A f.P.M.A.n f.P.M.A.c, .int .i64 f.P.M.A.e, .bool f.P.h, .int .i64 f.P.mn, .int .i64 f.P.mx, .slice f.P.A f.P.n f.P.c] 68) = U := ⟨_, rfl⟩
        have j8 : Below wr.heap.size wr u8 := by rw [← hu8]; exact (Below.refl _ _).alloc (Nat.le_refl _) _
        have hraw := raw_oneF wr f hu8
        have s8 : wr.heap.size < u8.heap.size := by rw [← hu8]; simp
        have O8 := hO.on j8
        have hOlt : ∀ k, (Value.slice Ao m co).ownBlock = some k → v1.heap.size ≤ k ∧ k < wr.heap.size := fun k hk => hO.own.lt k hk
        go_wp2_with (first
         | (refine wpList_load_mid rfl 68 (.tmp 31) rfl b (off + i * 17) rfl [.int .i64 f.e, .bool f.P.M.S.s, .slice f.P.M.S.A f.P.M.S.n f.P.M.S.c, .int .i64 f.P.M.S.e, .bool f.P.M.W.s, .slice f.P.M.W.A f.P.M.W.n f.P.M.W.c, .int .i64 f.P.M.W.e, .bool f.P.M.C.s, .slice f.P.M.C.A f.P.M.C.n f.P.M.C.c, .int .i64 f.P.M.C.e, .bool f.P.M.A.s, .slice f.P.M.A.A f.P.M.A.n f.P.M.A.c, .int .i64 f.P.M.A.e, .bool f.P.h, .int .i64 f.P.mn, .int .i64 f.P.mx, .slice f.P.A f.P.n f.P.c] _ rg_ Try.underlying68 rfl (by kernel_rfl) ?_)
         | (at_builtin; go_loud (refine wpList_append_raw _ rfl (.tmp 28) (.tmp 33) 22 rfl v1.heap.size 68 i0 _ 17 216 Try.underlying22 hi0 hz0 hz1 hz2 rfl (by decide) (.slice Ao m co) m (flatF os) rfl O8.own 0 (wr.heap.size + 1) (some ⟨wr.heap.size, 0, none⟩) 1 1 (cells17 f) rfl hraw (cells17_one _) (by unfold maxLen; omega) (by omega) (by omega) ?_)))
        intro A9 c9 w9 hown hg hob
        have hrf : PRows u8 0 u8.heap.size f.P := (hri.more (Nat.le_refl _) lw).on j8
        have hof : f.off (Value.slice Ao m co).ownBlock := prows_off hri fun k hk => by
         have := hOlt k hk
         omega
        have O9 := O8.push hrf hof hown hg hob
        have hb8 := hb.trans (j8.mono lw)
        have b9 : Below w.heap.size w w9 := hb8.grown hg (by omega) (fun k hk => by have := hOlt k hk; omega)
        have l9 : u8.heap.size ≤ w9.heap.size := hg.size
        clear hown hg hob hraw O8 hO rg_
        go_wp2
        go_roundw
        case rel => exact ⟨i + 1, m + 1, os ++ [f], by first | rfl | (congr 1; omega) | go_num, by omega, by omega, O9, b9, by omega, hos2⟩
        case measure => first | (simp [intOf]; done) | (simp [intOf]; omega)
end Ma
end Go.Proofs.Ytbbnbgllgomolaa
namespace Go.Proofs.Ytbbnbgllgomolaa
open Go.RowKit
namespace Ma
open Dp Dy
/-- Small enough to be spoilt. -/
def SmallP (p : Pv) : Prop := (∀ x, x < 4 → (p.M.get x).n ≤ 1000000) ∧ p.n ≤ 1000000
def SmallF (fs : List Fv) : Prop := ∀ j (h : j < fs.length), (∀ x, x < 4 → (fs[j].P.M.get x).n ≤ 1000000) ∧ fs[j].P.n ≤ 1000000
theorem smallZ : SmallP ZPv := ⟨four (p := fun x => (ZPv.M.get x).n ≤ 1000000) (Nat.zero_le _) (Nat.zero_le _) (Nat.zero_le _) (Nat.zero_le _), Nat.zero_le _⟩
theorem small_frozen {k z : Int} {fs : List Fv} {p : Pv} (h : SmallF fs) (hp : SmallP p) : SmallF (frozenF k fs z p) := fun j hj => by
 unfold frozenF at hj ⊢
 split at hj
 · rename_i hk
   simp only [hk, if_true]
   by_cases e : j < fs.length
   · rw [List.getElem_append_left e]
     exact h j e
   · have e2 : j = fs.length := by simp at hj; omega
     subst e2
     rw [List.getElem_append_right (Nat.le_refl _)]
     simp only [Nat.sub_self, List.getElem_cons_zero]
     exact hp
 · exact absurd hj (by simp)
theorem small_got {k z : Int} {fs : List Fv} (h : SmallF fs) : SmallP (gotF k fs z) := by
 unfold gotF
 split
 · by_cases hl : aheadF fs z < fs.length
   · rw [List.getElem?_eq_getElem hl]
     exact h _ hl
   · rw [List.getElem?_eq_none (by omega)]
     exact smallZ
 · exact smallZ
theorem small_before {k z : Int} {fs : List Fv} (h : SmallF fs) : SmallF (beforeF k fs z) := by
 unfold beforeF
 split
 · exact small_take h _
 · exact fun j hj => absurd hj (Nat.not_lt_zero _)
theorem OwnF.from {w w' : World} {base hi hi' n : Nat} {v : Value} {fs : List Fv} (h : OwnF w base v n fs) (hr : ∀ f ∈ fs, PRows w base hi' f.P) (hh : hi' ≤ w.heap.size) (hF : From hi w w') (hb : hi ≤ base) (hs : w.heap.size ≤ w'.heap.size) : OwnF w' base v n fs :=
 ⟨⟨h.own.1, h.own.2.imp id fun ⟨g, cap, cur, e, h1, hg, rest⟩ => ⟨g, cap, cur, e, h1, (hF g (Nat.le_trans hb h1) (lt_of_heap hg)).trans hg, rest⟩⟩, h.len, fun f hf => ((hr f hf).rng fun b h1 h2 => hF b (Nat.le_trans hb h1) (Nat.lt_of_lt_of_le h2 hh)).more (Nat.zero_le _) (Nat.le_trans hh hs), h.off⟩
theorem CheckPart_code (w : World) (p : Pv) (hR : PRows w 0 w.heap.size p) (k : Int) (hk : (if mayP p then 0 else 8) = k) :
  Calls Try.prog 32 #[.agg #[.bool p.M.S.s, .slice p.M.S.A p.M.S.n p.M.S.c, .int .i64 p.M.S.e, .bool p.M.W.s, .slice p.M.W.A p.M.W.n p.M.W.c, .int .i64 p.M.W.e, .bool p.M.C.s, .slice p.M.C.A p.M.C.n p.M.C.c, .int .i64 p.M.C.e, .bool p.M.A.s, .slice p.M.A.A p.M.A.n p.M.A.c, .int .i64 p.M.A.e, .bool p.h, .int .i64 p.mn, .int .i64 p.mx, .slice p.A p.n p.c]] w fun e w' => e = .returned (.int .i64 k) ∧ Below w.heap.size w w' :=
 (CheckPart_any w p hR _ rfl).mono fun _ _ h => ⟨by rw [h.1, hk], h.2⟩
theorem RCheckPart_code (w : World) (p : Pv) (hR : PRows w 0 w.heap.size p) (k : Int) (hk : (if mayP p then 0 else 8) = k) :
  Calls Try.prog 33 #[.agg #[.bool p.M.S.s, .slice p.M.S.A p.M.S.n p.M.S.c, .int .i64 p.M.S.e, .bool p.M.W.s, .slice p.M.W.A p.M.W.n p.M.W.c, .int .i64 p.M.W.e, .bool p.M.C.s, .slice p.M.C.A p.M.C.n p.M.C.c, .int .i64 p.M.C.e, .bool p.M.A.s, .slice p.M.A.A p.M.A.n p.M.A.c, .int .i64 p.M.A.e, .bool p.h, .int .i64 p.mn, .int .i64 p.mx, .slice p.A p.n p.c]] w fun e w' => e = .returned (.int .i64 k) ∧ Below w.heap.size w w' :=
 (RCheckPart_any w p hR _ rfl).mono fun _ _ h => ⟨by rw [h.1, hk], h.2⟩
end Ma
end Go.Proofs.Ytbbnbgllgomolaa