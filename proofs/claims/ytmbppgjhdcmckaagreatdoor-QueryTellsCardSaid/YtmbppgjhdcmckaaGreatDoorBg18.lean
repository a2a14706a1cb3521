/- headcountref15: zero, May, Check, Give, Take: walks (printed by a program of mine). -/
/- Quotients of bits: headcountref01.Into, by a walk. -/
/- headcountref03.asked, Part: walks (printed by a program of mine). -/
/- headcountref01.Over2, headcountref03.Floor, Ceil, Near: walks (printed by a program of mine). -/
/- headcountref01.Over2, by one; the near quotient as the document forms it: a walk and a law. -/
import Derived.Test.YtmbppgjhdcmckaaGreatDoorBg16
import Derived.Test.YtmbppgjhdcmckaaGreatDoorBg17
import Derived.Test.YtmbppgjhdcmckaaGreatDoorBg10
import Derived.Test.YtmbppgjhdcmckaaGreatDoorBg12
import Derived.Test.YtmbppgjhdcmckaaGreatDoorBg11
import Derived.Test.YtmbppgjhdcmckaaGreatDoorBg15
import Derived.Test.YtmbppgjhdcmckaaGreatDoorBg04
namespace Go.Proofs.YtmbppgjhdcmckaaGreatDoor
open Go.RowKit
namespace Ma
open Dp Dy
set_option maxHeartbeats 3200000 in
/-- headcountref15.zero. -/
theorem rzero_any (w : World) (s : Bool) (A : Option Addr) (n c : Nat) (e : Int) (b : Bool) (hb : decide (n = 0) = b) :
  Calls Tryz.prog 141 #[.agg #[.bool s, .slice A n c, .int .i64 e]] w fun e w' => e = .returned (.bool b) ∧ Below w.heap.size w w' := by
 have fin := (Below.refl w.heap.size w).alloc (Nat.le_refl _) (.cells #[.bool s, .slice A n c, .int .i64 e] 24)
 have B1 := heap_alloc_last w (.cells #[.bool s, .slice A n c, .int .i64 e] 24)
 generalize hw : w.alloc (.cells #[.bool s, .slice A n c, .int .i64 e] 24) = w1 at *
 obtain ⟨⟨p1, p2, p3⟩, p4, p5, p6⟩ := boxD B1
 by_cases h : n = 0
 · have hb' : b = true := by rw [← hb]; exact decide_eq_true h
   subst hb'
   subst h
   go_enter Tryz.func141, Tryz.ntmps141
   go_wp2
   go_ret
   exact ⟨rfl, fin⟩
 · have hb' : b = false := by rw [← hb]; exact decide_eq_false h
   subst hb'
   have hxb : ((n : Int) == 0) = false := by
    have : (n : Int) ≠ 0 := by omega
    simpa using this
   go_enter Tryz.func141, Tryz.ntmps141
   go_wp2
   go_ret
   exact ⟨rfl, fin⟩
set_option maxHeartbeats 12800000 in
set_option maxRecDepth 100000 in
/-- headcountref15.May. -/
theorem RMayS_any (w : World) (m : Mv) (hR : MRows w 0 w.heap.size m) (b : Bool) (hb : badS [m] = b) :
  Calls Tryz.prog 83 #[.agg #[.bool m.S.s, .slice m.S.A m.S.n m.S.c, .int .i64 m.S.e, .bool m.W.s, .slice m.W.A m.W.n m.W.c, .int .i64 m.W.e, .bool m.C.s, .slice m.C.A m.C.n m.C.c, .int .i64 m.C.e, .bool m.A.s, .slice m.A.A m.A.n m.A.c, .int .i64 m.A.e]] w fun e w' => e = .returned (.bool (!b)) ∧ Below w.heap.size w w' := by
 have HB := Lib.hid hb
 clear hb
 have hM := heap_alloc_last w (.cells #[.bool m.S.s, .slice m.S.A m.S.n m.S.c, .int .i64 m.S.e, .bool m.W.s, .slice m.W.A m.W.n m.W.c, .int .i64 m.W.e, .bool m.C.s, .slice m.C.A m.C.n m.C.c, .int .i64 m.C.e, .bool m.A.s, .slice m.A.A m.A.n m.A.c, .int .i64 m.A.e] 26)
 have j1 := (Below.refl w.heap.size w).alloc (Nat.le_refl _) (.cells #[.bool m.S.s, .slice m.S.A m.S.n m.S.c, .int .i64 m.S.e, .bool m.W.s, .slice m.W.A m.W.n m.W.c, .int .i64 m.W.e, .bool m.C.s, .slice m.C.A m.C.n m.C.c, .int .i64 m.C.e, .bool m.A.s, .slice m.A.A m.A.n m.A.c, .int .i64 m.A.e] 26)
 have S1 : w.heap.size < (w.alloc (.cells #[.bool m.S.s, .slice m.S.A m.S.n m.S.c, .int .i64 m.S.e, .bool m.W.s, .slice m.W.A m.W.n m.W.c, .int .i64 m.W.e, .bool m.C.s, .slice m.C.A m.C.n m.C.c, .int .i64 m.C.e, .bool m.A.s, .slice m.A.A m.A.n m.A.c, .int .i64 m.A.e] 26)).heap.size := by simp
 generalize hw : w.alloc (.cells #[.bool m.S.s, .slice m.S.A m.S.n m.S.c, .int .i64 m.S.e, .bool m.W.s, .slice m.W.A m.W.n m.W.c, .int .i64 m.W.e, .bool m.C.s, .slice m.C.A m.C.n m.C.c, .int .i64 m.C.e, .bool m.A.s, .slice m.A.A m.A.n m.A.c, .int .i64 m.A.e] 26) = w1 at *
 replace hM : MBox w1 w.heap.size m := hM
 have Rm : MRows w1 0 w1.heap.size m := hR.on j1
 have no : ¬ m.share → b = true := fun h => by rw [← HB.out]; exact badS_yes (List.mem_singleton.2 rfl) h
 have yes : m.share → b = false := fun h => by rw [← HB.out]; exact badS_one.2 h
 go_enter Tryz.func83, Tryz.ntmps83
 obtain ⟨⟨q1_0, q1_1, q1_2, q1_3, q1_4, q1_5, q1_6, q1_7, q1_8, q1_9, q1_10, q1_11⟩, q1f⟩ := MBox.cells hM
 by_cases hm : m.may
 rotate_left
 · skip
   have hb' : b = true := no (fun h => hm h.1)
   subst hb'
   have HM : Hid (mayMB m = false) := Lib.hid (by cases h : mayMB m; rfl; exact absurd ((mayMB_iff m).1 h) hm)
   clear hm no yes
   go_wp2_with fail
   refine (RMay_any w1 m Rm false HM.out).mono ?_
   rintro e' v2 ⟨rfl, j3⟩
   clear q1_0 q1_1 q1_2 q1_3 q1_4 q1_5 q1_6 q1_7 q1_8 q1_9 q1_10 q1_11 q1f
   try clear hw
   go_wp2
   go_ret
   exact ⟨rfl, (later j1 j3)⟩
 · skip
   have HM := Lib.hid ((mayMB_iff m).2 hm)
   go_wp2_with fail
   refine (RMay_any w1 m Rm true HM.out).mono ?_
   rintro e' v4 ⟨rfl, j5⟩
   clear q1_0 q1_1 q1_2 q1_3 q1_4 q1_5 q1_6 q1_7 q1_8 q1_9 q1_10 q1_11 q1f
   try clear hw
   cases hs : m.W.s
   rotate_left
   · skip
     obtain ⟨⟨q6_0, q6_1, q6_2, q6_3, q6_4, q6_5, q6_6, q6_7, q6_8, q6_9, q6_10, q6_11⟩, q6f⟩ := MBox.cells (box_later hM j5 S1)
     rw [hs] at q6_3
     have hb' : b = true := no (fun h => by have := h.2.1; rw [hs] at this; cases this)
     subst hb'
     clear hs no yes hm
     go_wp2
     go_ret
     exact ⟨rfl, (later j1 j5)⟩
   · skip
     have HS := Lib.hid hs
     obtain ⟨⟨q7_0, q7_1, q7_2, q7_3, q7_4, q7_5, q7_6, q7_7, q7_8, q7_9, q7_10, q7_11⟩, q7f⟩ := MBox.cells (box_later hM j5 S1)
     rw [hs] at q7_3
     clear hs
     by_cases hn : m.W.n = 0
     rotate_left
     · skip
       have hb' : b = false := yes ⟨hm, HS.out, fun h => absurd h hn⟩
       subst hb'
       have HN := Lib.hid hn
       clear hn no yes hm
       go_wp2_with fail
       refine (rzero_any v4 false m.W.A m.W.n m.W.c m.W.e false (decide_eq_false HN.out)).mono ?_
       rintro e' v8 ⟨rfl, j9⟩
       clear q7_0 q7_1 q7_2 q7_3 q7_4 q7_5 q7_6 q7_7 q7_8 q7_9 q7_10 q7_11 q7f
       try clear hw
       go_wp2
       go_ret
       exact ⟨rfl, (later j1 (later j5 j9))⟩
     · skip
       have HN := Lib.hid hn
       clear hn
       go_wp2_with fail
       refine (rzero_any v4 false m.W.A m.W.n m.W.c m.W.e true (decide_eq_true HN.out)).mono ?_
       rintro e' v10 ⟨rfl, j11⟩
       clear q7_0 q7_1 q7_2 q7_3 q7_4 q7_5 q7_6 q7_7 q7_8 q7_9 q7_10 q7_11 q7f
       try clear hw
       obtain ⟨⟨q12_0, q12_1, q12_2, q12_3, q12_4, q12_5, q12_6, q12_7, q12_8, q12_9, q12_10, q12_11⟩, q12f⟩ := MBox.cells (box_later hM (later j5 j11) S1)
       by_cases hn : m.S.n = 0
       rotate_left
       · skip
         have hb' : b = true := no (fun h => hn (h.2.2 HN.out))
         subst hb'
         have HN1 := Lib.hid hn
         clear hn no yes hm
         go_wp2_with fail
         refine (rzero_any v10 m.S.s m.S.A m.S.n m.S.c m.S.e false (decide_eq_false HN1.out)).mono ?_
         rintro e' v13 ⟨rfl, j14⟩
         clear q12_0 q12_1 q12_2 q12_3 q12_4 q12_5 q12_6 q12_7 q12_8 q12_9 q12_10 q12_11 q12f
         try clear hw
         go_wp2
         go_ret
         exact ⟨rfl, (later j1 (later j5 (later j11 j14)))⟩
       · skip
         have hb' : b = false := yes ⟨hm, HS.out, fun _ => hn⟩
         subst hb'
         have HN1 := Lib.hid hn
         clear hn no yes hm
         go_wp2_with fail
         refine (rzero_any v10 m.S.s m.S.A m.S.n m.S.c m.S.e true (decide_eq_true HN1.out)).mono ?_
         rintro e' v15 ⟨rfl, j16⟩
         clear q12_0 q12_1 q12_2 q12_3 q12_4 q12_5 q12_6 q12_7 q12_8 q12_9 q12_10 q12_11 q12f
         try clear hw
         go_wp2
         go_ret
         exact ⟨rfl, (later j1 (later j5 (later j11 j16)))⟩
end Ma
end Go.Proofs.YtmbppgjhdcmckaaGreatDoor
namespace Go.Proofs.YtmbppgjhdcmckaaGreatDoor
open Go.RowKit
namespace Dy
open Dp
def rowB (ws : List Int) : Array Value := (ws.map (Value.int .u8)).toArray
theorem rowB_get (ws : List Int) {j : Nat} (h : j < ws.length) : (rowB ws)[j]? = some (.int .u8 (ws[j]?.getD 0)) := by
 simp [rowB, h]
theorem rowB_set (ws : List Int) (j : Nat) (v : Int) : (rowB ws).setIfInBounds j (.int .u8 v) = rowB (ws.set j v) := by
 simp [rowB, List.map_set]
/-- Digits from place t on, in a block of their own. -/
structure Qb (w : World) (g n t : Nat) (qh : List Int) : Prop where
 blk : w.heap[g]? = some (.cells (rowB (List.replicate t 0 ++ qh)) 5 (0, 0))
 len : t + qh.length = n
 dig : Dig 2 qh
theorem rep_set (t : Nat) (qh : List Int) (d : Int) : (List.replicate (t + 1) 0 ++ qh).set t d = List.replicate t 0 ++ (d :: qh) := by
 rw [List.replicate_succ', List.append_assoc, List.set_append]
 simp
theorem rep_zero (t : Nat) (qh : List Int) : (List.replicate (t + 1) (0 : Int) ++ qh) = List.replicate t 0 ++ (0 :: qh) := by
 rw [List.replicate_succ', List.append_assoc]
 rfl
theorem Qb.next {w : World} {g n t : Nat} {qh : List Int} (h : Qb w g n (t + 1) qh) : Qb w g n t (0 :: qh) :=
 ⟨by rw [← rep_zero]; exact h.blk, by have := h.len; simp; omega, fun x hx => by
  rcases List.mem_cons.1 hx with rfl | hx
  · decide
  · exact h.dig x hx⟩
theorem Qb.set {w : World} {g n t : Nat} {qh : List Int} (h : Qb w g n (t + 1) qh) : Qb (w.setCell ⟨g, t, none⟩ (.int .u8 1)) g n t (1 :: qh) :=
 ⟨by rw [heap_setCell_same w g t _ _ _ h.blk, rowB_set, rep_set], by have := h.len; simp; omega, fun x hx => by
  rcases List.mem_cons.1 hx with rfl | hx
  · decide
  · exact h.dig x hx⟩
theorem Qb.on {w w' : World} {g n t B : Nat} {qh : List Int} (h : Qb w g n t qh) (hb : Below B w w') (hB : g < B) : Qb w' g n t qh := ⟨(hb.block g hB).trans h.blk, h.len, h.dig⟩
theorem Qb.cell {w : World} {g n t : Nat} {qh : List Int} (h : Qb w g n t qh) {j : Nat} (hj : j < n) : w.cell? ⟨g, j, none⟩ = some (.int .u8 ((List.replicate t 0 ++ qh)[j]?.getD 0)) := by
 rw [cell_of_row w g j _ _ _ h.blk]
 exact rowB_get _ (by have := h.len; simp; omega)
theorem Qb.free {w : World} {g n t : Nat} {qh : List Int} (h : Qb w g n t qh) (j : Nat) : w.frozen? ⟨g, j, none⟩ = false := frozen_of_row w g j _ _ h.blk
theorem Qb.ints {w : World} {g n : Nat} {qh : List Int} (h : Qb w g n 0 qh) (hn : n ≤ 1000000) : Ints w g (g + 1) .u8 (some ⟨g, 0, none⟩) n qh :=
 ⟨by have := h.len; omega, fun x hx => by
  have := h.dig x hx
  simp only [IntKind.min, IntKind.max, IntKind.signed, IntKind.bits]
  omega, by omega, fun _ => ⟨g, 0, rfl, Nat.le_refl _, Nat.lt_succ_self _, fun j hj => ⟨by
   rw [Nat.zero_add, h.cell hj]
   rfl, h.free _⟩⟩⟩
theorem make_u8 (n : Nat) (hn : n ≤ 1000000) (W : World) : (Instr.makeSlice 171 (.int .i64 n) (.int .i64 n)).run Tryz.prog W = .ok (.slice (some ⟨W.heap.size, 0, none⟩) n n) (W.alloc (.cells (rowB (List.replicate n 0)) 5)) := by
 obtain ⟨i0, hi0, hz0, hz1, hz2⟩ := info_parts Tryz.info5
 have := run_make (P := Tryz.prog) W 171 5 i0 (.int .u8 0) Tryz.underlying171 hi0 hz0 .i64 .i64 n n (by omega) (Int.le_refl _) (by rw [hz2]; omega) (by omega)
 rw [hz1, Int.toNat_natCast, Nat.mul_one] at this
 have e : madeCells (Value.int .u8 0).cells n = rowB (List.replicate n 0) := by
  unfold madeCells rowB
  apply Array.ext'
  simp [Value.cells, Nat.mod_one]
  rw [List.map_const', List.length_range]
 rw [e] at this
 exact this
theorem cons_num {B p v : Nat} {l : List Int} (h : num B l = v) : num B ((p : Int) :: l) = p + B * v := by
 rw [← h]
 simp [num]
theorem canon2_le {x y : Nat} (h : x ≤ y) : (canon 2 x).length ≤ (canon 2 y).length := by
 obtain ⟨d1, c1, n1⟩ := canon_spec 2 x (by decide)
 obtain ⟨d2, c2, n2⟩ := canon_spec 2 y (by decide)
 by_cases h0 : canon 2 x = []
 · rw [h0]
   exact Nat.zero_le _
 · have g1 := num_ge d1 c1 h0
   rw [n1] at g1
   have g2 := num_lt 2 (by decide) _ d2
   rw [n2] at g2
   by_cases hle : (canon 2 x).length ≤ (canon 2 y).length
   · exact hle
   · have := Nat.pow_le_pow_right (show 0 < 2 by decide) (show (canon 2 y).length ≤ (canon 2 x).length - 1 by omega)
     omega
theorem cmpN_ge {a b : Nat} : (cmpN a b ≥ 0) ↔ b ≤ a := by
 unfold cmpN
 split
 · omega
 · split <;> omega
/-- One digit of the dividend more. -/
theorem into_step {xs : List Int} {k x Y : Nat} (hk : k < xs.length) (hx : xs[k]?.getD 0 = (x : Int)) (hx1 : x ≤ 1) (hY : 0 < Y) {H R Q : Nat} (hH : num 2 (xs.drop (k + 1)) = H) (hR : H % Y = R) (hQ : H / Y = Q) :
  num 2 (xs.drop k) = 2 * H + x ∧ (Y ≤ 2 * R + x → (2 * H + x) % Y = 2 * R + x - Y ∧ (2 * H + x) / Y = 2 * Q + 1) ∧ (2 * R + x < Y → (2 * H + x) % Y = 2 * R + x ∧ (2 * H + x) / Y = 2 * Q) := by
 subst hR hQ
 refine ⟨?_, (div_next hY hx1).1, (div_next hY hx1).2⟩
 rw [drop_one 2 hk, hx, hH, Int.toNat_natCast]
 omega
set_option maxHeartbeats 3200000 in
set_option maxRecDepth 100000 in
/-- headcountref01.Into. -/
theorem Into_any (w : World) (lo hi lo' hi' : Nat) (A : Option Addr) (n c X : Nat) (hX : Ints w lo hi .u8 A n (canon 2 X)) (B : Option Addr) (m d Y : Nat) (hY : Ints w lo' hi' .u8 B m (canon 2 Y))
  (hhi : hi ≤ w.heap.size) (hhi' : hi' ≤ w.heap.size) (hn : n ≤ 100000) (hm : m ≤ 100000) (hY0 : 0 < Y) (q r : Nat) (hq : X / Y = q) (hr : X % Y = r) :
  Calls Tryz.prog 184 #[.slice A n c, .slice B m d] w fun e w' => ∃ A1 n1 c1 A2 n2 c2, e = .returned (.tuple #[.slice A1 n1 c1, .slice A2 n2 c2]) ∧ n1 ≤ c1 ∧ n1 ≤ n ∧ n2 ≤ c2 ∧ Below w.heap.size w w' ∧ Ints w' w.heap.size w'.heap.size .u8 A1 n1 (canon 2 q) ∧ Ints w' w.heap.size w'.heap.size .u8 A2 n2 (canon 2 r) := by
 obtain ⟨hdx, _, hx⟩ := canon_spec 2 X (by decide)
 obtain ⟨hdy, hcy, hy⟩ := canon_spec 2 Y (by decide)
 obtain ⟨xs, hxs⟩ : ∃ xs, canon 2 X = xs := ⟨_, rfl⟩
 rw [hxs] at hX hdx hx
 clear hxs
 have HL := Lib.hid hX.len
 have HX := Lib.hid hx
 have HY := Lib.hid hy
 have HQ := Lib.hid hq
 have HR := Lib.hid hr
 have HDX := Lib.hid hdx
 have HDY := Lib.hid hdy
 clear hx hy hq hr hdx hdy hcy
 obtain ⟨i0, hi0, hz0, hz1, hz2⟩ := info_parts Tryz.info5
 have hmk := make_u8 n (by omega) w
 have hB0 := (Below.refl w.heap.size w).alloc (Nat.le_refl _) (.cells (rowB (List.replicate n 0)) 5)
 have hG0 := heap_alloc_last w (.cells (rowB (List.replicate n 0)) 5)
 have hS0 : w.heap.size < (w.alloc (.cells (rowB (List.replicate n 0)) 5)).heap.size := by simp
 go_enter Tryz.func184, Tryz.ntmps184
 go_wp2
 generalize hw : w.alloc (.cells (rowB (List.replicate n 0)) 5) = w0 at *
 clear hw hmk
 go_loopw [7, 8] (fun rv iv wr => ∃ t : Nat, ∃ i : Int, ∃ qh : List Int, ∃ Ar nr cr, iv = .int .i64 i ∧ i = (t : Int) - 1 ∧ rv = .slice Ar nr cr ∧ t ≤ n ∧ nr ≤ cr ∧ Qb wr w.heap.size n t qh ∧ Ints wr (w.heap.size + 1) wr.heap.size .u8 Ar nr (canon 2 (num 2 (xs.drop t) % Y)) ∧ Hid (num 2 qh = num 2 (xs.drop t) / Y) ∧ Below w.heap.size w wr ∧ w.heap.size < wr.heap.size) (fun _ iv _ => (intOf iv + 1).toNat)
 case atStart =>
  have hdr : xs.drop n = [] := List.drop_eq_nil_of_le (by have := HL.out; omega)
  refine ⟨n, _, [], none, 0, 0, rfl, rfl, rfl, Nat.le_refl _, Nat.le_refl _, ⟨by rw [List.append_nil]; exact hG0, by simp, fun x hx => absurd hx (by simp)⟩, ?_, Lib.hid ?_, hB0, hS0⟩
  · rw [hdr]
    show Ints _ _ _ _ _ _ (canon 2 (0 % Y))
    rw [Nat.zero_mod]
    exact Ints.nil_ ..
  · rw [hdr]
    show 0 = 0 / Y
    rw [Nat.zero_div]
 case round =>
  clear hB0 hG0 hS0
  obtain ⟨t, i, qh, Ar, nr, cr, rfl, hi, rfl, htn, hrc, hQb, hRr, hHid, hB, hS⟩ := hrel
  rcases t with _ | k
  · have hi1 : i = -1 := by omega
    subst hi1
    have hq2 : num 2 qh = q := by rw [hHid.out, List.drop_zero, HX.out, HQ.out]
    have hr2 : num 2 (xs.drop 0) % Y = r := by rw [List.drop_zero, HX.out, HR.out]
    rw [hr2] at hRr
    have hI := hQb.ints (by omega)
    have hdg := hQb.dig
    have H2 := Lib.hid hq2
    clear hHid hq2 hr2 hQb hi
    go_wp2_with fail
    refine (Cut_any wr _ _ _ n n qh hI hdg (Nat.le_refl _)).mono ?_
    rintro e w' ⟨⟨m', rfl, hm', hC⟩, rfl⟩
    rw [H2.out] at hC
    go_wp2
    go_ret2
    exact ⟨_, m', n, Ar, nr, cr, rfl, by omega, hm', hrc, hB, hC.more (Nat.le_refl _) (by omega), hRr.more (by omega) (Nat.le_refl _)⟩
  · have hi1 : i = (k : Int) := by omega
    subst hi1
    have hkl : k < xs.length := by have := HL.out; omega
    have hYm := hY.below hB hhi'
    obtain ⟨b, off, hA, hb1, hb2, hc⟩ := (hX.below hB hhi).row (by omega)
    subst hA
    obtain ⟨ck1, ck2⟩ := hc k (by omega)
    obtain ⟨x, hx, hx1⟩ := dig_get (by decide) HDX.out k
    rw [hx] at ck1
    obtain ⟨H, hH⟩ : ∃ H, num 2 (xs.drop (k + 1)) = H := ⟨_, rfl⟩
    rw [hH] at hRr hHid
    obtain ⟨R, hR⟩ : ∃ R, H % Y = R := ⟨_, rfl⟩
    rw [hR] at hRr
    have hRY : R < Y := by rw [← hR]; exact Nat.mod_lt _ hY0
    obtain ⟨st1, st2, st3⟩ := into_step hkl hx (by omega) hY0 hH hR hHid.out.symm
    have HS := Lib.hid st1
    have ST2 := Lib.hid st2
    have ST3 := Lib.hid st3
    clear st1 st2 st3 hx hc hH hR hi
    have hnr := hRr.len
    have hnr2 : nr ≤ m := by
     have h1 := canon2_le (Nat.le_of_lt hRY)
     have h2 := hY.len
     omega
    have hX6 : (wr.alloc (.cells #[.int .u8 (x : Int)] 5)).heap[wr.heap.size]? = some (.cells #[.int .u8 (x : Int)] 5 (0, 0)) := heap_alloc_last wr _
    have hB6 : Below wr.heap.size wr (wr.alloc (.cells #[.int .u8 (x : Int)] 5)) := (Below.refl _ _).alloc (Nat.le_refl _) _
    have hR6 := hRr.alloc (Nat.le_refl _) (.cells #[.int .u8 (x : Int)] 5)
    have hS6 : wr.heap.size ≤ (wr.alloc (.cells #[.int .u8 (x : Int)] 5)).heap.size := hB6.size
    clear hnr
    go_wp2_with (first
     | (at_builtin; refine wpList_append_raw _ rfl (.tmp 23) (.tmp 24) 171 rfl wr.heap.size 5 i0 (.int .u8 0) 1 1 Tryz.underlying171 hi0 hz0 hz1 hz2 rfl (by decide) (.slice (some ⟨wr.heap.size, 0, none⟩) 1 1) 1 [.int .u8 (x : Int)] rfl (own_one hX6) _ _ Ar nr cr _ rfl hR6.raw ?c1 ?c2 ?c3 ?c4 ?_))
    case c1 => exact ints_oneCell _ _
    case c2 => unfold maxLen; omega
    case c3 => omega
    case c4 => exact hS6
    intro A2 c2 w2 hown2 hgrow2 _
    have hb2 : Below wr.heap.size wr w2 := hB6.grown hgrow2 hS6 (fun q hq => by cases hq; exact Nat.le_refl _)
    replace hown2 : w2.ownsRow wr.heap.size 5 1 (.slice A2 (1 + nr) c2) (1 + nr) (((x : Int) :: canon 2 R).map (Value.int .u8)) := hown2
    have hdg : Dig 2 ((x : Int) :: canon 2 R) := fun y hy => by
     rcases List.mem_cons.1 hy with rfl | hy
     · exact ⟨by omega, by omega⟩
     · exact (canon_spec 2 R (by decide)).1 y hy
    have hnv : num 2 ((x : Int) :: canon 2 R) = 2 * R + x := by rw [cons_num (canon_spec 2 R (by decide)).2.2]; omega
    have hc2 := own_cap hown2
    have hI2 := Ints.of_own hown2 (fun y hy => by
     have := hdg y hy
     simp only [IntKind.min, IntKind.max, IntKind.signed, IntKind.bits]
     omega) (by omega)
    have HNV := Lib.hid hnv
    have hQ2 := hQb.on hb2 hS
    have hY2 := hYm.below hb2 (by omega)
    have hB2 := hB.trans (hb2.mono (by omega))
    have l2 := hb2.size
    clear hown2 hgrow2 hb2 hB6 hX6 hR6 hS6 hnv hQb hYm hRr ck1 ck2
    go_wp2_with fail
    refine (Cut_any w2 _ _ A2 (1 + nr) c2 _ hI2 hdg hc2).mono ?_
    rintro e w' ⟨⟨m2, rfl, hm2, hC⟩, rfl⟩
    rw [HNV.out] at hC
    obtain ⟨V, hV⟩ : ∃ V, 2 * R + x = V := ⟨_, rfl⟩
    rw [hV] at hC
    have hcl := hC.len
    have hyl := hY2.len
    have HV := Lib.hid hV
    obtain ⟨ρ, hρ⟩ : ∃ ρ, cmpN V Y = ρ := ⟨_, rfl⟩
    have hge := cmpN_ge (a := V) (b := Y)
    rw [hρ] at hge
    have Hρ : Hid (cmpN (num 2 (canon 2 V)) (num 2 (canon 2 Y)) = ρ) := Lib.hid (by rw [(canon_spec 2 V (by decide)).2.2, (canon_spec 2 Y (by decide)).2.2]; exact hρ)
    have HGE := Lib.hid hge
    have hm3 : Hid (Y ≤ V → m ≤ m2) := Lib.hid fun h => by
     have := canon2_le h
     omega
    clear hV hρ hge hcl hyl hI2 hdg HNV
    go_wp2_with fail
    refine (Order_any w' _ _ _ _ A2 m2 c2 _ hC B m d _ hY2 (canon_spec 2 V (by decide)).1 (canon_spec 2 Y (by decide)).1 (by omega) (by omega) ρ Hρ.out).mono ?_
    rintro e w3 ⟨rfl, rfl⟩
    by_cases hYV : Y ≤ V
    · have hρ0 : 0 ≤ ρ := HGE.out.2 hYV
      have hρb : decide (0 ≤ ρ) = true := decide_eq_true hρ0
      have hmm := hm3.out hYV
      obtain ⟨e1, e2⟩ := ST2.out (by rw [HV.out]; exact hYV)
      have E1 := Lib.hid e1
      have E2 := Lib.hid e2
      clear e1 e2
      go_wp2_with fail
      refine (Minus_any w3 _ _ _ _ A2 m2 c2 _ hC B m d _ hY2 (canon_spec 2 V (by decide)).1 (canon_spec 2 Y (by decide)).1 (Nat.le_refl _) (by omega) (by omega) hmm (by rw [(canon_spec 2 V (by decide)).2.2, (canon_spec 2 Y (by decide)).2.2]; exact hYV) (V - Y) (by rw [(canon_spec 2 V (by decide)).2.2, (canon_spec 2 Y (by decide)).2.2])).mono ?_
      rintro e w4 ⟨A3, n3, c3, rfl, hn3, hb4, hI4⟩
      have hQ4 := hQ2.on hb4 (by omega)
      have hB4 := hB2.trans (hb4.mono (by omega))
      have l4 := hb4.size
      have hcell := hQ4.cell (j := k) (by omega)
      have hfree := hQ4.free k
      have hQ5 := hQ4.set
      have hB5 := hB4.setCell (p := ⟨w.heap.size, k, none⟩) (Nat.le_refl _) (.int .u8 1)
      have hI5 := intsR (w' := w4.setCell ⟨w.heap.size, k, none⟩ (.int .u8 1)) hI4 (fun b h1 h2 => Below.heap_setCell _ _ _ _ (show b ≠ w.heap.size by omega))
      have hS5 : (w4.setCell ⟨w.heap.size, k, none⟩ (.int .u8 1)).heap.size = w4.heap.size := by simp [World.setCell]
      have hS5' : w4.heap.size ≤ (w4.setCell ⟨w.heap.size, k, none⟩ (.int .u8 1)).heap.size := Nat.le_of_eq hS5.symm
      clear hS5 hb4 hQ4 hB4
      go_wp2
      generalize w4.setCell ⟨w.heap.size, k, none⟩ (.int .u8 1) = w5 at *
      go_roundw
      case rel => exact ⟨k, _, 1 :: qh, A3, n3, c3, rfl, rfl, rfl, by omega, hn3, hQ5, by
       rw [HS.out, E1.out, HV.out]
       exact hI5.more (by omega) (by omega), Lib.hid (by
       rw [HS.out, E2.out]
       show 1 + 2 * num 2 qh = _
       omega), hB5, by omega⟩
      case measure => first | (simp [intOf]; done) | (simp [intOf]; omega)
    · have hρ0 : ¬ 0 ≤ ρ := fun h => hYV (HGE.out.1 h)
      have hρb : decide (0 ≤ ρ) = false := decide_eq_false hρ0
      obtain ⟨e1, e2⟩ := ST3.out (by rw [HV.out]; omega)
      have E1 := Lib.hid e1
      have E2 := Lib.hid e2
      have hQ5 := hQ2.next
      clear e1 e2 hQ2
      go_wp2
      go_roundw
      case rel => exact ⟨k, _, 0 :: qh, A2, m2, c2, rfl, rfl, rfl, by omega, by omega, hQ5, by
       rw [HS.out, E1.out, HV.out]
       exact hC.more (by omega) (Nat.le_refl _), Lib.hid (by
       rw [HS.out, E2.out]
       show 0 + 2 * num 2 qh = _
       omega), hB2, by omega⟩
      case measure => first | (simp [intOf]; done) | (simp [intOf]; omega)
end Dy
end Go.Proofs.YtmbppgjhdcmckaaGreatDoor
namespace Go.Proofs.YtmbppgjhdcmckaaGreatDoor
open Go.RowKit
namespace Dy
open Dp
open Ma (Dv Dv.may mayB)
open Classical in
theorem mayB_yes {d : Dv} (h : d.may) : mayB d = true := by
 unfold mayB
 exact decide_eq_true h
open Classical in
theorem mayB_no {d : Dv} (h : ¬ d.may) : mayB d = false := by
 unfold mayB
 exact decide_eq_false h
set_option maxHeartbeats 3200000 in
set_option maxRecDepth 100000 in
/-- headcountref03.asked. -/
theorem rAsk_any (w : World) (s1 s2 : Bool) (A1 A2 : Option Addr) (n1 c1 n2 c2 : Nat) (xs1 xs2 : List Int) (e1 e2 : Int) (h1 : Ints w 0 w.heap.size .u32 A1 n1 xs1) (h2 : Ints w 0 w.heap.size .u32 A2 n2 xs2) (k : Int) (q : Int) (h : askX s1 xs1 e1 s2 xs2 e2 k = q) :
  Calls Tryz.prog 142 #[.agg #[.bool s1, .slice A1 n1 c1, .int .i64 e1], .agg #[.bool s2, .slice A2 n2 c2, .int .i64 e2], .int .i64 k] w fun e w' => e = .returned (.int .i64 q) ∧ Below w.heap.size w w' := by
 have H := Lib.hid h
 have HL2 := Lib.hid h2.len
 clear h
 generalize hw : (w.alloc (.cells #[.bool s1, .slice A1 n1 c1, .int .i64 e1] 24)).alloc (.cells #[.bool s2, .slice A2 n2 c2, .int .i64 e2] 24) = w1
 obtain ⟨D1, D2, b1, l1, l2⟩ := boxes2R w _ _ hw
 replace h1 := h1.below b1 (Nat.le_refl _)
 replace h2 := h2.below b1 (Nat.le_refl _)
 obtain ⟨⟨p0, p1, p2⟩, p3, p4, p5⟩ := boxD D1
 by_cases m1 : MayD s1 xs1 e1
 · by_cases m2 : MayD s2 xs2 e2
   · have hq : (if s2 = true ∨ xs2 = [] ∨ k < 0 ∨ 64 < k then (2 : Int) else 0) = q := by
       have := H.out
       unfold askX at this
       rwa [if_pos ⟨m1, m2⟩] at this
     have HQ := Lib.hid hq
     have k1 := Lib.hid (mayB_yes (d := ⟨s1, A1, n1, c1, e1, xs1⟩) m1)
     have k2 := Lib.hid (mayB_yes (d := ⟨s2, A2, n2, c2, e2, xs2⟩) m2)
     clear hq m1 m2
     go_enter Tryz.func142, Tryz.ntmps142
     go_wp2_with fail
     try clear hw
     refine (Ma.rMay_all w1 ⟨s1, A1, n1, c1, e1, xs1⟩ (h1.more (Nat.le_refl _) (by omega)) true k1.out).mono ?_
     rintro e w2 ⟨rfl, hB⟩
     have ls2 := hB.size
     replace h2 := h2.below hB (by omega)
     replace D2 := (hB.block _ (by omega)).trans D2
     replace b1 := b1.trans (hB.mono (by omega))
     clear hB p0 p1 p2 p3 p4 p5 D1 h1
     obtain ⟨⟨p0, p1, p2⟩, p3, p4, p5⟩ := boxD D2
     go_wp2_with fail
     refine (Ma.rMay_all w2 ⟨s2, A2, n2, c2, e2, xs2⟩ (h2.more (Nat.le_refl _) (by omega)) true k2.out).mono ?_
     rintro e w3 ⟨rfl, hB⟩
     replace D2 := (hB.block _ (by omega)).trans D2
     replace b1 := b1.trans (hB.mono (by omega))
     clear hB p0 p1 p2 p3 p4 p5 h2
     obtain ⟨⟨p0, p1, p2⟩, p3, p4, p5⟩ := boxD D2
     cases s2
     · by_cases hx : n2 = 0
       · have hq2 : q = 2 := by
           rw [← HQ.out, if_pos (.inr (.inl (List.eq_nil_of_length_eq_zero (by rw [HL2.out]; exact hx))))]
         subst hq2
         have hxb : ((n2 : Int) == 0) = true := by simpa using hx
         go_wp2
         go_ret
         exact ⟨rfl, b1⟩
       · have hxb : ((n2 : Int) == 0) = false := by simpa using hx
         have hxs : xs2 ≠ [] := fun e => hx (by rw [← HL2.out, e]; rfl)
         by_cases hk0 : k < 0
         · have hq2 : q = 2 := by rw [← HQ.out, if_pos (.inr (.inr (.inl hk0)))]
           subst hq2
           go_wp2
           go_ret
           exact ⟨rfl, b1⟩
         · by_cases hk1 : 64 < k
           · have hq2 : q = 2 := by rw [← HQ.out, if_pos (.inr (.inr (.inr hk1)))]
             subst hq2
             go_wp2
             go_ret
             exact ⟨rfl, b1⟩
           · have hq2 : q = 0 := by rw [← HQ.out, if_neg (by rintro (h | h | h | h); cases h; exact hxs h; exact hk0 h; exact hk1 h)]
             subst hq2
             go_wp2
             go_ret
             exact ⟨rfl, b1⟩
     · have hq2 : q = 2 := by rw [← HQ.out, if_pos (.inl rfl)]
       subst hq2
       go_wp2
       go_ret
       exact ⟨rfl, b1⟩
   · have hq : 8 = q := by
       have := H.out
       unfold askX at this
       rwa [if_neg (fun h => m2 h.2)] at this
     subst hq
     have k1 := Lib.hid (mayB_yes (d := ⟨s1, A1, n1, c1, e1, xs1⟩) m1)
     have k2 := Lib.hid (mayB_no (d := ⟨s2, A2, n2, c2, e2, xs2⟩) m2)
     clear m1 m2
     go_enter Tryz.func142, Tryz.ntmps142
     go_wp2_with fail
     try clear hw
     refine (Ma.rMay_all w1 ⟨s1, A1, n1, c1, e1, xs1⟩ (h1.more (Nat.le_refl _) (by omega)) true k1.out).mono ?_
     rintro e w2 ⟨rfl, hB⟩
     have ls2 := hB.size
     replace h2 := h2.below hB (by omega)
     replace D2 := (hB.block _ (by omega)).trans D2
     replace b1 := b1.trans (hB.mono (by omega))
     clear hB p0 p1 p2 p3 p4 p5 D1 h1
     obtain ⟨⟨p0, p1, p2⟩, p3, p4, p5⟩ := boxD D2
     go_wp2_with fail
     refine (Ma.rMay_all w2 ⟨s2, A2, n2, c2, e2, xs2⟩ (h2.more (Nat.le_refl _) (by omega)) false k2.out).mono ?_
     rintro e w3 ⟨rfl, hB⟩
     replace b1 := b1.trans (hB.mono (by omega))
     clear hB p0 p1 p2 p3 p4 p5 h2
     go_wp2
     go_ret
     exact ⟨rfl, b1⟩
 · have hq : 8 = q := by
     have := H.out
     unfold askX at this
     rwa [if_neg (fun h => m1 h.1)] at this
   subst hq
   have k1 := Lib.hid (mayB_no (d := ⟨s1, A1, n1, c1, e1, xs1⟩) m1)
   clear m1
   go_enter Tryz.func142, Tryz.ntmps142
   go_wp2_with fail
   try clear hw
   refine (Ma.rMay_all w1 ⟨s1, A1, n1, c1, e1, xs1⟩ (h1.more (Nat.le_refl _) (by omega)) false k1.out).mono ?_
   rintro e w2 ⟨rfl, hB⟩
   replace b1 := b1.trans (hB.mono (by omega))
   clear hB p0 p1 p2 p3 p4 p5
   go_wp2
   go_ret
   exact ⟨rfl, b1⟩
theorem one_ints {w : World} {g : Nat} (h : w.heap[g]? = some (.cells #[.int .u8 1] 5 (0, 0))) : Ints w g (g + 1) .u8 (some ⟨g, 0, none⟩) 1 [1] :=
 ⟨rfl, fun x hx => by rw [List.mem_singleton.1 hx]; decide, by decide, fun _ => ⟨g, 0, rfl, Nat.le_refl _, Nat.lt_succ_self _, fun j hj => by
  obtain rfl : j = 0 := by omega
  exact ⟨cell_of_row w g 0 _ _ _ h, frozen_of_row w g 0 _ _ h⟩⟩⟩
theorem canon2_len0 {w : World} {lo hi : Nat} {A : Option Addr} {n m : Nat} (h : Ints w lo hi .u8 A n (canon 2 m)) : (m = 0 → n = 0) ∧ (m ≠ 0 → 0 < n) := by
 have hl := h.len
 constructor
 · rintro rfl
   rw [← hl]
   rfl
 · intro h0
   rcases Nat.eq_zero_or_pos n with h1 | h1
   · rw [h1] at hl
     exact absurd (canon_nil (by decide) (List.eq_nil_of_length_eq_zero hl)) h0
   · exact h1
theorem canon2_next {w : World} {lo hi : Nat} {A : Option Addr} {n m : Nat} (h : Ints w lo hi .u8 A n (canon 2 m)) : (canon 2 (m + 1)).length ≤ n + 1 := by
 have h1 := canon_spec 2 m (by decide)
 have h2 := num_lt 2 (by decide) _ h1.1
 rw [h1.2.2, h.len] at h2
 refine canon_len (by decide) ?_
 have : 0 < 2 ^ n := Nat.pow_pos (by decide)
 rw [Nat.pow_succ]
 omega
set_option maxHeartbeats 6400000 in
set_option maxRecDepth 100000 in
/-- headcountref03.Part. -/
theorem rPart_any (w : World) (a b : Dn) (ha : a.May) (hb_ : b.May) (hb0 : b.m ≠ 0) (A1 A2 : Option Addr) (n1 c1 n2 c2 : Nat) (h1 : Ints w 0 w.heap.size .u32 A1 n1 (canon 4294967296 a.m)) (h2 : Ints w 0 w.heap.size .u32 A2 n2 (canon 4294967296 b.m)) (k : Nat) (hk : k ≤ 64) (kk : Int) (hkk : kk = k) (up : Bool) (v : Nat) (hv : (quoN a b k).1 + (if (quoN a b k).2 ≠ 0 ∧ up ≠ a.neg then 1 else 0) = v) :
  Calls Tryz.prog 143 #[.agg #[.bool a.neg, .slice A1 n1 c1, .int .i64 a.e], .agg #[.bool b.neg, .slice A2 n2 c2, .int .i64 b.e], .int .i64 kk, .bool up] w fun e w' => ∃ A n c, e = .returned (.agg #[.bool a.neg, .slice A n c]) ∧ n ≤ c ∧ n ≤ 3000 ∧ Below w.heap.size w w' ∧ Ints w' w.heap.size w'.heap.size .u8 A n (canon 2 v) := by
 have hn1 := ints_may h1 ha
 have hn2 := ints_may h2 hb_
 have ea : a.e ≤ 1024 := ha.2.1
 have eb : b.e ≤ 1024 := hb_.2.1
 have hsum : IntKind.i64.wrap ((b.e : Int) + kk) = ((b.e + k : Nat) : Int) := by rw [hkk, IntKind.wrap_i64]; omega
 have HS := Lib.hid hsum
 have HV := Lib.hid hv
 have CA := canon_spec 4294967296 a.m (by decide)
 have CB := canon_spec 4294967296 b.m (by decide)
 have hda := Lib.hid CA.1
 have hdb := Lib.hid CB.1
 have hna := Lib.hid CA.2.2
 have hnb := Lib.hid CB.2.2
 have hY0 : 0 < 2 ^ a.e * b.m := Nat.mul_pos (Nat.pow_pos (by decide)) (Nat.pos_of_ne_zero hb0)
 obtain ⟨q, hq⟩ : ∃ q, (quoN a b k).1 = q := ⟨_, rfl⟩
 obtain ⟨r, hr⟩ : ∃ r, (quoN a b k).2 = r := ⟨_, rfl⟩
 have hq2 : 2 ^ (b.e + k) * a.m / (2 ^ a.e * b.m) = q := by
  rw [← hq, Nat.mul_comm _ a.m, Nat.mul_comm _ b.m]
  rfl
 have hr2 : 2 ^ (b.e + k) * a.m % (2 ^ a.e * b.m) = r := by
  rw [← hr, Nat.mul_comm _ a.m, Nat.mul_comm _ b.m]
  rfl
 rw [hq, hr] at hv
 have HQ := Lib.hid hq2
 have HR := Lib.hid hr2
 replace HV := Lib.hid hv
 clear hkk hsum hv CA CB ha hb_ hb0 hq hr hq2 hr2
 generalize hw : ((w.alloc (.cells #[.bool a.neg, .slice A1 n1 c1, .int .i64 a.e] 24)).alloc (.cells #[.bool b.neg, .slice A2 n2 c2, .int .i64 b.e] 24)).alloc (.cells #[.bool false, .slice none 0 0] 173) = w1
 obtain ⟨D1, D2, D3, b1, l1, l2⟩ := boxes3R w _ _ _ hw
 have S1 : w.heap.size < w1.heap.size := by omega
 have S2 : w.heap.size + 1 < w1.heap.size := by omega
 have S3 : w.heap.size + 1 + 1 < w1.heap.size := by omega
 go_enter Tryz.func143, Tryz.ntmps143
 go_wp2_with fail
 try clear hw
 try clear hw
 refine region_E (Keeps w1) [] (m := 9) (L := #[zF,zF,zF,zF,zF,zF,zF,zF,zF]) (by kernel_rfl) (by rfl) (by rfl) ?_
 have j2 : Below w1.heap.size w1 w1.drew := (Below.refl _ _).drew
 generalize w1.drew = v1 at *
 refine zE 0 #[zT,zF,zF,zF,zF,zF,zF,zF,zF] ?_ rfl ?hy1 ?rest1
 case hy1 => intro w; go_simp; (try with_reducible rfl)
 try simp only [Act.put, zp]
 refine zE 3 #[zT,zF,zF,zT,zF,zF,zF,zF,zF] ?_ rfl ?hy2 ?rest2
 case hy2 => intro w; go_simp; (try with_reducible rfl)
 try simp only [Act.put, zp]
 refine zE 5 #[zT,zF,zF,zT,zF,zT,zF,zF,zF] ?_ rfl ?hy3 ?rest3
 case hy3 => intro w; go_simp; (try with_reducible rfl)
 try simp only [Act.put, zp]
 have kpy3 : Keeps w1 v1 := fun p hp => Below.block j2 p hp
 refine readE (i := 1) (L := #[zT,zT,zF,zT,zF,zT,zF,zF,zF]) (v := .slice A1 n1 c1) rfl (by rfl) (by kernel_rfl) (by kernel_rfl) (by kernel_rfl) (fun _ _ _ h => h) (by assumption) (by rfl) ?y3 ?z4
 case y3 =>
  intro w' h1
  obtain ⟨⟨p1, p2, p3⟩, p4, p5, p6⟩ := boxD ((h1 _ S1).trans D1)
  go_simp
 try simp only [Act.put, zp]
 have kpy5 : Keeps w1 v1 := fun p hp => Below.block j2 p hp
 refine readE (i := 4) (L := #[zT,zT,zF,zT,zT,zT,zF,zF,zF]) (v := .int .i64 b.e) rfl (by rfl) (by kernel_rfl) (by kernel_rfl) (by kernel_rfl) (fun _ _ _ h => h) (by assumption) (by rfl) ?y5 ?z6
 case y5 =>
  intro w' h1
  obtain ⟨⟨p1, p2, p3⟩, p4, p5, p6⟩ := boxD ((h1 _ S2).trans D2)
  go_simp
 try simp only [Act.put, zp]
 have hsum := HS.out
 refine zE 6 #[zT,zT,zF,zT,zT,zT,zT,zF,zF] ?_ rfl ?hy6 ?rest6
 case hy6 => intro w; go_simp; (try with_reducible rfl)
 try simp only [Act.put, zp]
 clear hsum HS
 refine stepK (i := 2) (L := #[zT,zT,zT,zT,zT,zT,zT,zF,zF]) rfl (by rfl) (by kernel_rfl) (by rfl) (fun K hK => ?_)
 go_simp
 go_at_call 183
 refine (Digits_any v1 0 _ A1 n1 c1 _ (ints_on h1 (later b1 j2)) hda.out (Nat.le_refl _) (by omega) a.m hna.out).mono ?_
 rintro e' v7 ⟨P3, m3, o3, rfl, hc3, hn23, j8, J3⟩
 refine hK _ _ ⟨fun _ _ => fun p hp => Below.block (later j2 j8) p hp, ?_⟩
 clear hK K
 try simp only [Act.put, zp]
 refine stepK (i := 7) (L := #[zT,zT,zT,zT,zT,zT,zT,zT,zF]) rfl (by rfl) (by kernel_rfl) (by rfl) (fun K hK => ?_)
 go_simp
 go_at_call 182
 refine (Times2_any v7 _ _ P3 m3 o3 a.m J3 (Nat.le_refl _) (by omega) (b.e + k) _ rfl (by omega)).mono ?_
 rintro e' v9 ⟨P4, m4, o4, rfl, hc4, hn24, j10, J4⟩
 refine hK _ _ ⟨fun _ _ => fun p hp => Below.block (later j2 (later j8 j10)) p hp, ?_⟩
 clear hK K
 try simp only [Act.put, zp]
 refine zE 8 #[zT,zT,zT,zT,zT,zT,zT,zT,zT] ?_ rfl ?hy9 ?rest9
 case hy9 => intro w; go_simp; (try with_reducible rfl)
 try simp only [Act.put, zp]
 refine doneE (by kernel_rfl) ?_ _
 go_wp2_with fail
 try clear hw
 refine region_E (Keeps v9) [] (m := 7) (L := #[zF,zF,zF,zF,zF,zF,zF]) (by kernel_rfl) (by rfl) (by rfl) ?_
 have j12 : Below v9.heap.size v9 v9.drew := (Below.refl _ _).drew
 generalize v9.drew = v11 at *
 refine zE 0 #[zT,zF,zF,zF,zF,zF,zF] ?_ rfl ?hy10 ?rest10
 case hy10 => intro w; go_simp; (try with_reducible rfl)
 try simp only [Act.put, zp]
 refine zE 3 #[zT,zF,zF,zT,zF,zF,zF] ?_ rfl ?hy11 ?rest11
 case hy11 => intro w; go_simp; (try with_reducible rfl)
 try simp only [Act.put, zp]
 have kpy13 : Keeps v9 v11 := fun p hp => Below.block j12 p hp
 refine readE (i := 1) (L := #[zT,zT,zF,zT,zF,zF,zF]) (v := .slice A2 n2 c2) rfl (by rfl) (by kernel_rfl) (by kernel_rfl) (by kernel_rfl) (fun _ _ _ h => h) (by assumption) (by rfl) ?y13 ?z14
 case y13 =>
  intro w' h1
  obtain ⟨⟨p1, p2, p3⟩, p4, p5, p6⟩ := boxD ((h1 _ (Nat.lt_of_lt_of_le S2 (Below.size (later j2 (later j8 j10))))).trans (box_later D2 (later j2 (later j8 j10)) S2))
  go_simp
 try simp only [Act.put, zp]
 have kpy15 : Keeps v9 v11 := fun p hp => Below.block j12 p hp
 refine readE (i := 4) (L := #[zT,zT,zF,zT,zT,zF,zF]) (v := .int .i64 a.e) rfl (by rfl) (by kernel_rfl) (by kernel_rfl) (by kernel_rfl) (fun _ _ _ h => h) (by assumption) (by rfl) ?y15 ?z16
 case y15 =>
  intro w' h1
  obtain ⟨⟨p1, p2, p3⟩, p4, p5, p6⟩ := boxD ((h1 _ (Nat.lt_of_lt_of_le S1 (Below.size (later j2 (later j8 j10))))).trans (box_later D1 (later j2 (later j8 j10)) S1))
  go_simp
 try simp only [Act.put, zp]
 refine stepK (i := 2) (L := #[zT,zT,zT,zT,zT,zF,zF]) rfl (by rfl) (by kernel_rfl) (by rfl) (fun K hK => ?_)
 go_simp
 go_at_call 183
 refine (Digits_any v11 0 _ A2 n2 c2 _ (ints_on h2 (later b1 (later j2 (later j8 (later j10 j12))))) hdb.out (Nat.le_refl _) (by omega) b.m hnb.out).mono ?_
 rintro e' v17 ⟨P5, m5, o5, rfl, hc5, hn25, j18, J5⟩
 refine hK _ _ ⟨fun _ _ => fun p hp => Below.block (later j12 j18) p hp, ?_⟩
 clear hK K
 try simp only [Act.put, zp]
 refine stepK (i := 5) (L := #[zT,zT,zT,zT,zT,zT,zF]) rfl (by rfl) (by kernel_rfl) (by rfl) (fun K hK => ?_)
 go_simp
 go_at_call 182
 refine (Times2_any v17 _ _ P5 m5 o5 b.m J5 (Nat.le_refl _) (by omega) a.e _ rfl (by omega)).mono ?_
 rintro e' v19 ⟨P6, m6, o6, rfl, hc6, hn26, j20, J6⟩
 refine hK _ _ ⟨fun _ _ => fun p hp => Below.block (later j12 (later j18 j20)) p hp, ?_⟩
 clear hK K
 try simp only [Act.put, zp]
 refine zE 6 #[zT,zT,zT,zT,zT,zT,zT] ?_ rfl ?hy16 ?rest16
 case hy16 => intro w; go_simp; (try with_reducible rfl)
 try simp only [Act.put, zp]
 refine doneE (by kernel_rfl) ?_ _
 go_wp2_with fail
 refine (Into_any v19 _ _ _ _ P4 m4 o4 _ (Ints.below J4 (later j12 (later j18 j20)) (Nat.le_refl _)) P6 m6 o6 _ J6 (Below.size (later j12 (later j18 j20))) (Nat.le_refl _) (by omega) (by omega) hY0 q r HQ.out HR.out).mono ?_
 rintro e' v21 ⟨P7, m7, o7, P8, m8, o8, rfl, hc7, hn7, hc8, j22, J7, J8⟩
 try clear hw
 obtain ⟨r0, r1⟩ := canon2_len0 J8
 have hx7 := canon2_next J7
 have HN7 := Lib.hid hx7
 clear hx7 HQ HR
 by_cases hr0 : r = 0
 · have hm8 : m8 = 0 := r0 hr0
   have hv2 : q = v := by have := HV.out; rw [if_neg (fun h => h.1 hr0)] at this; omega
   subst hv2
   subst hm8
   clear r0 r1
   obtain ⟨⟨q23_0, q23_1, q23_2⟩, q23_3, q23_4, q23_5⟩ := boxD (box_later D1 (later j2 (later j8 (later j10 (later j12 (later j18 (later j20 j22)))))) S1)
   obtain ⟨⟨g0, g1⟩, g2, g3⟩ := boxS (box_later D3 (later j2 (later j8 (later j10 (later j12 (later j18 (later j20 j22)))))) S3)
   go_wp2
   refine bodyPost_ret (v := .agg #[.bool a.neg, .slice P7 m7 o7]) (by simp [results, Tryz.results143, go_sem, g0, g1]) rfl ⟨P7, m7, o7, rfl, hc7, by omega, ?_, ?_⟩
   · exact (((later b1 (later j2 (later j8 (later j10 (later j12 (later j18 (later j20 j22)))))))).setCell (show w.heap.size ≤ w.heap.size + 1 + 1 by omega) _).setCell (show w.heap.size ≤ w.heap.size + 1 + 1 by omega) _
   · have hlo : w1.heap.size ≤ v19.heap.size := Below.size (later j2 (later j8 (later j10 (later j12 (later j18 j20)))))
     exact ((ints_set (ints_set (J7) (show w.heap.size + 1 + 1 < v19.heap.size by omega) 0 _) (show w.heap.size + 1 + 1 < v19.heap.size by omega) 1 _).more (by omega) (by simp [World.setCell]))
 · have hm8 : 0 < m8 := r1 hr0
   have hmb : decide ((m8 : Int) > 0) = true := decide_eq_true (by omega)
   clear r0 r1
   by_cases hup : up = a.neg
   · have hv2 : q = v := by have := HV.out; rw [if_neg (fun h => h.2 hup)] at this; omega
     have hub2 : (!up == a.neg) = false := by rw [hup]; cases a.neg <;> rfl
     subst hv2
     clear hup
     obtain ⟨⟨q24_0, q24_1, q24_2⟩, q24_3, q24_4, q24_5⟩ := boxD (box_later D1 (later j2 (later j8 (later j10 (later j12 (later j18 (later j20 j22)))))) S1)
     obtain ⟨⟨g0, g1⟩, g2, g3⟩ := boxS (box_later D3 (later j2 (later j8 (later j10 (later j12 (later j18 (later j20 j22)))))) S3)
     go_wp2
     refine bodyPost_ret (v := .agg #[.bool a.neg, .slice P7 m7 o7]) (by simp [results, Tryz.results143, go_sem, g0, g1]) rfl ⟨P7, m7, o7, rfl, hc7, by omega, ?_, ?_⟩
     · exact (((later b1 (later j2 (later j8 (later j10 (later j12 (later j18 (later j20 j22)))))))).setCell (show w.heap.size ≤ w.heap.size + 1 + 1 by omega) _).setCell (show w.heap.size ≤ w.heap.size + 1 + 1 by omega) _
     · have hlo : w1.heap.size ≤ v19.heap.size := Below.size (later j2 (later j8 (later j10 (later j12 (later j18 j20)))))
       exact ((ints_set (ints_set (J7) (show w.heap.size + 1 + 1 < v19.heap.size by omega) 0 _) (show w.heap.size + 1 + 1 < v19.heap.size by omega) 1 _).more (by omega) (by simp [World.setCell]))
   · have hv2 : q + 1 = v := by have := HV.out; rw [if_pos ⟨hr0, hup⟩] at this; exact this
     have hub2 : (!up == a.neg) = true := by
      revert hup
      cases up <;> cases a.neg <;> decide
     clear hup
     have HV2 := Lib.hid hv2
     clear hv2
     obtain ⟨⟨q25_0, q25_1, q25_2⟩, q25_3, q25_4, q25_5⟩ := boxD (box_later D1 (later j2 (later j8 (later j10 (later j12 (later j18 (later j20 j22)))))) S1)
     have hX6 : (v21.alloc (.cells #[.int .u8 1] 5)).heap[v21.heap.size]? = some (.cells #[.int .u8 1] 5 (0, 0)) := heap_alloc_last v21 _
     have hB6 : Below v21.heap.size v21 (v21.alloc (.cells #[.int .u8 1] 5)) := (Below.refl _ _).alloc (Nat.le_refl _) _
     have hI6 : Ints (v21.alloc (.cells #[.int .u8 1] 5)) v21.heap.size (v21.heap.size + 1) .u8 (some ⟨v21.heap.size, 0, none⟩) 1 [1] := one_ints hX6
     have hS6 : v21.heap.size + 1 ≤ (v21.alloc (.cells #[.int .u8 1] 5)).heap.size := by simp
     go_wp2_with fail
     generalize hw : v21.alloc (.cells #[.int .u8 1] 5) = u6 at *
     clear hw
     clear q25_0 q25_1 q25_2 q25_3 q25_4 q25_5
     refine (Plus_any u6 _ _ _ _ P7 m7 o7 _ (Ints.below J7 hB6 (Nat.le_refl _)) (some ⟨_, 0, none⟩) 1 1 [1] hI6 (canon_spec 2 q (by decide)).1 (by intro x hx; rw [List.mem_singleton.1 hx]; decide) (Below.size hB6) hS6 (by omega) (by omega) v (by rw [(canon_spec 2 q (by decide)).2.2]; exact HV2.out)).mono ?_
     rintro e' u7 ⟨P9, m9, o9, rfl, hc9, k7, J9⟩
     have hn9 : m9 ≤ m7 + 1 := by
      have h1 := J9.len
      have h2 := HN7.out
      rw [HV2.out] at h2
      omega
     obtain ⟨⟨q26_0, q26_1, q26_2⟩, q26_3, q26_4, q26_5⟩ := boxD (box_later D1 (later j2 (later j8 (later j10 (later j12 (later j18 (later j20 (later j22 (later hB6 k7)))))))) S1)
     obtain ⟨⟨g0, g1⟩, g2, g3⟩ := boxS (box_later D3 (later j2 (later j8 (later j10 (later j12 (later j18 (later j20 (later j22 (later hB6 k7)))))))) S3)
     go_wp2
     refine bodyPost_ret (v := .agg #[.bool a.neg, .slice P9 m9 o9]) (by simp [results, Tryz.results143, go_sem, g0, g1]) rfl ⟨P9, m9, o9, rfl, hc9, by omega, ?_, ?_⟩
     · exact (((later b1 (later j2 (later j8 (later j10 (later j12 (later j18 (later j20 (later j22 (later hB6 k7)))))))))).setCell (show w.heap.size ≤ w.heap.size + 1 + 1 by omega) _).setCell (show w.heap.size ≤ w.heap.size + 1 + 1 by omega) _
     · have hlo : w1.heap.size ≤ u6.heap.size := Below.size (later j2 (later j8 (later j10 (later j12 (later j18 (later j20 (later j22 hB6)))))))
       exact ((ints_set (ints_set (J9) (show w.heap.size + 1 + 1 < u6.heap.size by omega) 0 _) (show w.heap.size + 1 + 1 < u6.heap.size by omega) 1 _).more (by omega) (by simp [World.setCell]))
end Dy
end Go.Proofs.YtmbppgjhdcmckaaGreatDoor
namespace Go.Proofs.YtmbppgjhdcmckaaGreatDoor
open Go.RowKit
namespace Dy
open Dp
theorem ask_oks {a b : Dn} (ha : a.May) (hb : b.May) (hn : b.neg = false) (h0 : b.m ≠ 0) {k : Nat} (hk : k ≤ 64) : askX a.neg (canon 4294967296 a.m) a.e b.neg (canon 4294967296 b.m) b.e k = 0 := by
 unfold askX
 rw [if_pos ⟨dn_may ha, dn_may hb⟩, if_neg]
 rintro (h | h | h | h)
 · rw [hn] at h
   cases h
 · exact h0 (canon_nil (by decide) h)
 · omega
 · omega
set_option maxHeartbeats 6400000 in
set_option maxRecDepth 100000 in
/-- headcountref03.Floor: an error. -/
theorem rFloor_bad (w : World) (s1 s2 : Bool) (A1 A2 : Option Addr) (n1 c1 n2 c2 : Nat) (xs1 xs2 : List Int) (e1 e2 : Int) (h1 : Ints w 0 w.heap.size .u32 A1 n1 xs1) (h2 : Ints w 0 w.heap.size .u32 A2 n2 xs2) (k q : Int) (hq : askX s1 xs1 e1 s2 xs2 e2 k = q) (hq0 : q = 2 ∨ q = 8) :
  Calls Tryz.prog 150 #[.agg #[.bool s1, .slice A1 n1 c1, .int .i64 e1], .agg #[.bool s2, .slice A2 n2 c2, .int .i64 e2], .int .i64 k] w (Formed w Dn.zero q) := by
 have HQ := Lib.hid hq
 clear hq
 generalize hw : ((w.alloc (.cells #[.bool s1, .slice A1 n1 c1, .int .i64 e1] 24)).alloc (.cells #[.bool s2, .slice A2 n2 c2, .int .i64 e2] 24)).alloc (.cells #[.bool false, .slice none 0 0, .int .i64 0] 24) = w1
 obtain ⟨D1, D2, D3, b1, l1, l2⟩ := boxes3R w _ _ _ hw
 replace D3 : w1.heap[w.heap.size + 1 + 1]? = some (.cells #[.bool false, .slice none 0 0, .int .i64 0] 24 (0, 0)) := D3
 have S1 : w.heap.size < w1.heap.size := by omega
 have S2 : w.heap.size + 1 < w1.heap.size := by omega
 have S3 : w.heap.size + 1 + 1 < w1.heap.size := by omega
 go_enter Tryz.func150, Tryz.ntmps150
 obtain ⟨⟨q1_0, q1_1, q1_2⟩, q1_3, q1_4, q1_5⟩ := boxD D1
 obtain ⟨⟨q2_0, q2_1, q2_2⟩, q2_3, q2_4, q2_5⟩ := boxD D2
 go_wp2_with fail
 refine (rAsk_any w1 s1 s2 A1 A2 n1 c1 n2 c2 xs1 xs2 e1 e2 (ints_on h1 b1) (ints_on h2 b1) k q HQ.out).mono ?_
 rintro e' v3 ⟨rfl, j4⟩
 clear q1_0 q1_1 q1_2 q1_3 q1_4 q1_5 q2_0 q2_1 q2_2 q2_3 q2_4 q2_5
 try clear hw
 rcases hq0 with rfl | rfl
 all_goals
  obtain ⟨⟨z0, z1, z2⟩, z3, z4, z5⟩ := boxD (box_later D3 j4 S3)
  obtain ⟨U, hU, hX, hbU, hfU, s1', s2'⟩ := zputR (box_later D3 j4 S3) (.bool false) (.slice none 0 0) (.int .i64 0)
  go_wp2
  try rw [hU]
  clear hU z0 z1 z2 z3 z4 z5
  obtain ⟨⟨z0, z1, z2⟩, _⟩ := boxD hX
  exact bodyPost_ret (v := .tuple #[.agg #[.bool false, .slice none 0 0, .int .i64 0], .int .i64 _]) (by simp [results, Tryz.results150, go_sem, z0, z1, z2]) rfl ⟨none, 0, 0, rfl, Nat.le_refl _, hbU _ _ (later b1 j4) (show w.heap.size ≤ w.heap.size + 1 + 1 by omega), Ints.nil_ ..⟩
set_option maxHeartbeats 6400000 in
set_option maxRecDepth 100000 in
/-- headcountref03.Floor, of dyads that may be. -/
theorem rFloor_dn (w : World) (a b : Dn) (ha : a.May) (hb_ : b.May) (hbn : b.neg = false) (hb0 : b.m ≠ 0) (A1 A2 : Option Addr) (n1 c1 n2 c2 : Nat) (h1 : Ints w 0 w.heap.size .u32 A1 n1 (canon 4294967296 a.m)) (h2 : Ints w 0 w.heap.size .u32 A2 n2 (canon 4294967296 b.m)) (k : Nat) (hk : k ≤ 64) (r : Dn) (code : Int) (h : toD a b k a.neg = (r, code)) :
  Calls Tryz.prog 150 #[.agg #[.bool a.neg, .slice A1 n1 c1, .int .i64 a.e], .agg #[.bool b.neg, .slice A2 n2 c2, .int .i64 b.e], .int .i64 k] w (Formed w r code) := by
 obtain ⟨v, hv⟩ : ∃ v, (quoN a b k).1 + (if (quoN a b k).2 ≠ 0 ∧ false ≠ a.neg then 1 else 0) = v := ⟨_, rfl⟩
 have hf : formed a.neg v k = (r, code) := by
  rw [← h, ← hv]
  unfold toD
  congr 2
  cases a.neg <;> simp
 have HV := Lib.hid hv
 have HF := Lib.hid hf
 have HQ : Hid (askX a.neg (canon 4294967296 a.m) a.e b.neg (canon 4294967296 b.m) b.e k = 0) := Lib.hid (ask_oks ha hb_ hbn hb0 hk)
 have hd := Lib.hid (fun u => (canon_spec 2 u (by decide)))
 clear hv hf h hbn
 generalize hw : ((w.alloc (.cells #[.bool a.neg, .slice A1 n1 c1, .int .i64 a.e] 24)).alloc (.cells #[.bool b.neg, .slice A2 n2 c2, .int .i64 b.e] 24)).alloc (.cells #[.bool false, .slice none 0 0, .int .i64 0] 24) = w1
 obtain ⟨D1, D2, D3, b1, l1, l2⟩ := boxes3R w _ _ _ hw
 replace D3 : w1.heap[w.heap.size + 1 + 1]? = some (.cells #[.bool false, .slice none 0 0, .int .i64 0] 24 (0, 0)) := D3
 have S1 : w.heap.size < w1.heap.size := by omega
 have S2 : w.heap.size + 1 < w1.heap.size := by omega
 have S3 : w.heap.size + 1 + 1 < w1.heap.size := by omega
 go_enter Tryz.func150, Tryz.ntmps150
 obtain ⟨⟨q6_0, q6_1, q6_2⟩, q6_3, q6_4, q6_5⟩ := boxD D1
 obtain ⟨⟨q7_0, q7_1, q7_2⟩, q7_3, q7_4, q7_5⟩ := boxD D2
 go_wp2_with fail
 refine (rAsk_any w1 a.neg b.neg A1 A2 n1 c1 n2 c2 _ _ a.e b.e (ints_on h1 b1) (ints_on h2 b1) k 0 HQ.out).mono ?_
 rintro e' v8 ⟨rfl, j9⟩
 clear q6_0 q6_1 q6_2 q6_3 q6_4 q6_5 q7_0 q7_1 q7_2 q7_3 q7_4 q7_5
 try clear hw
 obtain ⟨⟨q10_0, q10_1, q10_2⟩, q10_3, q10_4, q10_5⟩ := boxD (box_later D1 j9 S1)
 obtain ⟨⟨q11_0, q11_1, q11_2⟩, q11_3, q11_4, q11_5⟩ := boxD (box_later D2 j9 S2)
 go_wp2_with fail
 refine (rPart_any v8 a b ha hb_ hb0 A1 A2 n1 c1 n2 c2 (ints_on h1 (later b1 j9)) (ints_on h2 (later b1 j9)) k hk k rfl false v HV.out).mono ?_
 rintro e' v12 ⟨P, m, o, rfl, hmo, hm4, j13, J⟩
 clear q10_0 q10_1 q10_2 q10_3 q10_4 q10_5 q11_0 q11_1 q11_2 q11_3 q11_4 q11_5
 try clear hw
 go_wp2_with fail
 refine (rFormed_any v12 a.neg P m o (canon 2 v) (J.more (Nat.zero_le _) (Nat.le_refl _)) (hd.out v).1 hmo (by omega) k (by omega) k rfl v (hd.out v).2.2 r code HF.out).mono ?_
 rintro e' v14 ⟨A9, n9, c9, rfl, hnc, j15, I9⟩
 try clear hw
 have j17 := (Below.refl v14.heap.size v14).alloc (Nat.le_refl _) (.cells #[.bool r.neg, .slice A9 n9 c9, .int .i64 r.e] 24)
 have D9 := heap_alloc_last v14 (.cells #[.bool r.neg, .slice A9 n9 c9, .int .i64 r.e] 24)
 have s18 : v14.heap.size < (v14.alloc (.cells #[.bool r.neg, .slice A9 n9 c9, .int .i64 r.e] 24)).heap.size := by simp
 generalize hw : v14.alloc (.cells #[.bool r.neg, .slice A9 n9 c9, .int .i64 r.e] 24) = v16 at *
 obtain ⟨⟨q19_0, q19_1, q19_2⟩, q19_3, q19_4, q19_5⟩ := boxD D9
 have hlo : w1.heap.size ≤ v12.heap.size := Below.size (later j9 j13)
 obtain ⟨⟨z0, z1, z2⟩, z3, z4, z5⟩ := boxD (box_later D3 (later j9 (later j13 (later j15 j17))) S3)
 obtain ⟨U, hU, hX, hbU, hfU, s1', s2'⟩ := zputR (box_later D3 (later j9 (later j13 (later j15 j17))) S3) (.bool r.neg) (.slice A9 n9 c9) (.int .i64 r.e)
 go_wp2
 try rw [hU]
 clear hU z0 z1 z2 z3 z4 z5
 obtain ⟨⟨z0, z1, z2⟩, _⟩ := boxD hX
 exact bodyPost_ret (v := .tuple #[.agg #[.bool r.neg, .slice A9 n9 c9, .int .i64 r.e], .int .i64 code]) (by simp [results, Tryz.results150, go_sem, z0, z1, z2]) rfl ⟨A9, n9, c9, rfl, hnc, hbU _ _ (later b1 (later j9 (later j13 (later j15 j17)))) (show w.heap.size ≤ w.heap.size + 1 + 1 by omega), (intsR (I9.below j17 (Nat.le_refl _)) (fun b h1 h2 => hfU b (by omega))).more (by omega) (Nat.le_trans (Below.size j17) (by omega))⟩
/-- headcountref03.Floor. -/
theorem rFloor_all (w : World) (s1 s2 : Bool) (A1 A2 : Option Addr) (n1 c1 n2 c2 : Nat) (xs1 xs2 : List Int) (e1 e2 : Int) (h1 : Ints w 0 w.heap.size .u32 A1 n1 xs1) (h2 : Ints w 0 w.heap.size .u32 A2 n2 xs2) (k : Int) (r : Dn) (code : Int) (h : toX s1 xs1 e1 s2 xs2 e2 k s1 = (r, code)) :
  Calls Tryz.prog 150 #[.agg #[.bool s1, .slice A1 n1 c1, .int .i64 e1], .agg #[.bool s2, .slice A2 n2 c2, .int .i64 e2], .int .i64 k] w (Formed w r code) := by
 unfold toX at h
 split at h
 · rename_i hm
   obtain ⟨m1, m2, hs, hx, k0, k1⟩ := ask_zero hm
   obtain ⟨y1, c1', t1⟩ := dn_ok (dig_ints h1) m1
   obtain ⟨y2, c2', t2⟩ := dn_ok (dig_ints h2) m2
   have hb0 : (dn s2 xs2 e2).m ≠ 0 := fun e => hx (by rw [← c2', e]; rfl)
   have := rFloor_dn w (dn s1 xs1 e1) (dn s2 xs2 e2) y1 y2 hs hb0 A1 A2 n1 c1 n2 c2 (by rw [c1']; exact h1) (by rw [c2']; exact h2) k.toNat (by omega) r code h
   rw [t1, t2, show ((k.toNat : Nat) : Int) = k by omega] at this
   exact this
 · rename_i hm
   injection h with h3 h4
   subst h3 h4
   exact rFloor_bad w s1 s2 A1 A2 n1 c1 n2 c2 xs1 xs2 e1 e2 h1 h2 k _ rfl ((ask_two ..).resolve_left hm)
set_option maxHeartbeats 6400000 in
set_option maxRecDepth 100000 in
/-- headcountref03.Ceil: an error. -/
theorem rCeil_bad (w : World) (s1 s2 : Bool) (A1 A2 : Option Addr) (n1 c1 n2 c2 : Nat) (xs1 xs2 : List Int) (e1 e2 : Int) (h1 : Ints w 0 w.heap.size .u32 A1 n1 xs1) (h2 : Ints w 0 w.heap.size .u32 A2 n2 xs2) (k q : Int) (hq : askX s1 xs1 e1 s2 xs2 e2 k = q) (hq0 : q = 2 ∨ q = 8) :
  Calls Tryz.prog 151 #[.agg #[.bool s1, .slice A1 n1 c1, .int .i64 e1], .agg #[.bool s2, .slice A2 n2 c2, .int .i64 e2], .int .i64 k] w (Formed w Dn.zero q) := by
 have HQ := Lib.hid hq
 clear hq
 generalize hw : ((w.alloc (.cells #[.bool s1, .slice A1 n1 c1, .int .i64 e1] 24)).alloc (.cells #[.bool s2, .slice A2 n2 c2, .int .i64 e2] 24)).alloc (.cells #[.bool false, .slice none 0 0, .int .i64 0] 24) = w1
 obtain ⟨D1, D2, D3, b1, l1, l2⟩ := boxes3R w _ _ _ hw
 replace D3 : w1.heap[w.heap.size + 1 + 1]? = some (.cells #[.bool false, .slice none 0 0, .int .i64 0] 24 (0, 0)) := D3
 have S1 : w.heap.size < w1.heap.size := by omega
 have S2 : w.heap.size + 1 < w1.heap.size := by omega
 have S3 : w.heap.size + 1 + 1 < w1.heap.size := by omega
 go_enter Tryz.func151, Tryz.ntmps151
 obtain ⟨⟨q21_0, q21_1, q21_2⟩, q21_3, q21_4, q21_5⟩ := boxD D1
 obtain ⟨⟨q22_0, q22_1, q22_2⟩, q22_3, q22_4, q22_5⟩ := boxD D2
 go_wp2_with fail
 refine (rAsk_any w1 s1 s2 A1 A2 n1 c1 n2 c2 xs1 xs2 e1 e2 (ints_on h1 b1) (ints_on h2 b1) k q HQ.out).mono ?_
 rintro e' v23 ⟨rfl, j24⟩
 clear q21_0 q21_1 q21_2 q21_3 q21_4 q21_5 q22_0 q22_1 q22_2 q22_3 q22_4 q22_5
 try clear hw
 rcases hq0 with rfl | rfl
 all_goals
  obtain ⟨⟨z0, z1, z2⟩, z3, z4, z5⟩ := boxD (box_later D3 j24 S3)
  obtain ⟨U, hU, hX, hbU, hfU, s1', s2'⟩ := zputR (box_later D3 j24 S3) (.bool false) (.slice none 0 0) (.int .i64 0)
  go_wp2
  try rw [hU]
  clear hU z0 z1 z2 z3 z4 z5
  obtain ⟨⟨z0, z1, z2⟩, _⟩ := boxD hX
  exact bodyPost_ret (v := .tuple #[.agg #[.bool false, .slice none 0 0, .int .i64 0], .int .i64 _]) (by simp [results, Tryz.results151, go_sem, z0, z1, z2]) rfl ⟨none, 0, 0, rfl, Nat.le_refl _, hbU _ _ (later b1 j24) (show w.heap.size ≤ w.heap.size + 1 + 1 by omega), Ints.nil_ ..⟩
set_option maxHeartbeats 6400000 in
set_option maxRecDepth 100000 in
/-- headcountref03.Ceil, of dyads that may be. -/
theorem rCeil_dn (w : World) (a b : Dn) (ha : a.May) (hb_ : b.May) (hbn : b.neg = false) (hb0 : b.m ≠ 0) (A1 A2 : Option Addr) (n1 c1 n2 c2 : Nat) (h1 : Ints w 0 w.heap.size .u32 A1 n1 (canon 4294967296 a.m)) (h2 : Ints w 0 w.heap.size .u32 A2 n2 (canon 4294967296 b.m)) (k : Nat) (hk : k ≤ 64) (r : Dn) (code : Int) (h : toD a b k (!a.neg) = (r, code)) :
  Calls Tryz.prog 151 #[.agg #[.bool a.neg, .slice A1 n1 c1, .int .i64 a.e], .agg #[.bool b.neg, .slice A2 n2 c2, .int .i64 b.e], .int .i64 k] w (Formed w r code) := by
 obtain ⟨v, hv⟩ : ∃ v, (quoN a b k).1 + (if (quoN a b k).2 ≠ 0 ∧ true ≠ a.neg then 1 else 0) = v := ⟨_, rfl⟩
 have hf : formed a.neg v k = (r, code) := by
  rw [← h, ← hv]
  unfold toD
  congr 2
  cases a.neg <;> simp
 have HV := Lib.hid hv
 have HF := Lib.hid hf
 have HQ : Hid (askX a.neg (canon 4294967296 a.m) a.e b.neg (canon 4294967296 b.m) b.e k = 0) := Lib.hid (ask_oks ha hb_ hbn hb0 hk)
 have hd := Lib.hid (fun u => (canon_spec 2 u (by decide)))
 clear hv hf h hbn
 generalize hw : ((w.alloc (.cells #[.bool a.neg, .slice A1 n1 c1, .int .i64 a.e] 24)).alloc (.cells #[.bool b.neg, .slice A2 n2 c2, .int .i64 b.e] 24)).alloc (.cells #[.bool false, .slice none 0 0, .int .i64 0] 24) = w1
 obtain ⟨D1, D2, D3, b1, l1, l2⟩ := boxes3R w _ _ _ hw
 replace D3 : w1.heap[w.heap.size + 1 + 1]? = some (.cells #[.bool false, .slice none 0 0, .int .i64 0] 24 (0, 0)) := D3
 have S1 : w.heap.size < w1.heap.size := by omega
 have S2 : w.heap.size + 1 < w1.heap.size := by omega
 have S3 : w.heap.size + 1 + 1 < w1.heap.size := by omega
 go_enter Tryz.func151, Tryz.ntmps151
 obtain ⟨⟨q26_0, q26_1, q26_2⟩, q26_3, q26_4, q26_5⟩ := boxD D1
 obtain ⟨⟨q27_0, q27_1, q27_2⟩, q27_3, q27_4, q27_5⟩ := boxD D2
 go_wp2_with fail
 refine (rAsk_any w1 a.neg b.neg A1 A2 n1 c1 n2 c2 _ _ a.e b.e (ints_on h1 b1) (ints_on h2 b1) k 0 HQ.out).mono ?_
 rintro e' v28 ⟨rfl, j29⟩
 clear q26_0 q26_1 q26_2 q26_3 q26_4 q26_5 q27_0 q27_1 q27_2 q27_3 q27_4 q27_5
 try clear hw
 obtain ⟨⟨q30_0, q30_1, q30_2⟩, q30_3, q30_4, q30_5⟩ := boxD (box_later D1 j29 S1)
 obtain ⟨⟨q31_0, q31_1, q31_2⟩, q31_3, q31_4, q31_5⟩ := boxD (box_later D2 j29 S2)
 go_wp2_with fail
 refine (rPart_any v28 a b ha hb_ hb0 A1 A2 n1 c1 n2 c2 (ints_on h1 (later b1 j29)) (ints_on h2 (later b1 j29)) k hk k rfl true v HV.out).mono ?_
 rintro e' v32 ⟨P, m, o, rfl, hmo, hm4, j33, J⟩
 clear q30_0 q30_1 q30_2 q30_3 q30_4 q30_5 q31_0 q31_1 q31_2 q31_3 q31_4 q31_5
 try clear hw
 go_wp2_with fail
 refine (rFormed_any v32 a.neg P m o (canon 2 v) (J.more (Nat.zero_le _) (Nat.le_refl _)) (hd.out v).1 hmo (by omega) k (by omega) k rfl v (hd.out v).2.2 r code HF.out).mono ?_
 rintro e' v34 ⟨A9, n9, c9, rfl, hnc, j35, I9⟩
 try clear hw
 have j37 := (Below.refl v34.heap.size v34).alloc (Nat.le_refl _) (.cells #[.bool r.neg, .slice A9 n9 c9, .int .i64 r.e] 24)
 have D9 := heap_alloc_last v34 (.cells #[.bool r.neg, .slice A9 n9 c9, .int .i64 r.e] 24)
 have s38 : v34.heap.size < (v34.alloc (.cells #[.bool r.neg, .slice A9 n9 c9, .int .i64 r.e] 24)).heap.size := by simp
 generalize hw : v34.alloc (.cells #[.bool r.neg, .slice A9 n9 c9, .int .i64 r.e] 24) = v36 at *
 obtain ⟨⟨q39_0, q39_1, q39_2⟩, q39_3, q39_4, q39_5⟩ := boxD D9
 have hlo : w1.heap.size ≤ v32.heap.size := Below.size (later j29 j33)
 obtain ⟨⟨z0, z1, z2⟩, z3, z4, z5⟩ := boxD (box_later D3 (later j29 (later j33 (later j35 j37))) S3)
 obtain ⟨U, hU, hX, hbU, hfU, s1', s2'⟩ := zputR (box_later D3 (later j29 (later j33 (later j35 j37))) S3) (.bool r.neg) (.slice A9 n9 c9) (.int .i64 r.e)
 go_wp2
 try rw [hU]
 clear hU z0 z1 z2 z3 z4 z5
 obtain ⟨⟨z0, z1, z2⟩, _⟩ := boxD hX
 exact bodyPost_ret (v := .tuple #[.agg #[.bool r.neg, .slice A9 n9 c9, .int .i64 r.e], .int .i64 code]) (by simp [results, Tryz.results151, go_sem, z0, z1, z2]) rfl ⟨A9, n9, c9, rfl, hnc, hbU _ _ (later b1 (later j29 (later j33 (later j35 j37)))) (show w.heap.size ≤ w.heap.size + 1 + 1 by omega), (intsR (I9.below j37 (Nat.le_refl _)) (fun b h1 h2 => hfU b (by omega))).more (by omega) (Nat.le_trans (Below.size j37) (by omega))⟩
/-- headcountref03.Ceil. -/
theorem rCeil_all (w : World) (s1 s2 : Bool) (A1 A2 : Option Addr) (n1 c1 n2 c2 : Nat) (xs1 xs2 : List Int) (e1 e2 : Int) (h1 : Ints w 0 w.heap.size .u32 A1 n1 xs1) (h2 : Ints w 0 w.heap.size .u32 A2 n2 xs2) (k : Int) (r : Dn) (code : Int) (h : toX s1 xs1 e1 s2 xs2 e2 k (!s1) = (r, code)) :
  Calls Tryz.prog 151 #[.agg #[.bool s1, .slice A1 n1 c1, .int .i64 e1], .agg #[.bool s2, .slice A2 n2 c2, .int .i64 e2], .int .i64 k] w (Formed w r code) := by
 unfold toX at h
 split at h
 · rename_i hm
   obtain ⟨m1, m2, hs, hx, k0, k1⟩ := ask_zero hm
   obtain ⟨y1, c1', t1⟩ := dn_ok (dig_ints h1) m1
   obtain ⟨y2, c2', t2⟩ := dn_ok (dig_ints h2) m2
   have hb0 : (dn s2 xs2 e2).m ≠ 0 := fun e => hx (by rw [← c2', e]; rfl)
   have := rCeil_dn w (dn s1 xs1 e1) (dn s2 xs2 e2) y1 y2 hs hb0 A1 A2 n1 c1 n2 c2 (by rw [c1']; exact h1) (by rw [c2']; exact h2) k.toNat (by omega) r code h
   rw [t1, t2, show ((k.toNat : Nat) : Int) = k by omega] at this
   exact this
 · rename_i hm
   injection h with h3 h4
   subst h3 h4
   exact rCeil_bad w s1 s2 A1 A2 n1 c1 n2 c2 xs1 xs2 e1 e2 h1 h2 k _ rfl ((ask_two ..).resolve_left hm)
end Dy
end Go.Proofs.YtmbppgjhdcmckaaGreatDoor
namespace Go.Proofs.YtmbppgjhdcmckaaGreatDoor
open Go.RowKit
namespace Dy
open Dp
set_option maxHeartbeats 3200000 in
set_option maxRecDepth 100000 in
/-- headcountref01.Over2, by one. -/
theorem Over2_any (w : World) (lo hi : Nat) (A : Option Addr) (n c v : Nat) (hX : Ints w lo hi .u8 A n (canon 2 v)) (hhi : hi ≤ w.heap.size) (hn : n ≤ 1000000) (hnc : n ≤ c) (hv0 : v ≠ 0) :
  Calls Tryz.prog 146 #[.slice A n c, .int .i64 1] w fun e w' => ∃ A' n' c', e = .returned (.slice A' n' c') ∧ n' ≤ c' ∧ n' ≤ n ∧ Below w.heap.size w w' ∧ Ints w' w.heap.size w'.heap.size .u8 A' n' (canon 2 (v / 2)) := by
 obtain ⟨i0, hi0, hz0, hz1, hz2⟩ := info_parts Tryz.info5
 have hl := hX.len
 have hcc := canon2_cons hv0
 rw [hcc] at hX hl
 have hl2 : n = (canon 2 (v / 2)).length + 1 := by rw [← hl]; rfl
 have HL := Lib.hid hl2
 have hn0 : 0 < n := by omega
 by_cases h1 : n = 1
 · have hnil : canon 2 (v / 2) = [] := List.eq_nil_of_length_eq_zero (by omega)
   have HN := Lib.hid hnil
   clear hl hl2 hcc hnil
   subst h1
   go_enter Tryz.func146, Tryz.ntmps146
   go_wp2
   go_ret
   exact ⟨none, 0, 0, rfl, Nat.le_refl _, by omega, Below.refl _ _, by rw [HN.out]; exact Ints.nil_ ..⟩
 · have hn2 : ¬ (n : Int) ≤ 1 := by omega
   have hc2 : 1 < c := by omega
   have hc3 : ¬ c = 1 := by omega
   obtain ⟨b, o, hA, hb1, hb2, hc⟩ := hX.row hn0
   subst hA
   have hT := ints_tailR hX
   have hT2 := hT.alloc hhi (.cells #[] 5)
   have hE := own_empty w w.heap.size 5 1 (Nat.le_refl _)
   have hB1 : Below w.heap.size w (w.alloc (.cells #[] 5)) := (Below.refl _ _).alloc (Nat.le_refl _) _
   have hS1 : w.heap.size ≤ (w.alloc (.cells #[] 5)).heap.size := hB1.size
   have hd := (canon_spec 2 (v / 2) (by decide)).1
   have HD := Lib.hid hd
   clear hl hl2 hcc hc hT hd hX
   go_enter Tryz.func146, Tryz.ntmps146
   go_wp2_with (first
    | (at_builtin; refine wpList_append_raw _ rfl (.tmp 9) (.tmp 12) 171 rfl w.heap.size 5 i0 (.int .u8 0) 1 1 Tryz.underlying171 hi0 hz0 hz1 hz2 rfl (by decide) (.slice (some ⟨w.heap.size, 0, none⟩) 0 0) 0 [] rfl hE _ _ (some ⟨b, o + 1, none⟩) (n - 1) (c - 1) _ rfl hT2.raw ?c1 ?c2 ?c3 ?c4 ?_))
   case c1 => exact fun _ _ => rfl
   case c2 => unfold maxLen; omega
   case c3 => omega
   intro A2 c2 w2 hown2 hgrow2 _
   have hb2 : Below w.heap.size w w2 := hB1.grown hgrow2 hS1 (fun q hq => by cases hq; exact Nat.le_refl _)
   have hc2 := own_cap hown2
   have hI2 := Ints.of_own hown2 (fun y hy => by
    have := HD.out y hy
    simp only [IntKind.min, IntKind.max, IntKind.signed, IntKind.bits]
    omega) (by omega)
   clear hown2 hgrow2
   go_wp2
   go_ret
   exact ⟨A2, n - 1, c2, rfl, hc2, by omega, hb2, hI2⟩
/-- The near quotient: twice the quotient, down; one more; halved, down. -/
theorem near_ref (a b : Dn) (ha : a.May) (N : Nat) (hN : (quoN a b 1).1 + (if (quoN a b 1).2 ≠ 0 ∧ false ≠ a.neg then 1 else 0) = N) (s : Bool) (v : Nat) (hp : plusS a.neg N false 1 = (s, v)) :
  (v = 0 → nearD a b = (Dn.zero, 0)) ∧ (v ≠ 0 → nearD a b = formed s (v / 2 + if s = true ∧ v % 2 = 1 then 1 else 0) 0) := by
 unfold nearD
 have hz : a.neg = true → a.m ≠ 0 := fun h h0 => by
  have := (ha.2.2.1 h0).2
  rw [h] at this
  cases this
 generalize (quoN a b 1).1 = q at *
 generalize (quoN a b 1).2 = r at *
 cases hs : a.neg
 · rw [hs] at hN hp
   have h1 : N = q := by
    rw [if_neg (fun h => h.2 rfl)] at hN
    omega
   have h2 : s = false ∧ v = q + 1 := by
    unfold plusS at hp
    rw [if_pos rfl, h1] at hp
    injection hp with e1 e2
    exact ⟨e1.symm, e2.symm⟩
   obtain ⟨rfl, rfl⟩ := h2
   refine ⟨fun h => by omega, fun _ => ?_⟩
   have e : q / 2 + (if q % 2 = 1 ∧ (false = false ∨ r ≠ 0) then 1 else 0) = (q + 1) / 2 + (if false = true ∧ (q + 1) % 2 = 1 then 1 else 0) := by
    have e2 : (if false = true ∧ (q + 1) % 2 = 1 then 1 else 0) = 0 := if_neg (fun h => by cases h.1)
    rw [e2]
    by_cases h : q % 2 = 1
    · rw [if_pos ⟨h, .inl rfl⟩]
      omega
    · rw [if_neg (fun k => h k.1)]
      omega
   rw [e]
 · rw [hs] at hN hp
   unfold plusS at hp
   rw [if_neg (by decide)] at hp
   by_cases hN0 : 1 ≤ N
   · rw [if_pos hN0] at hp
     injection hp with e1 e2
     subst e1
     have e : q / 2 + (if q % 2 = 1 ∧ (true = false ∨ r ≠ 0) then 1 else 0) = v / 2 + (if true = true ∧ v % 2 = 1 then 1 else 0) := by
      by_cases hr : r = 0
      · rw [if_neg (fun h => h.1 hr)] at hN
        rw [if_neg (fun h => by rcases h.2 with h | h; cases h; exact h hr)]
        by_cases hv : v % 2 = 1
        · rw [if_pos ⟨rfl, hv⟩]
          omega
        · rw [if_neg (fun h => hv h.2)]
          omega
      · rw [if_pos ⟨hr, by decide⟩] at hN
        by_cases hq : q % 2 = 1
        · rw [if_pos ⟨hq, .inr hr⟩]
          by_cases hv : v % 2 = 1
          · rw [if_pos ⟨rfl, hv⟩]
            omega
          · rw [if_neg (fun h => hv h.2)]
            omega
        · rw [if_neg (fun h => hq h.1)]
          by_cases hv : v % 2 = 1
          · rw [if_pos ⟨rfl, hv⟩]
            omega
          · rw [if_neg (fun h => hv h.2)]
            omega
     refine ⟨fun h => ?_, fun _ => by rw [e]⟩
     subst h
     rw [e]
     rfl
   · rw [if_neg hN0] at hp
     injection hp with e1 e2
     subst e1
     have hq : q = 0 := by omega
     have hr : r = 0 := by
      by_cases hr : r = 0
      · exact hr
      · rw [if_pos ⟨hr, by decide⟩] at hN
        omega
     subst hq hr
     have hv : v = 1 := by omega
     subst hv
     refine ⟨fun h => by omega, fun _ => ?_⟩
     simp [formed]
end Dy
end Go.Proofs.YtmbppgjhdcmckaaGreatDoor