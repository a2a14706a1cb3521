/- push.Take: a walk (printed by a program of mine). -/
import Derived.Test.YtbbnbgllgomolaaDoorBt14
import Derived.Test.YtbbnbgllgomolaaDoorBt15
namespace Go.Proofs.YtbbnbgllgomolaaDoor
open Go.RowKit
namespace Ma
open Dp Dy
/-- Two masses in a row. -/
theorem lm_two {w : World} {g : Nat} {m s : Mv} (h : w.heap[g]? = some (.cells #[.bool m.S.s, .slice m.S.A m.S.n m.S.c, .int .i64 m.S.e, .bool m.W.s, .slice m.W.A m.W.n m.W.c, .int .i64 m.W.e, .bool m.C.s, .slice m.C.A m.C.n m.C.c, .int .i64 m.C.e, .bool m.A.s, .slice m.A.A m.A.n m.A.c, .int .i64 m.A.e, .bool s.S.s, .slice s.S.A s.S.n s.S.c, .int .i64 s.S.e, .bool s.W.s, .slice s.W.A s.W.n s.W.c, .int .i64 s.W.e, .bool s.C.s, .slice s.C.A s.C.n s.C.c, .int .i64 s.C.e, .bool s.A.s, .slice s.A.A s.A.n s.A.c, .int .i64 s.A.e] 26 (0, 0))) (hr : MRows w 0 w.heap.size m) (hs : MRows w 0 w.heap.size s) : LMs w 0 w.heap.size (some ⟨g, 0, none⟩) 2 [m, s] := by
 refine ⟨rfl, by decide, fun _ => ⟨g, 0, rfl, Nat.zero_le _, (Array.getElem?_eq_some_iff.1 h).1, fun j hj => ?_⟩, fun j hj => ?_⟩
 · have hj' : j = 0 ∨ j = 1 := by simp at hj; omega
   rcases hj' with rfl | rfl
   · exact ⟨cell_of_row w g 0 _ _ _ h, cell_of_row w g 1 _ _ _ h, cell_of_row w g 2 _ _ _ h, cell_of_row w g 3 _ _ _ h, cell_of_row w g 4 _ _ _ h, cell_of_row w g 5 _ _ _ h, cell_of_row w g 6 _ _ _ h, cell_of_row w g 7 _ _ _ h, cell_of_row w g 8 _ _ _ h, cell_of_row w g 9 _ _ _ h, cell_of_row w g 10 _ _ _ h, cell_of_row w g 11 _ _ _ h⟩
   · exact ⟨cell_of_row w g 12 _ _ _ h, cell_of_row w g 13 _ _ _ h, cell_of_row w g 14 _ _ _ h, cell_of_row w g 15 _ _ _ h, cell_of_row w g 16 _ _ _ h, cell_of_row w g 17 _ _ _ h, cell_of_row w g 18 _ _ _ h, cell_of_row w g 19 _ _ _ h, cell_of_row w g 20 _ _ _ h, cell_of_row w g 21 _ _ _ h, cell_of_row w g 22 _ _ _ h, cell_of_row w g 23 _ _ _ h⟩
 · have hj' : j = 0 ∨ j = 1 := by simp at hj; omega
   rcases hj' with rfl | rfl
   · exact hr
   · exact hs
/-- What comes of two sums. -/
def TakeD (q1 q2 : Int) (r1 r2 : Dn) (X Y : Dv) (c : Int) : Prop := (q1 = 0 ∧ q2 = 0 ∧ c = 0 ∧ Is r1 X ∧ Is r2 Y) ∨ (c = 10 ∧ ¬ (q1 = 0 ∧ q2 = 0))
theorem takeD {a b : Dv} {q f : Int} {X Y : Dv} {c : Int} {r1 r2 : Dn} (h : BothR a b q f X Y c) (h1 : q = 0 ∨ q = 10) (h2 : f = 0 ∨ f = 10) (ha : Is r1 a) (hb : Is r2 b) : TakeD q f r1 r2 X Y c := by
 rcases h with ⟨rfl, rfl, rfl, rfl, rfl⟩ | ⟨hq, rfl, rfl, rfl⟩ | ⟨rfl, hf, rfl, rfl, rfl⟩
 · exact .inl ⟨rfl, rfl, rfl, ha, hb⟩
 · exact .inr ⟨by rcases h1 with h | h; exact absurd h hq; exact h, fun k => hq k.1⟩
 · exact .inr ⟨by rcases h2 with h | h; exact absurd h hf; exact h, fun k => hf k.2⟩
def HeldXY (a b : Nat) (x y : Obj) (v : World) : Prop := v.heap[a]? = some x ∧ v.heap[b]? = some y
set_option maxHeartbeats 102400000 in
set_option maxRecDepth 100000 in
theorem Take_num (w : World) (m s : Mv) (hR : MRows w 0 w.heap.size m) (hS : MRows w 0 w.heap.size s) (hT : Tab w) (T : Nat → Dn) (code : Int) (hg : takeM m s = (T, code)) :
  Calls Tryd.prog 13 #[.agg #[.bool m.S.s, .slice m.S.A m.S.n m.S.c, .int .i64 m.S.e, .bool m.W.s, .slice m.W.A m.W.n m.W.c, .int .i64 m.W.e, .bool m.C.s, .slice m.C.A m.C.n m.C.c, .int .i64 m.C.e, .bool m.A.s, .slice m.A.A m.A.n m.A.c, .int .i64 m.A.e], .agg #[.bool s.S.s, .slice s.S.A s.S.n s.S.c, .int .i64 s.S.e, .bool s.W.s, .slice s.W.A s.W.n s.W.c, .int .i64 s.W.e, .bool s.C.s, .slice s.C.A s.C.n s.C.c, .int .i64 s.C.e, .bool s.A.s, .slice s.A.A s.A.n s.A.c, .int .i64 s.A.e]] w fun e w' => ∃ a : Mv, e = .returned (.tuple #[.agg #[.bool a.S.s, .slice a.S.A a.S.n a.S.c, .int .i64 a.S.e, .bool a.W.s, .slice a.W.A a.W.n a.W.c, .int .i64 a.W.e, .bool a.C.s, .slice a.C.A a.C.n a.C.c, .int .i64 a.C.e, .bool a.A.s, .slice a.A.A a.A.n a.A.c, .int .i64 a.A.e], .int .i64 code]) ∧ Below w.heap.size w w' ∧ IsM T a ∧ MRows w' w.heap.size w'.heap.size a := by
 generalize hw1 : (((w.alloc (.cells #[.bool m.S.s, .slice m.S.A m.S.n m.S.c, .int .i64 m.S.e, .bool m.W.s, .slice m.W.A m.W.n m.W.c, .int .i64 m.W.e, .bool m.C.s, .slice m.C.A m.C.n m.C.c, .int .i64 m.C.e, .bool m.A.s, .slice m.A.A m.A.n m.A.c, .int .i64 m.A.e] 26)).alloc (.cells #[.bool s.S.s, .slice s.S.A s.S.n s.S.c, .int .i64 s.S.e, .bool s.W.s, .slice s.W.A s.W.n s.W.c, .int .i64 s.W.e, .bool s.C.s, .slice s.C.A s.C.n s.C.c, .int .i64 s.C.e, .bool s.A.s, .slice s.A.A s.A.n s.A.c, .int .i64 s.A.e] 26)).alloc (.cells #[.bool false, .slice none 0 0, .int .i64 0, .bool false, .slice none 0 0, .int .i64 0, .bool false, .slice none 0 0, .int .i64 0, .bool false, .slice none 0 0, .int .i64 0] 26)).alloc (.cells #[.bool m.S.s, .slice m.S.A m.S.n m.S.c, .int .i64 m.S.e, .bool m.W.s, .slice m.W.A m.W.n m.W.c, .int .i64 m.W.e, .bool m.C.s, .slice m.C.A m.C.n m.C.c, .int .i64 m.C.e, .bool m.A.s, .slice m.A.A m.A.n m.A.c, .int .i64 m.A.e, .bool s.S.s, .slice s.S.A s.S.n s.S.c, .int .i64 s.S.e, .bool s.W.s, .slice s.W.A s.W.n s.W.c, .int .i64 s.W.e, .bool s.C.s, .slice s.C.A s.C.n s.C.c, .int .i64 s.C.e, .bool s.A.s, .slice s.A.A s.A.n s.A.c, .int .i64 s.A.e] 26) = w1
 obtain ⟨⟨hM, hN, hZ, hA⟩, hBL, lo1, hi1⟩ := boxes4 w _ _ _ _ hw1
 replace hM : MBox w1 w.heap.size m := hM
 replace hN : MBox w1 (w.heap.size + 1) s := hN
 replace hZ : MBox w1 (w.heap.size + 1 + 1) ZM := hZ
 replace hBL : Below w.heap.size w w1 := hBL
 have Rm : MRows w1 0 w1.heap.size m := hR.on hBL
 have Rs : MRows w1 0 w1.heap.size s := hS.on hBL
 have tT := hT.below hBL hT.lt
 have g0 := hT.lt
 have HR := Lib.hid hg
 have mT := Lib.hid (take_may hR hg)
 clear hg
 obtain ⟨b, hb⟩ : ∃ b, badS [m, s] = b := ⟨_, rfl⟩
 have HB := Lib.hid hb
 clear hb
 have M0 : MBox (((w.alloc (.cells #[.bool m.S.s, .slice m.S.A m.S.n m.S.c, .int .i64 m.S.e, .bool m.W.s, .slice m.W.A m.W.n m.W.c, .int .i64 m.W.e, .bool m.C.s, .slice m.C.A m.C.n m.C.c, .int .i64 m.C.e, .bool m.A.s, .slice m.A.A m.A.n m.A.c, .int .i64 m.A.e] 26)).alloc (.cells #[.bool s.S.s, .slice s.S.A s.S.n s.S.c, .int .i64 s.S.e, .bool s.W.s, .slice s.W.A s.W.n s.W.c, .int .i64 s.W.e, .bool s.C.s, .slice s.C.A s.C.n s.C.c, .int .i64 s.C.e, .bool s.A.s, .slice s.A.A s.A.n s.A.c, .int .i64 s.A.e] 26)).alloc (.cells #[.bool false, .slice none 0 0, .int .i64 0, .bool false, .slice none 0 0, .int .i64 0, .bool false, .slice none 0 0, .int .i64 0, .bool false, .slice none 0 0, .int .i64 0] 26)) w.heap.size m := (Below.heap_alloc _ _ _ (by simp <;> omega)).trans ((Below.heap_alloc _ _ _ (by simp)).trans (heap_alloc_last _ _))
 have N0 : MBox (((w.alloc (.cells #[.bool m.S.s, .slice m.S.A m.S.n m.S.c, .int .i64 m.S.e, .bool m.W.s, .slice m.W.A m.W.n m.W.c, .int .i64 m.W.e, .bool m.C.s, .slice m.C.A m.C.n m.C.c, .int .i64 m.C.e, .bool m.A.s, .slice m.A.A m.A.n m.A.c, .int .i64 m.A.e] 26)).alloc (.cells #[.bool s.S.s, .slice s.S.A s.S.n s.S.c, .int .i64 s.S.e, .bool s.W.s, .slice s.W.A s.W.n s.W.c, .int .i64 s.W.e, .bool s.C.s, .slice s.C.A s.C.n s.C.c, .int .i64 s.C.e, .bool s.A.s, .slice s.A.A s.A.n s.A.c, .int .i64 s.A.e] 26)).alloc (.cells #[.bool false, .slice none 0 0, .int .i64 0, .bool false, .slice none 0 0, .int .i64 0, .bool false, .slice none 0 0, .int .i64 0, .bool false, .slice none 0 0, .int .i64 0] 26)) (w.heap.size + 1) s := (Below.heap_alloc _ _ _ (by simp)).trans (heap_alloc2_new _ _ _)
 obtain ⟨⟨y0, y1, y2, y3, y4, y5, y6, y7, y8, y9, y10, y11⟩, yf⟩ := MBox.cells M0
 obtain ⟨⟨k0, k1, k2, k3, k4, k5, k6, k7, k8, k9, k10, k11⟩, kf⟩ := MBox.cells N0
 have hLM := lm_two hA Rm Rs
 have M1 : w.heap.size < w1.heap.size := by omega
 have N1 : w.heap.size + 1 < w1.heap.size := by omega
 have Z1 : w.heap.size + 1 + 1 < w1.heap.size := by omega
 clear hA
 go_enter Tryd.func13, Tryd.ntmps13
 go_wp2_with fail
 clear y0 y1 y2 y3 y4 y5 y6 y7 y8 y9 y10 y11 yf k0 k1 k2 k3 k4 k5 k6 k7 k8 k9 k10 k11 kf M0 N0
 try clear hw1
 refine (faulty_any w1 (some ⟨w.heap.size + 1 + 1 + 1, 0, none⟩) 2 2 [m, s] hLM (by decide) b HB.out).mono ?_
 rintro e' v1 ⟨rfl, j2⟩
 try clear hw
 clear hLM
 cases b
 rotate_left
 · have hcode : (zR, (8 : Int)) = (T, code) := by
    rw [← HR.out]
    unfold takeM
    rw [if_pos HB.out]
   injection hcode with h1 h2
   subst h1 h2
   obtain ⟨⟨q30, q31, q32, q33, q34, q35, q36, q37, q38, q39, q310, q311⟩, q3f⟩ := MBox.cells (box_later hZ j2 Z1)
   go_wp2
   obtain ⟨U, M, hc_, hMe, hX, hb_, _, _, _⟩ := zero_to (box_later hZ j2 Z1)
   rw [hc_]
   have hY := hb_ _ _ (lz hBL j2) (by omega)
   clear q30 q31 q32 q33 q34 q35 q36 q37 q38 q39 q310 q311 q3f
   clear hc_
   obtain ⟨⟨k0, k1, k2, k3, k4, k5, k6, k7, k8, k9, k10, k11⟩, kf⟩ := MBox.cells hX
   refine bodyPost_ret (v := .tuple #[.agg #[.bool M.S.s, .slice M.S.A M.S.n M.S.c, .int .i64 M.S.e, .bool M.W.s, .slice M.W.A M.W.n M.W.c, .int .i64 M.W.e, .bool M.C.s, .slice M.C.A M.C.n M.C.c, .int .i64 M.C.e, .bool M.A.s, .slice M.A.A M.A.n M.A.c, .int .i64 M.A.e], .int .i64 8]) (by simp [results, Tryd.results13, go_sem, k0, k1, k2, k3, k4, k5, k6, k7, k8, k9, k10, k11]) rfl ⟨M, rfl, hY, ?_, ?_⟩
   · rw [hMe]
     exact IsM.zero
   · rw [hMe]
     exact ZM_rows ..
 · have hSH := badS_two.1 HB.out
   obtain ⟨r1, q1, hr1⟩ : ∃ r q, xAdd m s 0 = (r, q) := ⟨_, _, rfl⟩
   obtain ⟨r2, q2, hr2⟩ : ∃ r q, xAdd m s 1 = (r, q) := ⟨_, _, rfl⟩
   have Q1 := Lib.hid (addX_two (hSH.1.1 0 (by decide)) (hSH.2.1 0 (by decide)) hr1)
   have Q2 := Lib.hid (addX_two (hSH.1.1 1 (by decide)) (hSH.2.1 1 (by decide)) hr2)
   have h0 := HR.out
   unfold takeM at h0
   rw [if_neg (by rw [HB.out]; simp), hr1, hr2] at h0
   have HC : Hid ((if q1 = 0 ∧ q2 = 0 then (fun x => if x = 0 then r1 else if x = 1 then r2 else dnM m x, 0) else (zR, (10 : Int))) = (T, code)) := Lib.hid h0
   clear h0
   have IM := Lib.hid (IsM.of hR hSH.1.1)
   have H1 := Lib.hid hr1
   have H2 := Lib.hid hr2
   clear hSH hr1 hr2 HR
   go_wp2_with fail
   try clear hw
   refine region_E (Keeps v1) [] (m := 25) (L := #[zF,zF,zF,zF,zF,zF,zF,zF,zF,zF,zF,zF,zF,zF,zF,zF,zF,zF,zF,zF,zF,zF,zF,zF,zF]) (by kernel_rfl) (by rfl) (by rfl) ?_
   have j5 : Below v1.heap.size v1 v1.drew := (Below.refl _ _).drew
   generalize v1.drew = v4 at *
   refine zE 0 #[zT,zF,zF,zF,zF,zF,zF,zF,zF,zF,zF,zF,zF,zF,zF,zF,zF,zF,zF,zF,zF,zF,zF,zF,zF] ?_ rfl ?hy1 ?rest1
   case hy1 => intro w; go_simp; (try with_reducible rfl)
   try simp only [Act.put, zp]
   refine zE 2 #[zT,zF,zT,zF,zF,zF,zF,zF,zF,zF,zF,zF,zF,zF,zF,zF,zF,zF,zF,zF,zF,zF,zF,zF,zF] ?_ rfl ?hy2 ?rest2
   case hy2 => intro w; go_simp; (try with_reducible rfl)
   try simp only [Act.put, zp]
   refine zE 8 #[zT,zF,zT,zF,zF,zF,zF,zF,zT,zF,zF,zF,zF,zF,zF,zF,zF,zF,zF,zF,zF,zF,zF,zF,zF] ?_ rfl ?hy3 ?rest3
   case hy3 => intro w; go_simp; (try with_reducible rfl)
   try simp only [Act.put, zp]
   refine zE 10 #[zT,zF,zT,zF,zF,zF,zF,zF,zT,zF,zT,zF,zF,zF,zF,zF,zF,zF,zF,zF,zF,zF,zF,zF,zF] ?_ rfl ?hy4 ?rest4
   case hy4 => intro w; go_simp; (try with_reducible rfl)
   try simp only [Act.put, zp]
   have kpy6 : Keeps v1 v4 := fun p hp => Below.block j5 p hp
   refine readE (i := 1) (L := #[zT,zT,zT,zF,zF,zF,zF,zF,zT,zF,zT,zF,zF,zF,zF,zF,zF,zF,zF,zF,zF,zF,zF,zF,zF]) (v := .agg #[.bool m.S.s, .slice m.S.A m.S.n m.S.c, .int .i64 m.S.e]) rfl (by rfl) (by kernel_rfl) (by kernel_rfl) (by kernel_rfl) (fun _ _ _ h => h) (by assumption) (by rfl) ?y6 ?z7
   case y6 =>
    intro w' h1
    obtain ⟨⟨k0, k1, k2, k3, k4, k5, k6, k7, k8, k9, k10, k11⟩, kf⟩ := MBox.cells ((h1 _ (Nat.lt_of_lt_of_le M1 (Below.size j2))).trans (box_later hM j2 M1))
    go_simp
   try simp only [Act.put, zp]
   have kpy8 : Keeps v1 v4 := fun p hp => Below.block j5 p hp
   refine readE (i := 3) (L := #[zT,zT,zT,zT,zF,zF,zF,zF,zT,zF,zT,zF,zF,zF,zF,zF,zF,zF,zF,zF,zF,zF,zF,zF,zF]) (v := .agg #[.bool s.S.s, .slice s.S.A s.S.n s.S.c, .int .i64 s.S.e]) rfl (by rfl) (by kernel_rfl) (by kernel_rfl) (by kernel_rfl) (fun _ _ _ h => h) (by assumption) (by rfl) ?y8 ?z9
   case y8 =>
    intro w' h1
    obtain ⟨⟨k0, k1, k2, k3, k4, k5, k6, k7, k8, k9, k10, k11⟩, kf⟩ := MBox.cells ((h1 _ (Nat.lt_of_lt_of_le N1 (Below.size j2))).trans (box_later hN j2 N1))
    go_simp
   try simp only [Act.put, zp]
   have kpy10 : Keeps v1 v4 := fun p hp => Below.block j5 p hp
   refine readE (i := 9) (L := #[zT,zT,zT,zT,zF,zF,zF,zF,zT,zT,zT,zF,zF,zF,zF,zF,zF,zF,zF,zF,zF,zF,zF,zF,zF]) (v := .agg #[.bool m.W.s, .slice m.W.A m.W.n m.W.c, .int .i64 m.W.e]) rfl (by rfl) (by kernel_rfl) (by kernel_rfl) (by kernel_rfl) (fun _ _ _ h => h) (by assumption) (by rfl) ?y10 ?z11
   case y10 =>
    intro w' h1
    obtain ⟨⟨k0, k1, k2, k3, k4, k5, k6, k7, k8, k9, k10, k11⟩, kf⟩ := MBox.cells ((h1 _ (Nat.lt_of_lt_of_le M1 (Below.size j2))).trans (box_later hM j2 M1))
    go_simp
   try simp only [Act.put, zp]
   have kpy12 : Keeps v1 v4 := fun p hp => Below.block j5 p hp
   refine readE (i := 11) (L := #[zT,zT,zT,zT,zF,zF,zF,zF,zT,zT,zT,zT,zF,zF,zF,zF,zF,zF,zF,zF,zF,zF,zF,zF,zF]) (v := .agg #[.bool s.W.s, .slice s.W.A s.W.n s.W.c, .int .i64 s.W.e]) rfl (by rfl) (by kernel_rfl) (by kernel_rfl) (by kernel_rfl) (fun _ _ _ h => h) (by assumption) (by rfl) ?y12 ?z13
   case y12 =>
    intro w' h1
    obtain ⟨⟨k0, k1, k2, k3, k4, k5, k6, k7, k8, k9, k10, k11⟩, kf⟩ := MBox.cells ((h1 _ (Nat.lt_of_lt_of_le N1 (Below.size j2))).trans (box_later hN j2 N1))
    go_simp
   try simp only [Act.put, zp]
   refine E_of_C (fun (A : Act) a' w' => ∃ (v19 v20 v21 v22 v27 v28 v29 v30 v14 : Value) (g6 g7 : Nat) (X Y : Dv) (c : Int), a' = ((((((((((((((A.put (some 19) (v19)).put (some 20) (v20)).put (some 21) (v21)).put (some 22) (v22)).put (some 27) (v27)).put (some 28) (v28)).put (some 29) (v29)).put (some 30) (v30)).put (some 14) (v14)).put (some 31) (.agg #[.bool X.s, .slice X.A X.n X.c, .int .i64 X.e])).put (some 32) (.agg #[.bool Y.s, .slice Y.A Y.n Y.c, .int .i64 Y.e])).put (some 33) (.int .i64 c)).put (some 6) (.pointer (some ⟨g6, 0, none⟩))).put (some 7) (.pointer (some ⟨g7, 0, none⟩))) ∧ v1.heap.size ≤ g6 ∧ v1.heap.size ≤ g7 ∧ g6 ≠ g7 ∧ w'.heap[g6]? = some (.cells #[.bool false, .slice none 0 0, .int .i64 0] 24 (0, 0)) ∧ w'.heap[g7]? = some (.cells #[.bool false, .slice none 0 0, .int .i64 0] 24 (0, 0)) ∧ Below v1.heap.size v1 w' ∧ Hid (TakeD q1 q2 r1 r2 X Y c) ∧ OffD w' v1.heap.size g6 g7 X ∧ OffD w' v1.heap.size g6 g7 Y) #[zT,zT,zT,zT,zT,zT,zT,zT,zT,zT,zT,zT,zT,zT,zT,zT,zT,zT,zT,zT,zT,zT,zF,zF,zF] 3 ?leaf ?tree
   case leaf =>
    rintro a' w' ⟨v19, v20, v21, v22, v27, v28, v29, v30, v14, g6, g7, X, Y, c, rfl, lg6, lg7, hne, B6, B7, bw, HD, OX, OY⟩
    try simp only [Act.put, zp]
    have lt6 := lt_of_heap B6
    have lt7 := lt_of_heap B7
    have kp_ : Keeps v1 w' := fun p hp => Below.block bw p hp
    refine stepK (i := 22) (L := #[zT,zT,zT,zT,zT,zT,zT,zT,zT,zT,zT,zT,zT,zT,zT,zT,zT,zT,zT,zT,zT,zT,zT,zF,zF]) rfl (by rfl) (by kernel_rfl) (by rfl) (fun K hK => ?_)
    obtain ⟨⟨z0, z1, z2⟩, z3, z4, z5⟩ := boxD B6
    obtain ⟨U, hU, hX1, hbU, hfU, y1, y2⟩ := zputR B6 (.bool X.s) (.slice X.A X.n X.c) (.int .i64 X.e)
    go_simp
    try rw [hU]
    clear z0 z1 z2 z3 z4 z5 hU
    replace kp_ : Keeps v1 U := fun p hp => (hfU p (by omega)).trans (kp_ p hp)
    replace bw := hbU _ _ bw (by omega)
    replace B7 := (hfU g7 (Ne.symm hne)).trans B7
    replace OX := OX.far hfU (by omega) (.inl rfl)
    replace OY := OY.far hfU (by omega) (.inl rfl)
    refine hK _ _ ⟨fun _ _ => kp_, ?_⟩
    clear hK K hfU hbU B6
    try simp only [Act.put, zp]
    refine stepK (i := 23) (L := #[zT,zT,zT,zT,zT,zT,zT,zT,zT,zT,zT,zT,zT,zT,zT,zT,zT,zT,zT,zT,zT,zT,zT,zT,zF]) rfl (by rfl) (by kernel_rfl) (by rfl) (fun K hK => ?_)
    obtain ⟨⟨z0, z1, z2⟩, z3, z4, z5⟩ := boxD B7
    obtain ⟨U2, hU, hX2, hbU, hfU, y3, y4⟩ := zputR B7 (.bool Y.s) (.slice Y.A Y.n Y.c) (.int .i64 Y.e)
    go_simp
    try rw [hU]
    clear z0 z1 z2 z3 z4 z5 hU
    replace kp_ : Keeps v1 U2 := fun p hp => (hfU p (by omega)).trans (kp_ p hp)
    replace bw := hbU _ _ bw (by omega)
    replace hX1 := (hfU g6 hne).trans hX1
    replace OX := OX.far hfU (by omega) (.inr rfl)
    replace OY := OY.far hfU (by omega) (.inr rfl)
    refine hK _ _ ⟨fun _ _ => kp_, ?_⟩
    clear hK K hfU hbU B7 kp_
    try simp only [Act.put, zp]
    refine zE 24 #[zT,zT,zT,zT,zT,zT,zT,zT,zT,zT,zT,zT,zT,zT,zT,zT,zT,zT,zT,zT,zT,zT,zT,zT,zT] ?_ rfl ?hy11 ?rest11
    case hy11 => intro w; go_simp; (try with_reducible rfl)
    try simp only [Act.put, zp]
    refine doneE (by kernel_rfl) ?_ _
    have RX := OX.1
    have RY := OY.1
    clear OX OY
    have zU : v1.heap.size ≤ U2.heap.size := Below.size bw
    rcases HD.out with ⟨e1, e2, rfl, iX, iY⟩ | ⟨rfl, hn⟩
    · have iX := Lib.hid iX
      have iY := Lib.hid iY
      have hcode := HC.out
      rw [if_pos ⟨e1, e2⟩] at hcode
      injection hcode with h1 h2
      subst h2
      have HT1 := Lib.hid h1
      clear h1 e1 e2 HD HC
      go_wp2_with fail
      refine region_E (HeldXY g6 g7 (.cells #[.bool X.s, .slice X.A X.n X.c, .int .i64 X.e] 24 (0, 0)) (.cells #[.bool Y.s, .slice Y.A Y.n Y.c, .int .i64 Y.e] 24 (0, 0))) [] (m := 6) (L := #[zF,zF,zF,zF,zF,zF]) (by kernel_rfl) (by rfl) (by rfl) ?_
      have bw2 : Below v1.heap.size v1 U2.drew := bw.drew
      have hS0 : HeldXY g6 g7 (.cells #[.bool X.s, .slice X.A X.n X.c, .int .i64 X.e] 24 (0, 0)) (.cells #[.bool Y.s, .slice Y.A Y.n Y.c, .int .i64 Y.e] 24 (0, 0)) U2.drew := ⟨hX1, hX2⟩
      have lq6 : g6 < U2.drew.heap.size := lt_of_heap hX1
      have zq : U2.heap.size ≤ U2.drew.heap.size := Nat.le_refl _
      have zq2 : U2.drew.heap.size ≤ U2.heap.size := Nat.le_refl _
      have dB : Below U2.heap.size U2 U2.drew := (Below.refl _ _).drew
      replace RX : Ints U2.drew v1.heap.size U2.heap.size .u32 X.A X.n X.xs := RX.below dB (Nat.le_refl _)
      replace RY : Ints U2.drew v1.heap.size U2.heap.size .u32 Y.A Y.n Y.xs := RY.below dB (Nat.le_refl _)
      clear dB
      clear hX1 hX2 bw
      generalize U2.drew = U3 at *
      refine readE (i := 0) (L := #[zT,zF,zF,zF,zF,zF]) (v := .agg #[.bool X.s, .slice X.A X.n X.c, .int .i64 X.e]) rfl (by rfl) (by kernel_rfl) (by kernel_rfl) (by kernel_rfl) (fun _ _ _ h => h) (by assumption) (by rfl) ?ry_0 ?rr_0
      case ry_0 =>
       intro w' h1
       obtain ⟨⟨p0, p1, p2⟩, _⟩ := boxD h1.1
       go_simp
      try simp only [Act.put, zp]
      refine readE (i := 1) (L := #[zT,zT,zF,zF,zF,zF]) (v := .agg #[.bool Y.s, .slice Y.A Y.n Y.c, .int .i64 Y.e]) rfl (by rfl) (by kernel_rfl) (by kernel_rfl) (by kernel_rfl) (fun _ _ _ h => h) (by assumption) (by rfl) ?ry_1 ?rr_1
      case ry_1 =>
       intro w' h1
       obtain ⟨⟨p0, p1, p2⟩, _⟩ := boxD h1.2
       go_simp
      try simp only [Act.put, zp]
      refine zE 2 #[zT,zT,zT,zF,zF,zF] ?_ rfl ?hy14 ?rest14
      case hy14 => intro w; go_simp; (try with_reducible rfl)
      try simp only [Act.put, zp]
      have hM3 : MBox U3 w.heap.size m := (box_later hM (lz j2 bw2) M1)
      have hZ3 : MBox U3 (w.heap.size + 1 + 1) ZM := (box_later hZ (lz j2 bw2) Z1)
      have hw_0 : Below w.heap.size w U3 := (lz hBL (lz j2 bw2))
      have lz : v1.heap.size ≤ U3.heap.size := Below.size bw2
      have zz1 : w.heap.size ≤ w1.heap.size := Below.size hBL
      have zz2 : w1.heap.size ≤ v1.heap.size := Below.size j2
      refine stepK (i := 3) (L := #[zT,zT,zT,zT,zF,zF]) rfl (by rfl) (by kernel_rfl) (by rfl) (fun K hK => ?_)
      obtain ⟨⟨k0, k1, k2, k3, k4, k5, k6, k7, k8, k9, k10, k11⟩, kf⟩ := MBox.cells hM3
      go_simp
      clear k0 k1 k2 k3 k4 k5 k6 k7 k8 k9 k10 k11 kf
      have PX : MBox (((U3.setCell ⟨w.heap.size, 0, none⟩ (.bool X.s)).setCell ⟨w.heap.size, 1, none⟩ (.slice X.A X.n X.c)).setCell ⟨w.heap.size, 2, none⟩ (.int .i64 X.e)) w.heap.size ⟨X, m.W, m.C, m.A⟩ := MBox.put hM3 (x := 0) (by decide) X
      have FX : ∀ k, k ≠ w.heap.size → (((U3.setCell ⟨w.heap.size, 0, none⟩ (.bool X.s)).setCell ⟨w.heap.size, 1, none⟩ (.slice X.A X.n X.c)).setCell ⟨w.heap.size, 2, none⟩ (.int .i64 X.e)).heap[k]? = U3.heap[k]? := fun k hk => far3k hk _ _ _
      have BlX : Below w.heap.size w (((U3.setCell ⟨w.heap.size, 0, none⟩ (.bool X.s)).setCell ⟨w.heap.size, 1, none⟩ (.slice X.A X.n X.c)).setCell ⟨w.heap.size, 2, none⟩ (.int .i64 X.e)) := ((Below.setCell (hw_0) (Nat.le_refl _) _).setCell (Nat.le_refl _) _).setCell (Nat.le_refl _) _
      have SzX : (((U3.setCell ⟨w.heap.size, 0, none⟩ (.bool X.s)).setCell ⟨w.heap.size, 1, none⟩ (.slice X.A X.n X.c)).setCell ⟨w.heap.size, 2, none⟩ (.int .i64 X.e)).heap.size = U3.heap.size := by simp [World.setCell]
      generalize ((U3.setCell ⟨w.heap.size, 0, none⟩ (.bool X.s)).setCell ⟨w.heap.size, 1, none⟩ (.slice X.A X.n X.c)).setCell ⟨w.heap.size, 2, none⟩ (.int .i64 X.e) = V1 at *
      have hS1 : HeldXY g6 g7 (.cells #[.bool X.s, .slice X.A X.n X.c, .int .i64 X.e] 24 (0, 0)) (.cells #[.bool Y.s, .slice Y.A Y.n Y.c, .int .i64 Y.e] 24 (0, 0)) V1 := ⟨(FX _ (by omega)).trans hS0.1, (FX _ (by omega)).trans hS0.2⟩
      refine hK _ _ ⟨fun _ _ => hS1, ?_⟩
      clear hK K
      try simp only [Act.put, zp]
      refine zE 4 #[zT,zT,zT,zT,zT,zF] ?_ rfl ?hy16 ?rest16
      case hy16 => intro w; go_simp; (try with_reducible rfl)
      try simp only [Act.put, zp]
      refine stepK (i := 5) (L := #[zT,zT,zT,zT,zT,zT]) rfl (by rfl) (by kernel_rfl) (by rfl) (fun K hK => ?_)
      obtain ⟨⟨k0, k1, k2, k3, k4, k5, k6, k7, k8, k9, k10, k11⟩, kf⟩ := MBox.cells PX
      go_simp
      clear k0 k1 k2 k3 k4 k5 k6 k7 k8 k9 k10 k11 kf
      have PY : MBox (((V1.setCell ⟨w.heap.size, 3, none⟩ (.bool Y.s)).setCell ⟨w.heap.size, 4, none⟩ (.slice Y.A Y.n Y.c)).setCell ⟨w.heap.size, 5, none⟩ (.int .i64 Y.e)) w.heap.size ⟨X, Y, m.C, m.A⟩ := MBox.put PX (x := 1) (by decide) Y
      have FY : ∀ k, k ≠ w.heap.size → (((V1.setCell ⟨w.heap.size, 3, none⟩ (.bool Y.s)).setCell ⟨w.heap.size, 4, none⟩ (.slice Y.A Y.n Y.c)).setCell ⟨w.heap.size, 5, none⟩ (.int .i64 Y.e)).heap[k]? = V1.heap[k]? := fun k hk => far3k hk _ _ _
      have BlY : Below w.heap.size w (((V1.setCell ⟨w.heap.size, 3, none⟩ (.bool Y.s)).setCell ⟨w.heap.size, 4, none⟩ (.slice Y.A Y.n Y.c)).setCell ⟨w.heap.size, 5, none⟩ (.int .i64 Y.e)) := ((Below.setCell BlX (Nat.le_refl _) _).setCell (Nat.le_refl _) _).setCell (Nat.le_refl _) _
      have SzY : (((V1.setCell ⟨w.heap.size, 3, none⟩ (.bool Y.s)).setCell ⟨w.heap.size, 4, none⟩ (.slice Y.A Y.n Y.c)).setCell ⟨w.heap.size, 5, none⟩ (.int .i64 Y.e)).heap.size = V1.heap.size := by simp [World.setCell]
      generalize ((V1.setCell ⟨w.heap.size, 3, none⟩ (.bool Y.s)).setCell ⟨w.heap.size, 4, none⟩ (.slice Y.A Y.n Y.c)).setCell ⟨w.heap.size, 5, none⟩ (.int .i64 Y.e) = V2 at *
      have hS2 : HeldXY g6 g7 (.cells #[.bool X.s, .slice X.A X.n X.c, .int .i64 X.e] 24 (0, 0)) (.cells #[.bool Y.s, .slice Y.A Y.n Y.c, .int .i64 Y.e] 24 (0, 0)) V2 := ⟨(FY _ (by omega)).trans hS1.1, (FY _ (by omega)).trans hS1.2⟩
      refine hK _ _ ⟨fun _ _ => hS2, ?_⟩
      clear hK K
      try simp only [Act.put, zp]
      refine doneE (by kernel_rfl) ?_ _
      have F2 : ∀ k, k ≠ w.heap.size → V2.heap[k]? = U3.heap[k]? := fun k hk => (FY k hk).trans (FX k hk)
      have hZ4 : MBox V2 (w.heap.size + 1 + 1) ZM := (F2 _ (by omega)).trans hZ3
      replace RX : Ints V2 0 V2.heap.size .u32 X.A X.n X.xs := (intsR RX (w' := V2) (fun b h1 h2 => F2 b (by omega))).more (Nat.zero_le _) (by omega)
      replace RY : Ints V2 0 V2.heap.size .u32 Y.A Y.n Y.xs := (intsR RY (w' := V2) (fun b h1 h2 => F2 b (by omega))).more (Nat.zero_le _) (by omega)
      have RM2 : MRows V2 0 V2.heap.size m := (hR.below BlY (Nat.le_refl _)).more (Nat.le_refl _) (Below.size BlY)
      have RR : MRows V2 0 V2.heap.size ⟨X, Y, m.C, m.A⟩ := ⟨RX, RY, RM2.C, RM2.A⟩
      have iT : IsM T ⟨X, Y, m.C, m.A⟩ := by
       rw [← HT1.out]
       exact four iX.out iY.out (IM.out 2 (by decide)) (IM.out 3 (by decide))
      have nT := isM_n RR iT mT.out
      obtain ⟨M2, hM2⟩ : ∃ M2 : Mv, M2 = ⟨X, Y, m.C, m.A⟩ := ⟨_, rfl⟩
      rw [← hM2] at RR iT nT PY
      have iT2 := Lib.hid iT
      clear hM2 iT RX RY RM2 FX FY PX BlX hS0 hS1 hS2 hM3 hZ3 iX iY
      obtain ⟨⟨k0, k1, k2, k3, k4, k5, k6, k7, k8, k9, k10, k11⟩, kf⟩ := MBox.cells PY
      go_wp2_with fail
      refine (MTwin_any V2 M2 RR nT).mono ?_
      rintro e' V3 ⟨a, rfl, ht, hB, Ra⟩
      have hto := Lib.hid ht
      have bE := BlY.trans (hB.mono (Below.size BlY))
      have hZ5 : MBox V3 (w.heap.size + 1 + 1) ZM := box_on hZ4 hB (by omega)
      have z9 := Below.size hB
      clear k0 k1 k2 k3 k4 k5 k6 k7 k8 k9 k10 k11 kf ht hZ4 hB
      obtain ⟨⟨k0, k1, k2, k3, k4, k5, k6, k7, k8, k9, k10, k11⟩, kf⟩ := MBox.cells hZ5
      go_wp2
      obtain ⟨V4, hc_, hX, hb_, hf_, l5, l5'⟩ := all_to hZ5 a
      rw [hc_]
      clear hc_ k0 k1 k2 k3 k4 k5 k6 k7 k8 k9 k10 k11 kf
      have bF := hb_ _ _ bE (by omega)
      replace Ra := rows_rng Ra (w' := V4) (fun b h1 h2 => hf_ b (by omega))
      obtain ⟨⟨k0, k1, k2, k3, k4, k5, k6, k7, k8, k9, k10, k11⟩, kf⟩ := MBox.cells hX
      exact bodyPost_ret (v := .tuple #[.agg #[.bool a.S.s, .slice a.S.A a.S.n a.S.c, .int .i64 a.S.e, .bool a.W.s, .slice a.W.A a.W.n a.W.c, .int .i64 a.W.e, .bool a.C.s, .slice a.C.A a.C.n a.C.c, .int .i64 a.C.e, .bool a.A.s, .slice a.A.A a.A.n a.A.c, .int .i64 a.A.e], .int .i64 0]) (by simp [results, Tryd.results13, go_sem, k0, k1, k2, k3, k4, k5, k6, k7, k8, k9, k10, k11]) rfl ⟨a, rfl, bF, iT2.out.twin hto.out, Ra.more (by omega) (by omega)⟩
    · have hcode := HC.out
      rw [if_neg hn] at hcode
      injection hcode with h1 h2
      subst h1 h2
      clear hn HD HC
      obtain ⟨⟨q140, q141, q142, q143, q144, q145, q146, q147, q148, q149, q1410, q1411⟩, q14f⟩ := MBox.cells (box_later hZ (lz j2 bw) Z1)
      go_wp2
      obtain ⟨U, M, hc_, hMe, hX, hb_, _, _, _⟩ := zero_to (box_later hZ (lz j2 bw) Z1)
      rw [hc_]
      have hY := hb_ _ _ (lz hBL (lz j2 bw)) (by omega)
      clear q140 q141 q142 q143 q144 q145 q146 q147 q148 q149 q1410 q1411 q14f
      clear hc_
      obtain ⟨⟨k0, k1, k2, k3, k4, k5, k6, k7, k8, k9, k10, k11⟩, kf⟩ := MBox.cells hX
      refine bodyPost_ret (v := .tuple #[.agg #[.bool M.S.s, .slice M.S.A M.S.n M.S.c, .int .i64 M.S.e, .bool M.W.s, .slice M.W.A M.W.n M.W.c, .int .i64 M.W.e, .bool M.C.s, .slice M.C.A M.C.n M.C.c, .int .i64 M.C.e, .bool M.A.s, .slice M.A.A M.A.n M.A.c, .int .i64 M.A.e], .int .i64 10]) (by simp [results, Tryd.results13, go_sem, k0, k1, k2, k3, k4, k5, k6, k7, k8, k9, k10, k11]) rfl ⟨M, rfl, hY, ?_, ?_⟩
      · rw [hMe]
        exact IsM.zero
      · rw [hMe]
        exact ZM_rows ..
   case tree =>
    have zv4 := Below.size j5
    refine stepC3 (i := 4) (j := 20) (k := 21) (Li := #[zT,zT,zT,zT,zT,zF,zF,zF,zT,zT,zT,zT,zF,zF,zF,zF,zF,zF,zF,zF,zF,zF,zF,zF,zF]) (Lj := #[zT,zT,zT,zT,zF,zF,zF,zF,zT,zT,zT,zT,zF,zF,zF,zF,zF,zF,zF,zF,zT,zF,zF,zF,zF]) (Lk := #[zT,zT,zT,zT,zF,zF,zF,zF,zT,zT,zT,zT,zF,zF,zF,zF,zF,zF,zF,zF,zF,zT,zF,zF,zF]) rfl rfl rfl (by rfl) (by rfl) (by rfl) (by kernel_rfl) (by rfl) (by rfl) (by rfl) (fun K hK => ?o1_4) (fun K hK => ?o1_20) (fun K hK => ?o1_21)
    case o1_4 =>
     go_simp
     go_at_call 42
     refine (Add_all v4 m.S.s s.S.s m.S.A s.S.A m.S.n m.S.c s.S.n s.S.c m.S.xs s.S.xs m.S.e s.S.e (MRows.on Rm (lz j2 j5)).S (MRows.on Rs (lz j2 j5)).S (tab_later tT (lz j2 j5)) r1 q1 H1.out).mono ?_
     rintro e' v15 ⟨G1, m1, o1, rfl, _, j16, I1⟩
     have zv15 := Below.size j16
     refine hK _ _ ⟨fun _ _ => fun p hp => Below.block (lz j5 j16) p hp, ?_⟩
     clear hK K
     try simp only [Act.put, zp]
     refine zC 5 #[zT,zT,zT,zT,zT,zT,zF,zF,zT,zT,zT,zT,zF,zF,zF,zF,zF,zF,zF,zF,zF,zF,zF,zF,zF] ?_ rfl ?hy18 ?rest18
     case hy18 => intro w; go_simp; (try with_reducible rfl)
     try simp only [Act.put, zp]
     refine zC 6 #[zT,zT,zT,zT,zT,zT,zT,zF,zT,zT,zT,zT,zF,zF,zF,zF,zF,zF,zF,zF,zF,zF,zF,zF,zF] ?_ rfl ?hy19 ?rest19
     case hy19 => intro w; go_simp; (try with_reducible rfl)
     try simp only [Act.put, zp]
     refine stepC3 (i := 7) (j := 20) (k := 21) (Li := #[zT,zT,zT,zT,zT,zT,zT,zT,zT,zT,zT,zT,zF,zF,zF,zF,zF,zF,zF,zF,zF,zF,zF,zF,zF]) (Lj := #[zT,zT,zT,zT,zT,zT,zT,zF,zT,zT,zT,zT,zF,zF,zF,zF,zF,zF,zF,zF,zT,zF,zF,zF,zF]) (Lk := #[zT,zT,zT,zT,zT,zT,zT,zF,zT,zT,zT,zT,zF,zF,zF,zF,zF,zF,zF,zF,zF,zT,zF,zF,zF]) rfl rfl rfl (by rfl) (by rfl) (by rfl) (by kernel_rfl) (by rfl) (by rfl) (by rfl) (fun K hK => ?o2_7) (fun K hK => ?o2_20) (fun K hK => ?o2_21)
     case o2_7 =>
      go_simp
      go_at_call 41
      refine (both_any v15 r1.neg G1 m1 o1 r1.e q1).mono ?_
      rintro e' v17 ⟨rfl, j18, D_, E_, lD_⟩
      have sD : v15.heap.size < v17.heap.size := by omega
      have sE : v15.heap.size + 1 < v17.heap.size := by omega
      have zv17 := Below.size j18
      refine hK _ _ ⟨fun _ _ => fun p hp => Below.block (lz j5 (lz j16 j18)) p hp, ?_⟩
      clear hK K
      try simp only [Act.put, zp]
      refine stepC3 (i := 12) (j := 20) (k := 21) (Li := #[zT,zT,zT,zT,zT,zT,zT,zT,zT,zT,zT,zT,zT,zF,zF,zF,zF,zF,zF,zF,zF,zF,zF,zF,zF]) (Lj := #[zT,zT,zT,zT,zT,zT,zT,zT,zT,zT,zT,zT,zF,zF,zF,zF,zF,zF,zF,zF,zT,zF,zF,zF,zF]) (Lk := #[zT,zT,zT,zT,zT,zT,zT,zT,zT,zT,zT,zT,zF,zF,zF,zF,zF,zF,zF,zF,zF,zT,zF,zF,zF]) rfl rfl rfl (by rfl) (by rfl) (by rfl) (by kernel_rfl) (by rfl) (by rfl) (by rfl) (fun K hK => ?o3_12) (fun K hK => ?o3_20) (fun K hK => ?o3_21)
      case o3_12 =>
       go_simp
       go_at_call 42
       refine (Add_all v17 m.W.s s.W.s m.W.A s.W.A m.W.n m.W.c s.W.n s.W.c m.W.xs s.W.xs m.W.e s.W.e (MRows.on Rm (lz j2 (lz j5 (lz j16 j18)))).W (MRows.on Rs (lz j2 (lz j5 (lz j16 j18)))).W (tab_later tT (lz j2 (lz j5 (lz j16 j18)))) r2 q2 H2.out).mono ?_
       rintro e' v19 ⟨G2, m2, o2, rfl, _, j20, I2⟩
       have zv19 := Below.size j20
       refine hK _ _ ⟨fun _ _ => fun p hp => Below.block (lz j5 (lz j16 (lz j18 j20))) p hp, ?_⟩
       clear hK K
       try simp only [Act.put, zp]
       refine zC 13 #[zT,zT,zT,zT,zT,zT,zT,zT,zT,zT,zT,zT,zT,zT,zF,zF,zF,zF,zF,zF,zF,zF,zF,zF,zF] ?_ rfl ?hy20 ?rest20
       case hy20 => intro w; go_simp; (try with_reducible rfl)
       try simp only [Act.put, zp]
       refine zC 14 #[zT,zT,zT,zT,zT,zT,zT,zT,zT,zT,zT,zT,zT,zT,zT,zF,zF,zF,zF,zF,zF,zF,zF,zF,zF] ?_ rfl ?hy21 ?rest21
       case hy21 => intro w; go_simp; (try with_reducible rfl)
       try simp only [Act.put, zp]
       refine stepC3 (i := 15) (j := 20) (k := 21) (Li := #[zT,zT,zT,zT,zT,zT,zT,zT,zT,zT,zT,zT,zT,zT,zT,zT,zF,zF,zF,zF,zF,zF,zF,zF,zF]) (Lj := #[zT,zT,zT,zT,zT,zT,zT,zT,zT,zT,zT,zT,zT,zT,zT,zF,zF,zF,zF,zF,zT,zF,zF,zF,zF]) (Lk := #[zT,zT,zT,zT,zT,zT,zT,zT,zT,zT,zT,zT,zT,zT,zT,zF,zF,zF,zF,zF,zF,zT,zF,zF,zF]) rfl rfl rfl (by rfl) (by rfl) (by rfl) (by kernel_rfl) (by rfl) (by rfl) (by rfl) (fun K hK => ?o4_15) (fun K hK => ?o4_20) (fun K hK => ?o4_21)
       case o4_15 =>
        go_simp
        obtain ⟨X, Y, c, hX⟩ := bothR ⟨r1.neg, G1, m1, o1, r1.e, canon 4294967296 r1.m⟩ ⟨r2.neg, G2, m2, o2, r2.e, canon 4294967296 r2.m⟩ q1 q2
        go_at_call 63
        refine (both1_any v19 ⟨r1.neg, G1, m1, o1, r1.e, canon 4294967296 r1.m⟩ ⟨r2.neg, G2, m2, o2, r2.e, canon 4294967296 r2.m⟩ q1 q2 (v15.heap.size + 1) (v15.heap.size) (Nat.lt_of_lt_of_le sE (Below.size j20)) (Nat.lt_of_lt_of_le sD (Below.size j20)) (box_later E_ j20 sE) (box_later D_ j20 sD) X Y c hX).mono ?_
        rintro e' v21 ⟨rfl, j22⟩
        have HX := Lib.hid hX
        clear hX
        have zv21 := Below.size j22
        refine hK _ _ ⟨fun _ _ => fun p hp => Below.block (lz j5 (lz j16 (lz j18 (lz j20 j22)))) p hp, ?_⟩
        clear hK K
        try simp only [Act.put, zp]
        refine zC 16 #[zT,zT,zT,zT,zT,zT,zT,zT,zT,zT,zT,zT,zT,zT,zT,zT,zT,zF,zF,zF,zF,zF,zF,zF,zF] ?_ rfl ?hy22 ?rest22
        case hy22 => intro w; go_simp; (try with_reducible rfl)
        try simp only [Act.put, zp]
        refine zC 17 #[zT,zT,zT,zT,zT,zT,zT,zT,zT,zT,zT,zT,zT,zT,zT,zT,zT,zT,zF,zF,zF,zF,zF,zF,zF] ?_ rfl ?hy23 ?rest23
        case hy23 => intro w; go_simp; (try with_reducible rfl)
        try simp only [Act.put, zp]
        refine zC 18 #[zT,zT,zT,zT,zT,zT,zT,zT,zT,zT,zT,zT,zT,zT,zT,zT,zT,zT,zT,zF,zF,zF,zF,zF,zF] ?_ rfl ?hy24 ?rest24
        case hy24 => intro w; go_simp; (try with_reducible rfl)
        try simp only [Act.put, zp]
        refine zC 19 #[zT,zT,zT,zT,zT,zT,zT,zT,zT,zT,zT,zT,zT,zT,zT,zT,zT,zT,zT,zT,zF,zF,zF,zF,zF] ?_ rfl ?hy25 ?rest25
        case hy25 => intro w; go_simp; (try with_reducible rfl)
        try simp only [Act.put, zp]
        refine stepC2 (i := 20) (j := 21) (Li := #[zT,zT,zT,zT,zT,zT,zT,zT,zT,zT,zT,zT,zT,zT,zT,zT,zT,zT,zT,zT,zT,zF,zF,zF,zF]) (Lj := #[zT,zT,zT,zT,zT,zT,zT,zT,zT,zT,zT,zT,zT,zT,zT,zT,zT,zT,zT,zT,zF,zT,zF,zF,zF]) rfl rfl (by rfl) (by rfl) (by kernel_rfl) (by rfl) (by rfl) (fun K hK => ?o5_20) (fun K hK => ?o5_21)
        case o5_20 =>
         go_simp
         obtain ⟨v23, hc_, B6, j24, s25⟩ := alloc_d v21
         rw [hc_]
         clear hc_
         have zv23 := Below.size j24
         refine hK _ _ ⟨fun _ _ => fun p hp => Below.block (lz j5 (lz j16 (lz j18 (lz j20 (lz j22 j24))))) p hp, ?_⟩
         clear hK K
         try simp only [Act.put, zp]
         refine stepC (i := 21) (L := #[zT,zT,zT,zT,zT,zT,zT,zT,zT,zT,zT,zT,zT,zT,zT,zT,zT,zT,zT,zT,zT,zT,zF,zF,zF]) rfl (by rfl) (by kernel_rfl) (by rfl) (fun K hK => ?_)
         go_simp
         obtain ⟨v26, hc_, B7, j27, s28⟩ := alloc_d v23
         rw [hc_]
         clear hc_
         have zv26 := Below.size j27
         refine hK _ _ ⟨fun _ _ => fun p hp => Below.block (lz j5 (lz j16 (lz j18 (lz j20 (lz j22 (lz j24 j27)))))) p hp, ?_⟩
         clear hK K
         try simp only [Act.put, zp]
         have O1 : OffD v26 v1.heap.size (v21.heap.size) (v23.heap.size) ⟨r1.neg, G1, m1, o1, r1.e, canon 4294967296 r1.m⟩ := OffD.of (d := ⟨r1.neg, G1, m1, o1, r1.e, canon 4294967296 r1.m⟩) (Ints.below I1 (lz j18 (lz j20 (lz j22 (lz j24 j27)))) (Nat.le_refl _)) (by omega) (by omega) (by omega) (by omega)
         have O2 : OffD v26 v1.heap.size (v21.heap.size) (v23.heap.size) ⟨r2.neg, G2, m2, o2, r2.e, canon 4294967296 r2.m⟩ := OffD.of (d := ⟨r2.neg, G2, m2, o2, r2.e, canon 4294967296 r2.m⟩) (Ints.below I2 (lz j22 (lz j24 j27)) (Nat.le_refl _)) (by omega) (by omega) (by omega) (by omega)
         obtain ⟨OX, OY⟩ := HX.out.all (P := OffD v26 v1.heap.size (v21.heap.size) (v23.heap.size)) O1 O2 (OffD.zero ..)
         exact leafC ⟨.tuple #[.agg #[.bool r1.neg, .slice G1 m1 o1, .int .i64 r1.e], .int .i64 q1], .agg #[.bool r1.neg, .slice G1 m1 o1, .int .i64 r1.e], .int .i64 q1, .func (.func 63) #[] #[.pointer (some ⟨v15.heap.size + 1, 0, none⟩), .pointer (some ⟨v15.heap.size, 0, none⟩)], .tuple #[.agg #[.bool r2.neg, .slice G2 m2 o2, .int .i64 r2.e], .int .i64 q2], .agg #[.bool r2.neg, .slice G2 m2 o2, .int .i64 r2.e], .int .i64 q2, .tuple #[.agg #[.bool X.s, .slice X.A X.n X.c, .int .i64 X.e], .agg #[.bool Y.s, .slice Y.A Y.n Y.c, .int .i64 Y.e], .int .i64 c], .tuple #[.agg #[.bool X.s, .slice X.A X.n X.c, .int .i64 X.e], .agg #[.bool Y.s, .slice Y.A Y.n Y.c, .int .i64 Y.e], .int .i64 c], v21.heap.size, v23.heap.size, X, Y, c, rfl, by omega, by omega, by omega, (box_later B6 j27 s25), B7, (lz j5 (lz j16 (lz j18 (lz j20 (lz j22 (lz j24 j27)))))), Lib.hid (takeD HX.out Q1.out Q2.out ⟨rfl, rfl, rfl⟩ ⟨rfl, rfl, rfl⟩), OX, OY⟩
        case o5_21 =>
         go_simp
         obtain ⟨v29, hc_, B7, j30, s31⟩ := alloc_d v21
         rw [hc_]
         clear hc_
         have zv29 := Below.size j30
         refine hK _ _ ⟨fun _ _ => fun p hp => Below.block (lz j5 (lz j16 (lz j18 (lz j20 (lz j22 j30))))) p hp, ?_⟩
         clear hK K
         try simp only [Act.put, zp]
         refine stepC (i := 20) (L := #[zT,zT,zT,zT,zT,zT,zT,zT,zT,zT,zT,zT,zT,zT,zT,zT,zT,zT,zT,zT,zT,zT,zF,zF,zF]) rfl (by rfl) (by kernel_rfl) (by rfl) (fun K hK => ?_)
         go_simp
         obtain ⟨v32, hc_, B6, j33, s34⟩ := alloc_d v29
         rw [hc_]
         clear hc_
         have zv32 := Below.size j33
         refine hK _ _ ⟨fun _ _ => fun p hp => Below.block (lz j5 (lz j16 (lz j18 (lz j20 (lz j22 (lz j30 j33)))))) p hp, ?_⟩
         clear hK K
         try simp only [Act.put, zp]
         have O1 : OffD v32 v1.heap.size (v29.heap.size) (v21.heap.size) ⟨r1.neg, G1, m1, o1, r1.e, canon 4294967296 r1.m⟩ := OffD.of (d := ⟨r1.neg, G1, m1, o1, r1.e, canon 4294967296 r1.m⟩) (Ints.below I1 (lz j18 (lz j20 (lz j22 (lz j30 j33)))) (Nat.le_refl _)) (by omega) (by omega) (by omega) (by omega)
         have O2 : OffD v32 v1.heap.size (v29.heap.size) (v21.heap.size) ⟨r2.neg, G2, m2, o2, r2.e, canon 4294967296 r2.m⟩ := OffD.of (d := ⟨r2.neg, G2, m2, o2, r2.e, canon 4294967296 r2.m⟩) (Ints.below I2 (lz j22 (lz j30 j33)) (Nat.le_refl _)) (by omega) (by omega) (by omega) (by omega)
         obtain ⟨OX, OY⟩ := HX.out.all (P := OffD v32 v1.heap.size (v29.heap.size) (v21.heap.size)) O1 O2 (OffD.zero ..)
         exact leafC ⟨.tuple #[.agg #[.bool r1.neg, .slice G1 m1 o1, .int .i64 r1.e], .int .i64 q1], .agg #[.bool r1.neg, .slice G1 m1 o1, .int .i64 r1.e], .int .i64 q1, .func (.func 63) #[] #[.pointer (some ⟨v15.heap.size + 1, 0, none⟩), .pointer (some ⟨v15.heap.size, 0, none⟩)], .tuple #[.agg #[.bool r2.neg, .slice G2 m2 o2, .int .i64 r2.e], .int .i64 q2], .agg #[.bool r2.neg, .slice G2 m2 o2, .int .i64 r2.e], .int .i64 q2, .tuple #[.agg #[.bool X.s, .slice X.A X.n X.c, .int .i64 X.e], .agg #[.bool Y.s, .slice Y.A Y.n Y.c, .int .i64 Y.e], .int .i64 c], .tuple #[.agg #[.bool X.s, .slice X.A X.n X.c, .int .i64 X.e], .agg #[.bool Y.s, .slice Y.A Y.n Y.c, .int .i64 Y.e], .int .i64 c], v29.heap.size, v21.heap.size, X, Y, c, rfl, by omega, by omega, by omega, B6, (box_later B7 j33 s31), (lz j5 (lz j16 (lz j18 (lz j20 (lz j22 (lz j30 j33)))))), Lib.hid (takeD HX.out Q1.out Q2.out ⟨rfl, rfl, rfl⟩ ⟨rfl, rfl, rfl⟩), OX, OY⟩
       case o4_20 =>
        go_simp
        obtain ⟨v35, hc_, B6, j36, s37⟩ := alloc_d v19
        rw [hc_]
        clear hc_
        have zv35 := Below.size j36
        refine hK _ _ ⟨fun _ _ => fun p hp => Below.block (lz j5 (lz j16 (lz j18 (lz j20 j36)))) p hp, ?_⟩
        clear hK K
        try simp only [Act.put, zp]
        refine stepC2 (i := 15) (j := 21) (Li := #[zT,zT,zT,zT,zT,zT,zT,zT,zT,zT,zT,zT,zT,zT,zT,zT,zF,zF,zF,zF,zT,zF,zF,zF,zF]) (Lj := #[zT,zT,zT,zT,zT,zT,zT,zT,zT,zT,zT,zT,zT,zT,zT,zF,zF,zF,zF,zF,zT,zT,zF,zF,zF]) rfl rfl (by rfl) (by rfl) (by kernel_rfl) (by rfl) (by rfl) (fun K hK => ?o6_15) (fun K hK => ?o6_21)
        case o6_15 =>
         go_simp
         obtain ⟨X, Y, c, hX⟩ := bothR ⟨r1.neg, G1, m1, o1, r1.e, canon 4294967296 r1.m⟩ ⟨r2.neg, G2, m2, o2, r2.e, canon 4294967296 r2.m⟩ q1 q2
         go_at_call 63
         refine (both1_any v35 ⟨r1.neg, G1, m1, o1, r1.e, canon 4294967296 r1.m⟩ ⟨r2.neg, G2, m2, o2, r2.e, canon 4294967296 r2.m⟩ q1 q2 (v15.heap.size + 1) (v15.heap.size) (Nat.lt_of_lt_of_le sE (Below.size (lz j20 j36))) (Nat.lt_of_lt_of_le sD (Below.size (lz j20 j36))) (box_later E_ (lz j20 j36) sE) (box_later D_ (lz j20 j36) sD) X Y c hX).mono ?_
         rintro e' v38 ⟨rfl, j39⟩
         have HX := Lib.hid hX
         clear hX
         have zv38 := Below.size j39
         refine hK _ _ ⟨fun _ _ => fun p hp => Below.block (lz j5 (lz j16 (lz j18 (lz j20 (lz j36 j39))))) p hp, ?_⟩
         clear hK K
         try simp only [Act.put, zp]
         refine zC 16 #[zT,zT,zT,zT,zT,zT,zT,zT,zT,zT,zT,zT,zT,zT,zT,zT,zT,zF,zF,zF,zT,zF,zF,zF,zF] ?_ rfl ?hy28 ?rest28
         case hy28 => intro w; go_simp; (try with_reducible rfl)
         try simp only [Act.put, zp]
         refine zC 17 #[zT,zT,zT,zT,zT,zT,zT,zT,zT,zT,zT,zT,zT,zT,zT,zT,zT,zT,zF,zF,zT,zF,zF,zF,zF] ?_ rfl ?hy29 ?rest29
         case hy29 => intro w; go_simp; (try with_reducible rfl)
         try simp only [Act.put, zp]
         refine zC 18 #[zT,zT,zT,zT,zT,zT,zT,zT,zT,zT,zT,zT,zT,zT,zT,zT,zT,zT,zT,zF,zT,zF,zF,zF,zF] ?_ rfl ?hy30 ?rest30
         case hy30 => intro w; go_simp; (try with_reducible rfl)
         try simp only [Act.put, zp]
         refine zC 19 #[zT,zT,zT,zT,zT,zT,zT,zT,zT,zT,zT,zT,zT,zT,zT,zT,zT,zT,zT,zT,zT,zF,zF,zF,zF] ?_ rfl ?hy31 ?rest31
         case hy31 => intro w; go_simp; (try with_reducible rfl)
         try simp only [Act.put, zp]
         refine stepC (i := 21) (L := #[zT,zT,zT,zT,zT,zT,zT,zT,zT,zT,zT,zT,zT,zT,zT,zT,zT,zT,zT,zT,zT,zT,zF,zF,zF]) rfl (by rfl) (by kernel_rfl) (by rfl) (fun K hK => ?_)
         go_simp
         obtain ⟨v40, hc_, B7, j41, s42⟩ := alloc_d v38
         rw [hc_]
         clear hc_
         have zv40 := Below.size j41
         refine hK _ _ ⟨fun _ _ => fun p hp => Below.block (lz j5 (lz j16 (lz j18 (lz j20 (lz j36 (lz j39 j41)))))) p hp, ?_⟩
         clear hK K
         try simp only [Act.put, zp]
         have O1 : OffD v40 v1.heap.size (v19.heap.size) (v38.heap.size) ⟨r1.neg, G1, m1, o1, r1.e, canon 4294967296 r1.m⟩ := OffD.of (d := ⟨r1.neg, G1, m1, o1, r1.e, canon 4294967296 r1.m⟩) (Ints.below I1 (lz j18 (lz j20 (lz j36 (lz j39 j41)))) (Nat.le_refl _)) (by omega) (by omega) (by omega) (by omega)
         have O2 : OffD v40 v1.heap.size (v19.heap.size) (v38.heap.size) ⟨r2.neg, G2, m2, o2, r2.e, canon 4294967296 r2.m⟩ := OffD.of (d := ⟨r2.neg, G2, m2, o2, r2.e, canon 4294967296 r2.m⟩) (Ints.below I2 (lz j36 (lz j39 j41)) (Nat.le_refl _)) (by omega) (by omega) (by omega) (by omega)
         obtain ⟨OX, OY⟩ := HX.out.all (P := OffD v40 v1.heap.size (v19.heap.size) (v38.heap.size)) O1 O2 (OffD.zero ..)
         exact leafC ⟨.tuple #[.agg #[.bool r1.neg, .slice G1 m1 o1, .int .i64 r1.e], .int .i64 q1], .agg #[.bool r1.neg, .slice G1 m1 o1, .int .i64 r1.e], .int .i64 q1, .func (.func 63) #[] #[.pointer (some ⟨v15.heap.size + 1, 0, none⟩), .pointer (some ⟨v15.heap.size, 0, none⟩)], .tuple #[.agg #[.bool r2.neg, .slice G2 m2 o2, .int .i64 r2.e], .int .i64 q2], .agg #[.bool r2.neg, .slice G2 m2 o2, .int .i64 r2.e], .int .i64 q2, .tuple #[.agg #[.bool X.s, .slice X.A X.n X.c, .int .i64 X.e], .agg #[.bool Y.s, .slice Y.A Y.n Y.c, .int .i64 Y.e], .int .i64 c], .tuple #[.agg #[.bool X.s, .slice X.A X.n X.c, .int .i64 X.e], .agg #[.bool Y.s, .slice Y.A Y.n Y.c, .int .i64 Y.e], .int .i64 c], v19.heap.size, v38.heap.size, X, Y, c, rfl, by omega, by omega, by omega, (box_later B6 (lz j39 j41) s37), B7, (lz j5 (lz j16 (lz j18 (lz j20 (lz j36 (lz j39 j41)))))), Lib.hid (takeD HX.out Q1.out Q2.out ⟨rfl, rfl, rfl⟩ ⟨rfl, rfl, rfl⟩), OX, OY⟩
        case o6_21 =>
         go_simp
         obtain ⟨v43, hc_, B7, j44, s45⟩ := alloc_d v35
         rw [hc_]
         clear hc_
         have zv43 := Below.size j44
         refine hK _ _ ⟨fun _ _ => fun p hp => Below.block (lz j5 (lz j16 (lz j18 (lz j20 (lz j36 j44))))) p hp, ?_⟩
         clear hK K
         try simp only [Act.put, zp]
         refine stepC (i := 15) (L := #[zT,zT,zT,zT,zT,zT,zT,zT,zT,zT,zT,zT,zT,zT,zT,zT,zF,zF,zF,zF,zT,zT,zF,zF,zF]) rfl (by rfl) (by kernel_rfl) (by rfl) (fun K hK => ?_)
         go_simp
         obtain ⟨X, Y, c, hX⟩ := bothR ⟨r1.neg, G1, m1, o1, r1.e, canon 4294967296 r1.m⟩ ⟨r2.neg, G2, m2, o2, r2.e, canon 4294967296 r2.m⟩ q1 q2
         go_at_call 63
         refine (both1_any v43 ⟨r1.neg, G1, m1, o1, r1.e, canon 4294967296 r1.m⟩ ⟨r2.neg, G2, m2, o2, r2.e, canon 4294967296 r2.m⟩ q1 q2 (v15.heap.size + 1) (v15.heap.size) (Nat.lt_of_lt_of_le sE (Below.size (lz j20 (lz j36 j44)))) (Nat.lt_of_lt_of_le sD (Below.size (lz j20 (lz j36 j44)))) (box_later E_ (lz j20 (lz j36 j44)) sE) (box_later D_ (lz j20 (lz j36 j44)) sD) X Y c hX).mono ?_
         rintro e' v46 ⟨rfl, j47⟩
         have HX := Lib.hid hX
         clear hX
         have zv46 := Below.size j47
         refine hK _ _ ⟨fun _ _ => fun p hp => Below.block (lz j5 (lz j16 (lz j18 (lz j20 (lz j36 (lz j44 j47)))))) p hp, ?_⟩
         clear hK K
         try simp only [Act.put, zp]
         refine zC 16 #[zT,zT,zT,zT,zT,zT,zT,zT,zT,zT,zT,zT,zT,zT,zT,zT,zT,zF,zF,zF,zT,zT,zF,zF,zF] ?_ rfl ?hy34 ?rest34
         case hy34 => intro w; go_simp; (try with_reducible rfl)
         try simp only [Act.put, zp]
         refine zC 17 #[zT,zT,zT,zT,zT,zT,zT,zT,zT,zT,zT,zT,zT,zT,zT,zT,zT,zT,zF,zF,zT,zT,zF,zF,zF] ?_ rfl ?hy35 ?rest35
         case hy35 => intro w; go_simp; (try with_reducible rfl)
         try simp only [Act.put, zp]
         refine zC 18 #[zT,zT,zT,zT,zT,zT,zT,zT,zT,zT,zT,zT,zT,zT,zT,zT,zT,zT,zT,zF,zT,zT,zF,zF,zF] ?_ rfl ?hy36 ?rest36
         case hy36 => intro w; go_simp; (try with_reducible rfl)
         try simp only [Act.put, zp]
         refine zC 19 #[zT,zT,zT,zT,zT,zT,zT,zT,zT,zT,zT,zT,zT,zT,zT,zT,zT,zT,zT,zT,zT,zT,zF,zF,zF] ?_ rfl ?hy37 ?rest37
         case hy37 => intro w; go_simp; (try with_reducible rfl)
         try simp only [Act.put, zp]
         have O1 : OffD v46 v1.heap.size (v19.heap.size) (v35.heap.size) ⟨r1.neg, G1, m1, o1, r1.e, canon 4294967296 r1.m⟩ := OffD.of (d := ⟨r1.neg, G1, m1, o1, r1.e, canon 4294967296 r1.m⟩) (Ints.below I1 (lz j18 (lz j20 (lz j36 (lz j44 j47)))) (Nat.le_refl _)) (by omega) (by omega) (by omega) (by omega)
         have O2 : OffD v46 v1.heap.size (v19.heap.size) (v35.heap.size) ⟨r2.neg, G2, m2, o2, r2.e, canon 4294967296 r2.m⟩ := OffD.of (d := ⟨r2.neg, G2, m2, o2, r2.e, canon 4294967296 r2.m⟩) (Ints.below I2 (lz j36 (lz j44 j47)) (Nat.le_refl _)) (by omega) (by omega) (by omega) (by omega)
         obtain ⟨OX, OY⟩ := HX.out.all (P := OffD v46 v1.heap.size (v19.heap.size) (v35.heap.size)) O1 O2 (OffD.zero ..)
         exact leafC ⟨.tuple #[.agg #[.bool r1.neg, .slice G1 m1 o1, .int .i64 r1.e], .int .i64 q1], .agg #[.bool r1.neg, .slice G1 m1 o1, .int .i64 r1.e], .int .i64 q1, .func (.func 63) #[] #[.pointer (some ⟨v15.heap.size + 1, 0, none⟩), .pointer (some ⟨v15.heap.size, 0, none⟩)], .tuple #[.agg #[.bool r2.neg, .slice G2 m2 o2, .int .i64 r2.e], .int .i64 q2], .agg #[.bool r2.neg, .slice G2 m2 o2, .int .i64 r2.e], .int .i64 q2, .tuple #[.agg #[.bool X.s, .slice X.A X.n X.c, .int .i64 X.e], .agg #[.bool Y.s, .slice Y.A Y.n Y.c, .int .i64 Y.e], .int .i64 c], .tuple #[.agg #[.bool X.s, .slice X.A X.n X.c, .int .i64 X.e], .agg #[.bool Y.s, .slice Y.A Y.n Y.c, .int .i64 Y.e], .int .i64 c], v19.heap.size, v35.heap.size, X, Y, c, rfl, by omega, by omega, by omega, (box_later B6 (lz j44 j47) s37), (box_later B7 j47 s45), (lz j5 (lz j16 (lz j18 (lz j20 (lz j36 (lz j44 j47)))))), Lib.hid (takeD HX.out Q1.out Q2.out ⟨rfl, rfl, rfl⟩ ⟨rfl, rfl, rfl⟩), OX, OY⟩
       case o4_21 =>
        go_simp
        obtain ⟨v48, hc_, B7, j49, s50⟩ := alloc_d v19
        rw [hc_]
        clear hc_
        have zv48 := Below.size j49
        refine hK _ _ ⟨fun _ _ => fun p hp => Below.block (lz j5 (lz j16 (lz j18 (lz j20 j49)))) p hp, ?_⟩
        clear hK K
        try simp only [Act.put, zp]
        refine stepC2 (i := 15) (j := 20) (Li := #[zT,zT,zT,zT,zT,zT,zT,zT,zT,zT,zT,zT,zT,zT,zT,zT,zF,zF,zF,zF,zF,zT,zF,zF,zF]) (Lj := #[zT,zT,zT,zT,zT,zT,zT,zT,zT,zT,zT,zT,zT,zT,zT,zF,zF,zF,zF,zF,zT,zT,zF,zF,zF]) rfl rfl (by rfl) (by rfl) (by kernel_rfl) (by rfl) (by rfl) (fun K hK => ?o7_15) (fun K hK => ?o7_20)
        case o7_15 =>
         go_simp
         obtain ⟨X, Y, c, hX⟩ := bothR ⟨r1.neg, G1, m1, o1, r1.e, canon 4294967296 r1.m⟩ ⟨r2.neg, G2, m2, o2, r2.e, canon 4294967296 r2.m⟩ q1 q2
         go_at_call 63
         refine (both1_any v48 ⟨r1.neg, G1, m1, o1, r1.e, canon 4294967296 r1.m⟩ ⟨r2.neg, G2, m2, o2, r2.e, canon 4294967296 r2.m⟩ q1 q2 (v15.heap.size + 1) (v15.heap.size) (Nat.lt_of_lt_of_le sE (Below.size (lz j20 j49))) (Nat.lt_of_lt_of_le sD (Below.size (lz j20 j49))) (box_later E_ (lz j20 j49) sE) (box_later D_ (lz j20 j49) sD) X Y c hX).mono ?_
         rintro e' v51 ⟨rfl, j52⟩
         have HX := Lib.hid hX
         clear hX
         have zv51 := Below.size j52
         refine hK _ _ ⟨fun _ _ => fun p hp => Below.block (lz j5 (lz j16 (lz j18 (lz j20 (lz j49 j52))))) p hp, ?_⟩
         clear hK K
         try simp only [Act.put, zp]
         refine zC 16 #[zT,zT,zT,zT,zT,zT,zT,zT,zT,zT,zT,zT,zT,zT,zT,zT,zT,zF,zF,zF,zF,zT,zF,zF,zF] ?_ rfl ?hy38 ?rest38
         case hy38 => intro w; go_simp; (try with_reducible rfl)
         try simp only [Act.put, zp]
         refine zC 17 #[zT,zT,zT,zT,zT,zT,zT,zT,zT,zT,zT,zT,zT,zT,zT,zT,zT,zT,zF,zF,zF,zT,zF,zF,zF] ?_ rfl ?hy39 ?rest39
         case hy39 => intro w; go_simp; (try with_reducible rfl)
         try simp only [Act.put, zp]
         refine zC 18 #[zT,zT,zT,zT,zT,zT,zT,zT,zT,zT,zT,zT,zT,zT,zT,zT,zT,zT,zT,zF,zF,zT,zF,zF,zF] ?_ rfl ?hy40 ?rest40
         case hy40 => intro w; go_simp; (try with_reducible rfl)
         try simp only [Act.put, zp]
         refine zC 19 #[zT,zT,zT,zT,zT,zT,zT,zT,zT,zT,zT,zT,zT,zT,zT,zT,zT,zT,zT,zT,zF,zT,zF,zF,zF] ?_ rfl ?hy41 ?rest41
         case hy41 => intro w; go_simp; (try with_reducible rfl)
         try simp only [Act.put, zp]
         refine stepC (i := 20) (L := #[zT,zT,zT,zT,zT,zT,zT,zT,zT,zT,zT,zT,zT,zT,zT,zT,zT,zT,zT,zT,zT,zT,zF,zF,zF]) rfl (by rfl) (by kernel_rfl) (by rfl) (fun K hK => ?_)
         go_simp
         obtain ⟨v53, hc_, B6, j54, s55⟩ := alloc_d v51
         rw [hc_]
         clear hc_
         have zv53 := Below.size j54
         refine hK _ _ ⟨fun _ _ => fun p hp => Below.block (lz j5 (lz j16 (lz j18 (lz j20 (lz j49 (lz j52 j54)))))) p hp, ?_⟩
         clear hK K
         try simp only [Act.put, zp]
         have O1 : OffD v53 v1.heap.size (v51.heap.size) (v19.heap.size) ⟨r1.neg, G1, m1, o1, r1.e, canon 4294967296 r1.m⟩ := OffD.of (d := ⟨r1.neg, G1, m1, o1, r1.e, canon 4294967296 r1.m⟩) (Ints.below I1 (lz j18 (lz j20 (lz j49 (lz j52 j54)))) (Nat.le_refl _)) (by omega) (by omega) (by omega) (by omega)
         have O2 : OffD v53 v1.heap.size (v51.heap.size) (v19.heap.size) ⟨r2.neg, G2, m2, o2, r2.e, canon 4294967296 r2.m⟩ := OffD.of (d := ⟨r2.neg, G2, m2, o2, r2.e, canon 4294967296 r2.m⟩) (Ints.below I2 (lz j49 (lz j52 j54)) (Nat.le_refl _)) (by omega) (by omega) (by omega) (by omega)
         obtain ⟨OX, OY⟩ := HX.out.all (P := OffD v53 v1.heap.size (v51.heap.size) (v19.heap.size)) O1 O2 (OffD.zero ..)
         exact leafC ⟨.tuple #[.agg #[.bool r1.neg, .slice G1 m1 o1, .int .i64 r1.e], .int .i64 q1], .agg #[.bool r1.neg, .slice G1 m1 o1, .int .i64 r1.e], .int .i64 q1, .func (.func 63) #[] #[.pointer (some ⟨v15.heap.size + 1, 0, none⟩), .pointer (some ⟨v15.heap.size, 0, none⟩)], .tuple #[.agg #[.bool r2.neg, .slice G2 m2 o2, .int .i64 r2.e], .int .i64 q2], .agg #[.bool r2.neg, .slice G2 m2 o2, .int .i64 r2.e], .int .i64 q2, .tuple #[.agg #[.bool X.s, .slice X.A X.n X.c, .int .i64 X.e], .agg #[.bool Y.s, .slice Y.A Y.n Y.c, .int .i64 Y.e], .int .i64 c], .tuple #[.agg #[.bool X.s, .slice X.A X.n X.c, .int .i64 X.e], .agg #[.bool Y.s, .slice Y.A Y.n Y.c, .int .i64 Y.e], .int .i64 c], v51.heap.size, v19.heap.size, X, Y, c, rfl, by omega, by omega, by omega, B6, (box_later B7 (lz j52 j54) s50), (lz j5 (lz j16 (lz j18 (lz j20 (lz j49 (lz j52 j54)))))), Lib.hid (takeD HX.out Q1.out Q2.out ⟨rfl, rfl, rfl⟩ ⟨rfl, rfl, rfl⟩), OX, OY⟩
        case o7_20 =>
         go_simp
         obtain ⟨v56, hc_, B6, j57, s58⟩ := alloc_d v48
         rw [hc_]
         clear hc_
         have zv56 := Below.size j57
         refine hK _ _ ⟨fun _ _ => fun p hp => Below.block (lz j5 (lz j16 (lz j18 (lz j20 (lz j49 j57))))) p hp, ?_⟩
         clear hK K
         try simp only [Act.put, zp]
         refine stepC (i := 15) (L := #[zT,zT,zT,zT,zT,zT,zT,zT,zT,zT,zT,zT,zT,zT,zT,zT,zF,zF,zF,zF,zT,zT,zF,zF,zF]) rfl (by rfl) (by kernel_rfl) (by rfl) (fun K hK => ?_)
         go_simp
         obtain ⟨X, Y, c, hX⟩ := bothR ⟨r1.neg, G1, m1, o1, r1.e, canon 4294967296 r1.m⟩ ⟨r2.neg, G2, m2, o2, r2.e, canon 4294967296 r2.m⟩ q1 q2
         go_at_call 63
         refine (both1_any v56 ⟨r1.neg, G1, m1, o1, r1.e, canon 4294967296 r1.m⟩ ⟨r2.neg, G2, m2, o2, r2.e, canon 4294967296 r2.m⟩ q1 q2 (v15.heap.size + 1) (v15.heap.size) (Nat.lt_of_lt_of_le sE (Below.size (lz j20 (lz j49 j57)))) (Nat.lt_of_lt_of_le sD (Below.size (lz j20 (lz j49 j57)))) (box_later E_ (lz j20 (lz j49 j57)) sE) (box_later D_ (lz j20 (lz j49 j57)) sD) X Y c hX).mono ?_
         rintro e' v59 ⟨rfl, j60⟩
         have HX := Lib.hid hX
         clear hX
         have zv59 := Below.size j60
         refine hK _ _ ⟨fun _ _ => fun p hp => Below.block (lz j5 (lz j16 (lz j18 (lz j20 (lz j49 (lz j57 j60)))))) p hp, ?_⟩
         clear hK K
         try simp only [Act.put, zp]
         refine zC 16 #[zT,zT,zT,zT,zT,zT,zT,zT,zT,zT,zT,zT,zT,zT,zT,zT,zT,zF,zF,zF,zT,zT,zF,zF,zF] ?_ rfl ?hy44 ?rest44
         case hy44 => intro w; go_simp; (try with_reducible rfl)
         try simp only [Act.put, zp]
         refine zC 17 #[zT,zT,zT,zT,zT,zT,zT,zT,zT,zT,zT,zT,zT,zT,zT,zT,zT,zT,zF,zF,zT,zT,zF,zF,zF] ?_ rfl ?hy45 ?rest45
         case hy45 => intro w; go_simp; (try with_reducible rfl)
         try simp only [Act.put, zp]
         refine zC 18 #[zT,zT,zT,zT,zT,zT,zT,zT,zT,zT,zT,zT,zT,zT,zT,zT,zT,zT,zT,zF,zT,zT,zF,zF,zF] ?_ rfl ?hy46 ?rest46
         case hy46 => intro w; go_simp; (try with_reducible rfl)
         try simp only [Act.put, zp]
         refine zC 19 #[zT,zT,zT,zT,zT,zT,zT,zT,zT,zT,zT,zT,zT,zT,zT,zT,zT,zT,zT,zT,zT,zT,zF,zF,zF] ?_ rfl ?hy47 ?rest47
         case hy47 => intro w; go_simp; (try with_reducible rfl)
         try simp only [Act.put, zp]
         have O1 : OffD v59 v1.heap.size (v48.heap.size) (v19.heap.size) ⟨r1.neg, G1, m1, o1, r1.e, canon 4294967296 r1.m⟩ := OffD.of (d := ⟨r1.neg, G1, m1, o1, r1.e, canon 4294967296 r1.m⟩) (Ints.below I1 (lz j18 (lz j20 (lz j49 (lz j57 j60)))) (Nat.le_refl _)) (by omega) (by omega) (by omega) (by omega)
         have O2 : OffD v59 v1.heap.size (v48.heap.size) (v19.heap.size) ⟨r2.neg, G2, m2, o2, r2.e, canon 4294967296 r2.m⟩ := OffD.of (d := ⟨r2.neg, G2, m2, o2, r2.e, canon 4294967296 r2.m⟩) (Ints.below I2 (lz j49 (lz j57 j60)) (Nat.le_refl _)) (by omega) (by omega) (by omega) (by omega)
         obtain ⟨OX, OY⟩ := HX.out.all (P := OffD v59 v1.heap.size (v48.heap.size) (v19.heap.size)) O1 O2 (OffD.zero ..)
         exact leafC ⟨.tuple #[.agg #[.bool r1.neg, .slice G1 m1 o1, .int .i64 r1.e], .int .i64 q1], .agg #[.bool r1.neg, .slice G1 m1 o1, .int .i64 r1.e], .int .i64 q1, .func (.func 63) #[] #[.pointer (some ⟨v15.heap.size + 1, 0, none⟩), .pointer (some ⟨v15.heap.size, 0, none⟩)], .tuple #[.agg #[.bool r2.neg, .slice G2 m2 o2, .int .i64 r2.e], .int .i64 q2], .agg #[.bool r2.neg, .slice G2 m2 o2, .int .i64 r2.e], .int .i64 q2, .tuple #[.agg #[.bool X.s, .slice X.A X.n X.c, .int .i64 X.e], .agg #[.bool Y.s, .slice Y.A Y.n Y.c, .int .i64 Y.e], .int .i64 c], .tuple #[.agg #[.bool X.s, .slice X.A X.n X.c, .int .i64 X.e], .agg #[.bool Y.s, .slice Y.A Y.n Y.c, .int .i64 Y.e], .int .i64 c], v48.heap.size, v19.heap.size, X, Y, c, rfl, by omega, by omega, by omega, (box_later B6 j60 s58), (box_later B7 (lz j57 j60) s50), (lz j5 (lz j16 (lz j18 (lz j20 (lz j49 (lz j57 j60)))))), Lib.hid (takeD HX.out Q1.out Q2.out ⟨rfl, rfl, rfl⟩ ⟨rfl, rfl, rfl⟩), OX, OY⟩
      case o3_20 =>
       go_simp
       obtain ⟨v61, hc_, B6, j62, s63⟩ := alloc_d v17
       rw [hc_]
       clear hc_
       have zv61 := Below.size j62
       refine hK _ _ ⟨fun _ _ => fun p hp => Below.block (lz j5 (lz j16 (lz j18 j62))) p hp, ?_⟩
       clear hK K
       try simp only [Act.put, zp]
       refine stepC2 (i := 12) (j := 21) (Li := #[zT,zT,zT,zT,zT,zT,zT,zT,zT,zT,zT,zT,zT,zF,zF,zF,zF,zF,zF,zF,zT,zF,zF,zF,zF]) (Lj := #[zT,zT,zT,zT,zT,zT,zT,zT,zT,zT,zT,zT,zF,zF,zF,zF,zF,zF,zF,zF,zT,zT,zF,zF,zF]) rfl rfl (by rfl) (by rfl) (by kernel_rfl) (by rfl) (by rfl) (fun K hK => ?o8_12) (fun K hK => ?o8_21)
       case o8_12 =>
        go_simp
        go_at_call 42
        refine (Add_all v61 m.W.s s.W.s m.W.A s.W.A m.W.n m.W.c s.W.n s.W.c m.W.xs s.W.xs m.W.e s.W.e (MRows.on Rm (lz j2 (lz j5 (lz j16 (lz j18 j62))))).W (MRows.on Rs (lz j2 (lz j5 (lz j16 (lz j18 j62))))).W (tab_later tT (lz j2 (lz j5 (lz j16 (lz j18 j62))))) r2 q2 H2.out).mono ?_
        rintro e' v64 ⟨G2, m2, o2, rfl, _, j65, I2⟩
        have zv64 := Below.size j65
        refine hK _ _ ⟨fun _ _ => fun p hp => Below.block (lz j5 (lz j16 (lz j18 (lz j62 j65)))) p hp, ?_⟩
        clear hK K
        try simp only [Act.put, zp]
        refine zC 13 #[zT,zT,zT,zT,zT,zT,zT,zT,zT,zT,zT,zT,zT,zT,zF,zF,zF,zF,zF,zF,zT,zF,zF,zF,zF] ?_ rfl ?hy48 ?rest48
        case hy48 => intro w; go_simp; (try with_reducible rfl)
        try simp only [Act.put, zp]
        refine zC 14 #[zT,zT,zT,zT,zT,zT,zT,zT,zT,zT,zT,zT,zT,zT,zT,zF,zF,zF,zF,zF,zT,zF,zF,zF,zF] ?_ rfl ?hy49 ?rest49
        case hy49 => intro w; go_simp; (try with_reducible rfl)
        try simp only [Act.put, zp]
        refine stepC2 (i := 15) (j := 21) (Li := #[zT,zT,zT,zT,zT,zT,zT,zT,zT,zT,zT,zT,zT,zT,zT,zT,zF,zF,zF,zF,zT,zF,zF,zF,zF]) (Lj := #[zT,zT,zT,zT,zT,zT,zT,zT,zT,zT,zT,zT,zT,zT,zT,zF,zF,zF,zF,zF,zT,zT,zF,zF,zF]) rfl rfl (by rfl) (by rfl) (by kernel_rfl) (by rfl) (by rfl) (fun K hK => ?o9_15) (fun K hK => ?o9_21)
        case o9_15 =>
         go_simp
         obtain ⟨X, Y, c, hX⟩ := bothR ⟨r1.neg, G1, m1, o1, r1.e, canon 4294967296 r1.m⟩ ⟨r2.neg, G2, m2, o2, r2.e, canon 4294967296 r2.m⟩ q1 q2
         go_at_call 63
         refine (both1_any v64 ⟨r1.neg, G1, m1, o1, r1.e, canon 4294967296 r1.m⟩ ⟨r2.neg, G2, m2, o2, r2.e, canon 4294967296 r2.m⟩ q1 q2 (v15.heap.size + 1) (v15.heap.size) (Nat.lt_of_lt_of_le sE (Below.size (lz j62 j65))) (Nat.lt_of_lt_of_le sD (Below.size (lz j62 j65))) (box_later E_ (lz j62 j65) sE) (box_later D_ (lz j62 j65) sD) X Y c hX).mono ?_
         rintro e' v66 ⟨rfl, j67⟩
         have HX := Lib.hid hX
         clear hX
         have zv66 := Below.size j67
         refine hK _ _ ⟨fun _ _ => fun p hp => Below.block (lz j5 (lz j16 (lz j18 (lz j62 (lz j65 j67))))) p hp, ?_⟩
         clear hK K
         try simp only [Act.put, zp]
         refine zC 16 #[zT,zT,zT,zT,zT,zT,zT,zT,zT,zT,zT,zT,zT,zT,zT,zT,zT,zF,zF,zF,zT,zF,zF,zF,zF] ?_ rfl ?hy50 ?rest50
         case hy50 => intro w; go_simp; (try with_reducible rfl)
         try simp only [Act.put, zp]
         refine zC 17 #[zT,zT,zT,zT,zT,zT,zT,zT,zT,zT,zT,zT,zT,zT,zT,zT,zT,zT,zF,zF,zT,zF,zF,zF,zF] ?_ rfl ?hy51 ?rest51
         case hy51 => intro w; go_simp; (try with_reducible rfl)
         try simp only [Act.put, zp]
         refine zC 18 #[zT,zT,zT,zT,zT,zT,zT,zT,zT,zT,zT,zT,zT,zT,zT,zT,zT,zT,zT,zF,zT,zF,zF,zF,zF] ?_ rfl ?hy52 ?rest52
         case hy52 => intro w; go_simp; (try with_reducible rfl)
         try simp only [Act.put, zp]
         refine zC 19 #[zT,zT,zT,zT,zT,zT,zT,zT,zT,zT,zT,zT,zT,zT,zT,zT,zT,zT,zT,zT,zT,zF,zF,zF,zF] ?_ rfl ?hy53 ?rest53
         case hy53 => intro w; go_simp; (try with_reducible rfl)
         try simp only [Act.put, zp]
         refine stepC (i := 21) (L := #[zT,zT,zT,zT,zT,zT,zT,zT,zT,zT,zT,zT,zT,zT,zT,zT,zT,zT,zT,zT,zT,zT,zF,zF,zF]) rfl (by rfl) (by kernel_rfl) (by rfl) (fun K hK => ?_)
         go_simp
         obtain ⟨v68, hc_, B7, j69, s70⟩ := alloc_d v66
         rw [hc_]
         clear hc_
         have zv68 := Below.size j69
         refine hK _ _ ⟨fun _ _ => fun p hp => Below.block (lz j5 (lz j16 (lz j18 (lz j62 (lz j65 (lz j67 j69)))))) p hp, ?_⟩
         clear hK K
         try simp only [Act.put, zp]
         have O1 : OffD v68 v1.heap.size (v17.heap.size) (v66.heap.size) ⟨r1.neg, G1, m1, o1, r1.e, canon 4294967296 r1.m⟩ := OffD.of (d := ⟨r1.neg, G1, m1, o1, r1.e, canon 4294967296 r1.m⟩) (Ints.below I1 (lz j18 (lz j62 (lz j65 (lz j67 j69)))) (Nat.le_refl _)) (by omega) (by omega) (by omega) (by omega)
         have O2 : OffD v68 v1.heap.size (v17.heap.size) (v66.heap.size) ⟨r2.neg, G2, m2, o2, r2.e, canon 4294967296 r2.m⟩ := OffD.of (d := ⟨r2.neg, G2, m2, o2, r2.e, canon 4294967296 r2.m⟩) (Ints.below I2 (lz j67 j69) (Nat.le_refl _)) (by omega) (by omega) (by omega) (by omega)
         obtain ⟨OX, OY⟩ := HX.out.all (P := OffD v68 v1.heap.size (v17.heap.size) (v66.heap.size)) O1 O2 (OffD.zero ..)
         exact leafC ⟨.tuple #[.agg #[.bool r1.neg, .slice G1 m1 o1, .int .i64 r1.e], .int .i64 q1], .agg #[.bool r1.neg, .slice G1 m1 o1, .int .i64 r1.e], .int .i64 q1, .func (.func 63) #[] #[.pointer (some ⟨v15.heap.size + 1, 0, none⟩), .pointer (some ⟨v15.heap.size, 0, none⟩)], .tuple #[.agg #[.bool r2.neg, .slice G2 m2 o2, .int .i64 r2.e], .int .i64 q2], .agg #[.bool r2.neg, .slice G2 m2 o2, .int .i64 r2.e], .int .i64 q2, .tuple #[.agg #[.bool X.s, .slice X.A X.n X.c, .int .i64 X.e], .agg #[.bool Y.s, .slice Y.A Y.n Y.c, .int .i64 Y.e], .int .i64 c], .tuple #[.agg #[.bool X.s, .slice X.A X.n X.c, .int .i64 X.e], .agg #[.bool Y.s, .slice Y.A Y.n Y.c, .int .i64 Y.e], .int .i64 c], v17.heap.size, v66.heap.size, X, Y, c, rfl, by omega, by omega, by omega, (box_later B6 (lz j65 (lz j67 j69)) s63), B7, (lz j5 (lz j16 (lz j18 (lz j62 (lz j65 (lz j67 j69)))))), Lib.hid (takeD HX.out Q1.out Q2.out ⟨rfl, rfl, rfl⟩ ⟨rfl, rfl, rfl⟩), OX, OY⟩
        case o9_21 =>
         go_simp
         obtain ⟨v71, hc_, B7, j72, s73⟩ := alloc_d v64
         rw [hc_]
         clear hc_
         have zv71 := Below.size j72
         refine hK _ _ ⟨fun _ _ => fun p hp => Below.block (lz j5 (lz j16 (lz j18 (lz j62 (lz j65 j72))))) p hp, ?_⟩
         clear hK K
         try simp only [Act.put, zp]
         refine stepC (i := 15) (L := #[zT,zT,zT,zT,zT,zT,zT,zT,zT,zT,zT,zT,zT,zT,zT,zT,zF,zF,zF,zF,zT,zT,zF,zF,zF]) rfl (by rfl) (by kernel_rfl) (by rfl) (fun K hK => ?_)
         go_simp
         obtain ⟨X, Y, c, hX⟩ := bothR ⟨r1.neg, G1, m1, o1, r1.e, canon 4294967296 r1.m⟩ ⟨r2.neg, G2, m2, o2, r2.e, canon 4294967296 r2.m⟩ q1 q2
         go_at_call 63
         refine (both1_any v71 ⟨r1.neg, G1, m1, o1, r1.e, canon 4294967296 r1.m⟩ ⟨r2.neg, G2, m2, o2, r2.e, canon 4294967296 r2.m⟩ q1 q2 (v15.heap.size + 1) (v15.heap.size) (Nat.lt_of_lt_of_le sE (Below.size (lz j62 (lz j65 j72)))) (Nat.lt_of_lt_of_le sD (Below.size (lz j62 (lz j65 j72)))) (box_later E_ (lz j62 (lz j65 j72)) sE) (box_later D_ (lz j62 (lz j65 j72)) sD) X Y c hX).mono ?_
         rintro e' v74 ⟨rfl, j75⟩
         have HX := Lib.hid hX
         clear hX
         have zv74 := Below.size j75
         refine hK _ _ ⟨fun _ _ => fun p hp => Below.block (lz j5 (lz j16 (lz j18 (lz j62 (lz j65 (lz j72 j75)))))) p hp, ?_⟩
         clear hK K
         try simp only [Act.put, zp]
         refine zC 16 #[zT,zT,zT,zT,zT,zT,zT,zT,zT,zT,zT,zT,zT,zT,zT,zT,zT,zF,zF,zF,zT,zT,zF,zF,zF] ?_ rfl ?hy56 ?rest56
         case hy56 => intro w; go_simp; (try with_reducible rfl)
         try simp only [Act.put, zp]
         refine zC 17 #[zT,zT,zT,zT,zT,zT,zT,zT,zT,zT,zT,zT,zT,zT,zT,zT,zT,zT,zF,zF,zT,zT,zF,zF,zF] ?_ rfl ?hy57 ?rest57
         case hy57 => intro w; go_simp; (try with_reducible rfl)
         try simp only [Act.put, zp]
         refine zC 18 #[zT,zT,zT,zT,zT,zT,zT,zT,zT,zT,zT,zT,zT,zT,zT,zT,zT,zT,zT,zF,zT,zT,zF,zF,zF] ?_ rfl ?hy58 ?rest58
         case hy58 => intro w; go_simp; (try with_reducible rfl)
         try simp only [Act.put, zp]
         refine zC 19 #[zT,zT,zT,zT,zT,zT,zT,zT,zT,zT,zT,zT,zT,zT,zT,zT,zT,zT,zT,zT,zT,zT,zF,zF,zF] ?_ rfl ?hy59 ?rest59
         case hy59 => intro w; go_simp; (try with_reducible rfl)
         try simp only [Act.put, zp]
         have O1 : OffD v74 v1.heap.size (v17.heap.size) (v64.heap.size) ⟨r1.neg, G1, m1, o1, r1.e, canon 4294967296 r1.m⟩ := OffD.of (d := ⟨r1.neg, G1, m1, o1, r1.e, canon 4294967296 r1.m⟩) (Ints.below I1 (lz j18 (lz j62 (lz j65 (lz j72 j75)))) (Nat.le_refl _)) (by omega) (by omega) (by omega) (by omega)
         have O2 : OffD v74 v1.heap.size (v17.heap.size) (v64.heap.size) ⟨r2.neg, G2, m2, o2, r2.e, canon 4294967296 r2.m⟩ := OffD.of (d := ⟨r2.neg, G2, m2, o2, r2.e, canon 4294967296 r2.m⟩) (Ints.below I2 (lz j72 j75) (Nat.le_refl _)) (by omega) (by omega) (by omega) (by omega)
         obtain ⟨OX, OY⟩ := HX.out.all (P := OffD v74 v1.heap.size (v17.heap.size) (v64.heap.size)) O1 O2 (OffD.zero ..)
         exact leafC ⟨.tuple #[.agg #[.bool r1.neg, .slice G1 m1 o1, .int .i64 r1.e], .int .i64 q1], .agg #[.bool r1.neg, .slice G1 m1 o1, .int .i64 r1.e], .int .i64 q1, .func (.func 63) #[] #[.pointer (some ⟨v15.heap.size + 1, 0, none⟩), .pointer (some ⟨v15.heap.size, 0, none⟩)], .tuple #[.agg #[.bool r2.neg, .slice G2 m2 o2, .int .i64 r2.e], .int .i64 q2], .agg #[.bool r2.neg, .slice G2 m2 o2, .int .i64 r2.e], .int .i64 q2, .tuple #[.agg #[.bool X.s, .slice X.A X.n X.c, .int .i64 X.e], .agg #[.bool Y.s, .slice Y.A Y.n Y.c, .int .i64 Y.e], .int .i64 c], .tuple #[.agg #[.bool X.s, .slice X.A X.n X.c, .int .i64 X.e], .agg #[.bool Y.s, .slice Y.A Y.n Y.c, .int .i64 Y.e], .int .i64 c], v17.heap.size, v64.heap.size, X, Y, c, rfl, by omega, by omega, by omega, (box_later B6 (lz j65 (lz j72 j75)) s63), (box_later B7 j75 s73), (lz j5 (lz j16 (lz j18 (lz j62 (lz j65 (lz j72 j75)))))), Lib.hid (takeD HX.out Q1.out Q2.out ⟨rfl, rfl, rfl⟩ ⟨rfl, rfl, rfl⟩), OX, OY⟩
       case o8_21 =>
        go_simp
        obtain ⟨v76, hc_, B7, j77, s78⟩ := alloc_d v61
        rw [hc_]
        clear hc_
        have zv76 := Below.size j77
        refine hK _ _ ⟨fun _ _ => fun p hp => Below.block (lz j5 (lz j16 (lz j18 (lz j62 j77)))) p hp, ?_⟩
        clear hK K
        try simp only [Act.put, zp]
        refine stepC (i := 12) (L := #[zT,zT,zT,zT,zT,zT,zT,zT,zT,zT,zT,zT,zT,zF,zF,zF,zF,zF,zF,zF,zT,zT,zF,zF,zF]) rfl (by rfl) (by kernel_rfl) (by rfl) (fun K hK => ?_)
        go_simp
        go_at_call 42
        refine (Add_all v76 m.W.s s.W.s m.W.A s.W.A m.W.n m.W.c s.W.n s.W.c m.W.xs s.W.xs m.W.e s.W.e (MRows.on Rm (lz j2 (lz j5 (lz j16 (lz j18 (lz j62 j77)))))).W (MRows.on Rs (lz j2 (lz j5 (lz j16 (lz j18 (lz j62 j77)))))).W (tab_later tT (lz j2 (lz j5 (lz j16 (lz j18 (lz j62 j77)))))) r2 q2 H2.out).mono ?_
        rintro e' v79 ⟨G2, m2, o2, rfl, _, j80, I2⟩
        have zv79 := Below.size j80
        refine hK _ _ ⟨fun _ _ => fun p hp => Below.block (lz j5 (lz j16 (lz j18 (lz j62 (lz j77 j80))))) p hp, ?_⟩
        clear hK K
        try simp only [Act.put, zp]
        refine zC 13 #[zT,zT,zT,zT,zT,zT,zT,zT,zT,zT,zT,zT,zT,zT,zF,zF,zF,zF,zF,zF,zT,zT,zF,zF,zF] ?_ rfl ?hy61 ?rest61
        case hy61 => intro w; go_simp; (try with_reducible rfl)
        try simp only [Act.put, zp]
        refine zC 14 #[zT,zT,zT,zT,zT,zT,zT,zT,zT,zT,zT,zT,zT,zT,zT,zF,zF,zF,zF,zF,zT,zT,zF,zF,zF] ?_ rfl ?hy62 ?rest62
        case hy62 => intro w; go_simp; (try with_reducible rfl)
        try simp only [Act.put, zp]
        refine stepC (i := 15) (L := #[zT,zT,zT,zT,zT,zT,zT,zT,zT,zT,zT,zT,zT,zT,zT,zT,zF,zF,zF,zF,zT,zT,zF,zF,zF]) rfl (by rfl) (by kernel_rfl) (by rfl) (fun K hK => ?_)
        go_simp
        obtain ⟨X, Y, c, hX⟩ := bothR ⟨r1.neg, G1, m1, o1, r1.e, canon 4294967296 r1.m⟩ ⟨r2.neg, G2, m2, o2, r2.e, canon 4294967296 r2.m⟩ q1 q2
        go_at_call 63
        refine (both1_any v79 ⟨r1.neg, G1, m1, o1, r1.e, canon 4294967296 r1.m⟩ ⟨r2.neg, G2, m2, o2, r2.e, canon 4294967296 r2.m⟩ q1 q2 (v15.heap.size + 1) (v15.heap.size) (Nat.lt_of_lt_of_le sE (Below.size (lz j62 (lz j77 j80)))) (Nat.lt_of_lt_of_le sD (Below.size (lz j62 (lz j77 j80)))) (box_later E_ (lz j62 (lz j77 j80)) sE) (box_later D_ (lz j62 (lz j77 j80)) sD) X Y c hX).mono ?_
        rintro e' v81 ⟨rfl, j82⟩
        have HX := Lib.hid hX
        clear hX
        have zv81 := Below.size j82
        refine hK _ _ ⟨fun _ _ => fun p hp => Below.block (lz j5 (lz j16 (lz j18 (lz j62 (lz j77 (lz j80 j82)))))) p hp, ?_⟩
        clear hK K
        try simp only [Act.put, zp]
        refine zC 16 #[zT,zT,zT,zT,zT,zT,zT,zT,zT,zT,zT,zT,zT,zT,zT,zT,zT,zF,zF,zF,zT,zT,zF,zF,zF] ?_ rfl ?hy64 ?rest64
        case hy64 => intro w; go_simp; (try with_reducible rfl)
        try simp only [Act.put, zp]
        refine zC 17 #[zT,zT,zT,zT,zT,zT,zT,zT,zT,zT,zT,zT,zT,zT,zT,zT,zT,zT,zF,zF,zT,zT,zF,zF,zF] ?_ rfl ?hy65 ?rest65
        case hy65 => intro w; go_simp; (try with_reducible rfl)
        try simp only [Act.put, zp]
        refine zC 18 #[zT,zT,zT,zT,zT,zT,zT,zT,zT,zT,zT,zT,zT,zT,zT,zT,zT,zT,zT,zF,zT,zT,zF,zF,zF] ?_ rfl ?hy66 ?rest66
        case hy66 => intro w; go_simp; (try with_reducible rfl)
        try simp only [Act.put, zp]
        refine zC 19 #[zT,zT,zT,zT,zT,zT,zT,zT,zT,zT,zT,zT,zT,zT,zT,zT,zT,zT,zT,zT,zT,zT,zF,zF,zF] ?_ rfl ?hy67 ?rest67
        case hy67 => intro w; go_simp; (try with_reducible rfl)
        try simp only [Act.put, zp]
        have O1 : OffD v81 v1.heap.size (v17.heap.size) (v61.heap.size) ⟨r1.neg, G1, m1, o1, r1.e, canon 4294967296 r1.m⟩ := OffD.of (d := ⟨r1.neg, G1, m1, o1, r1.e, canon 4294967296 r1.m⟩) (Ints.below I1 (lz j18 (lz j62 (lz j77 (lz j80 j82)))) (Nat.le_refl _)) (by omega) (by omega) (by omega) (by omega)
        have O2 : OffD v81 v1.heap.size (v17.heap.size) (v61.heap.size) ⟨r2.neg, G2, m2, o2, r2.e, canon 4294967296 r2.m⟩ := OffD.of (d := ⟨r2.neg, G2, m2, o2, r2.e, canon 4294967296 r2.m⟩) (Ints.below I2 j82 (Nat.le_refl _)) (by omega) (by omega) (by omega) (by omega)
        obtain ⟨OX, OY⟩ := HX.out.all (P := OffD v81 v1.heap.size (v17.heap.size) (v61.heap.size)) O1 O2 (OffD.zero ..)
        exact leafC ⟨.tuple #[.agg #[.bool r1.neg, .slice G1 m1 o1, .int .i64 r1.e], .int .i64 q1], .agg #[.bool r1.neg, .slice G1 m1 o1, .int .i64 r1.e], .int .i64 q1, .func (.func 63) #[] #[.pointer (some ⟨v15.heap.size + 1, 0, none⟩), .pointer (some ⟨v15.heap.size, 0, none⟩)], .tuple #[.agg #[.bool r2.neg, .slice G2 m2 o2, .int .i64 r2.e], .int .i64 q2], .agg #[.bool r2.neg, .slice G2 m2 o2, .int .i64 r2.e], .int .i64 q2, .tuple #[.agg #[.bool X.s, .slice X.A X.n X.c, .int .i64 X.e], .agg #[.bool Y.s, .slice Y.A Y.n Y.c, .int .i64 Y.e], .int .i64 c], .tuple #[.agg #[.bool X.s, .slice X.A X.n X.c, .int .i64 X.e], .agg #[.bool Y.s, .slice Y.A Y.n Y.c, .int .i64 Y.e], .int .i64 c], v17.heap.size, v61.heap.size, X, Y, c, rfl, by omega, by omega, by omega, (box_later B6 (lz j77 (lz j80 j82)) s63), (box_later B7 (lz j80 j82) s78), (lz j5 (lz j16 (lz j18 (lz j62 (lz j77 (lz j80 j82)))))), Lib.hid (takeD HX.out Q1.out Q2.out ⟨rfl, rfl, rfl⟩ ⟨rfl, rfl, rfl⟩), OX, OY⟩
      case o3_21 =>
       go_simp
       obtain ⟨v83, hc_, B7, j84, s85⟩ := alloc_d v17
       rw [hc_]
       clear hc_
       have zv83 := Below.size j84
       refine hK _ _ ⟨fun _ _ => fun p hp => Below.block (lz j5 (lz j16 (lz j18 j84))) p hp, ?_⟩
       clear hK K
       try simp only [Act.put, zp]
       refine stepC2 (i := 12) (j := 20) (Li := #[zT,zT,zT,zT,zT,zT,zT,zT,zT,zT,zT,zT,zT,zF,zF,zF,zF,zF,zF,zF,zF,zT,zF,zF,zF]) (Lj := #[zT,zT,zT,zT,zT,zT,zT,zT,zT,zT,zT,zT,zF,zF,zF,zF,zF,zF,zF,zF,zT,zT,zF,zF,zF]) rfl rfl (by rfl) (by rfl) (by kernel_rfl) (by rfl) (by rfl) (fun K hK => ?o10_12) (fun K hK => ?o10_20)
       case o10_12 =>
        go_simp
        go_at_call 42
        refine (Add_all v83 m.W.s s.W.s m.W.A s.W.A m.W.n m.W.c s.W.n s.W.c m.W.xs s.W.xs m.W.e s.W.e (MRows.on Rm (lz j2 (lz j5 (lz j16 (lz j18 j84))))).W (MRows.on Rs (lz j2 (lz j5 (lz j16 (lz j18 j84))))).W (tab_later tT (lz j2 (lz j5 (lz j16 (lz j18 j84))))) r2 q2 H2.out).mono ?_
        rintro e' v86 ⟨G2, m2, o2, rfl, _, j87, I2⟩
        have zv86 := Below.size j87
        refine hK _ _ ⟨fun _ _ => fun p hp => Below.block (lz j5 (lz j16 (lz j18 (lz j84 j87)))) p hp, ?_⟩
        clear hK K
        try simp only [Act.put, zp]
        refine zC 13 #[zT,zT,zT,zT,zT,zT,zT,zT,zT,zT,zT,zT,zT,zT,zF,zF,zF,zF,zF,zF,zF,zT,zF,zF,zF] ?_ rfl ?hy68 ?rest68
        case hy68 => intro w; go_simp; (try with_reducible rfl)
        try simp only [Act.put, zp]
        refine zC 14 #[zT,zT,zT,zT,zT,zT,zT,zT,zT,zT,zT,zT,zT,zT,zT,zF,zF,zF,zF,zF,zF,zT,zF,zF,zF] ?_ rfl ?hy69 ?rest69
        case hy69 => intro w; go_simp; (try with_reducible rfl)
        try simp only [Act.put, zp]
        refine stepC2 (i := 15) (j := 20) (Li := #[zT,zT,zT,zT,zT,zT,zT,zT,zT,zT,zT,zT,zT,zT,zT,zT,zF,zF,zF,zF,zF,zT,zF,zF,zF]) (Lj := #[zT,zT,zT,zT,zT,zT,zT,zT,zT,zT,zT,zT,zT,zT,zT,zF,zF,zF,zF,zF,zT,zT,zF,zF,zF]) rfl rfl (by rfl) (by rfl) (by kernel_rfl) (by rfl) (by rfl) (fun K hK => ?o11_15) (fun K hK => ?o11_20)
        case o11_15 =>
         go_simp
         obtain ⟨X, Y, c, hX⟩ := bothR ⟨r1.neg, G1, m1, o1, r1.e, canon 4294967296 r1.m⟩ ⟨r2.neg, G2, m2, o2, r2.e, canon 4294967296 r2.m⟩ q1 q2
         go_at_call 63
         refine (both1_any v86 ⟨r1.neg, G1, m1, o1, r1.e, canon 4294967296 r1.m⟩ ⟨r2.neg, G2, m2, o2, r2.e, canon 4294967296 r2.m⟩ q1 q2 (v15.heap.size + 1) (v15.heap.size) (Nat.lt_of_lt_of_le sE (Below.size (lz j84 j87))) (Nat.lt_of_lt_of_le sD (Below.size (lz j84 j87))) (box_later E_ (lz j84 j87) sE) (box_later D_ (lz j84 j87) sD) X Y c hX).mono ?_
         rintro e' v88 ⟨rfl, j89⟩
         have HX := Lib.hid hX
         clear hX
         have zv88 := Below.size j89
         refine hK _ _ ⟨fun _ _ => fun p hp => Below.block (lz j5 (lz j16 (lz j18 (lz j84 (lz j87 j89))))) p hp, ?_⟩
         clear hK K
         try simp only [Act.put, zp]
         refine zC 16 #[zT,zT,zT,zT,zT,zT,zT,zT,zT,zT,zT,zT,zT,zT,zT,zT,zT,zF,zF,zF,zF,zT,zF,zF,zF] ?_ rfl ?hy70 ?rest70
         case hy70 => intro w; go_simp; (try with_reducible rfl)
         try simp only [Act.put, zp]
         refine zC 17 #[zT,zT,zT,zT,zT,zT,zT,zT,zT,zT,zT,zT,zT,zT,zT,zT,zT,zT,zF,zF,zF,zT,zF,zF,zF] ?_ rfl ?hy71 ?rest71
         case hy71 => intro w; go_simp; (try with_reducible rfl)
         try simp only [Act.put, zp]
         refine zC 18 #[zT,zT,zT,zT,zT,zT,zT,zT,zT,zT,zT,zT,zT,zT,zT,zT,zT,zT,zT,zF,zF,zT,zF,zF,zF] ?_ rfl ?hy72 ?rest72
         case hy72 => intro w; go_simp; (try with_reducible rfl)
         try simp only [Act.put, zp]
         refine zC 19 #[zT,zT,zT,zT,zT,zT,zT,zT,zT,zT,zT,zT,zT,zT,zT,zT,zT,zT,zT,zT,zF,zT,zF,zF,zF] ?_ rfl ?hy73 ?rest73
         case hy73 => intro w; go_simp; (try with_reducible rfl)
         try simp only [Act.put, zp]
         refine stepC (i := 20) (L := #[zT,zT,zT,zT,zT,zT,zT,zT,zT,zT,zT,zT,zT,zT,zT,zT,zT,zT,zT,zT,zT,zT,zF,zF,zF]) rfl (by rfl) (by kernel_rfl) (by rfl) (fun K hK => ?_)
         go_simp
         obtain ⟨v90, hc_, B6, j91, s92⟩ := alloc_d v88
         rw [hc_]
         clear hc_
         have zv90 := Below.size j91
         refine hK _ _ ⟨fun _ _ => fun p hp => Below.block (lz j5 (lz j16 (lz j18 (lz j84 (lz j87 (lz j89 j91)))))) p hp, ?_⟩
         clear hK K
         try simp only [Act.put, zp]
         have O1 : OffD v90 v1.heap.size (v88.heap.size) (v17.heap.size) ⟨r1.neg, G1, m1, o1, r1.e, canon 4294967296 r1.m⟩ := OffD.of (d := ⟨r1.neg, G1, m1, o1, r1.e, canon 4294967296 r1.m⟩) (Ints.below I1 (lz j18 (lz j84 (lz j87 (lz j89 j91)))) (Nat.le_refl _)) (by omega) (by omega) (by omega) (by omega)
         have O2 : OffD v90 v1.heap.size (v88.heap.size) (v17.heap.size) ⟨r2.neg, G2, m2, o2, r2.e, canon 4294967296 r2.m⟩ := OffD.of (d := ⟨r2.neg, G2, m2, o2, r2.e, canon 4294967296 r2.m⟩) (Ints.below I2 (lz j89 j91) (Nat.le_refl _)) (by omega) (by omega) (by omega) (by omega)
         obtain ⟨OX, OY⟩ := HX.out.all (P := OffD v90 v1.heap.size (v88.heap.size) (v17.heap.size)) O1 O2 (OffD.zero ..)
         exact leafC ⟨.tuple #[.agg #[.bool r1.neg, .slice G1 m1 o1, .int .i64 r1.e], .int .i64 q1], .agg #[.bool r1.neg, .slice G1 m1 o1, .int .i64 r1.e], .int .i64 q1, .func (.func 63) #[] #[.pointer (some ⟨v15.heap.size + 1, 0, none⟩), .pointer (some ⟨v15.heap.size, 0, none⟩)], .tuple #[.agg #[.bool r2.neg, .slice G2 m2 o2, .int .i64 r2.e], .int .i64 q2], .agg #[.bool r2.neg, .slice G2 m2 o2, .int .i64 r2.e], .int .i64 q2, .tuple #[.agg #[.bool X.s, .slice X.A X.n X.c, .int .i64 X.e], .agg #[.bool Y.s, .slice Y.A Y.n Y.c, .int .i64 Y.e], .int .i64 c], .tuple #[.agg #[.bool X.s, .slice X.A X.n X.c, .int .i64 X.e], .agg #[.bool Y.s, .slice Y.A Y.n Y.c, .int .i64 Y.e], .int .i64 c], v88.heap.size, v17.heap.size, X, Y, c, rfl, by omega, by omega, by omega, B6, (box_later B7 (lz j87 (lz j89 j91)) s85), (lz j5 (lz j16 (lz j18 (lz j84 (lz j87 (lz j89 j91)))))), Lib.hid (takeD HX.out Q1.out Q2.out ⟨rfl, rfl, rfl⟩ ⟨rfl, rfl, rfl⟩), OX, OY⟩
        case o11_20 =>
         go_simp
         obtain ⟨v93, hc_, B6, j94, s95⟩ := alloc_d v86
         rw [hc_]
         clear hc_
         have zv93 := Below.size j94
         refine hK _ _ ⟨fun _ _ => fun p hp => Below.block (lz j5 (lz j16 (lz j18 (lz j84 (lz j87 j94))))) p hp, ?_⟩
         clear hK K
         try simp only [Act.put, zp]
         refine stepC (i := 15) (L := #[zT,zT,zT,zT,zT,zT,zT,zT,zT,zT,zT,zT,zT,zT,zT,zT,zF,zF,zF,zF,zT,zT,zF,zF,zF]) rfl (by rfl) (by kernel_rfl) (by rfl) (fun K hK => ?_)
         go_simp
         obtain ⟨X, Y, c, hX⟩ := bothR ⟨r1.neg, G1, m1, o1, r1.e, canon 4294967296 r1.m⟩ ⟨r2.neg, G2, m2, o2, r2.e, canon 4294967296 r2.m⟩ q1 q2
         go_at_call 63
         refine (both1_any v93 ⟨r1.neg, G1, m1, o1, r1.e, canon 4294967296 r1.m⟩ ⟨r2.neg, G2, m2, o2, r2.e, canon 4294967296 r2.m⟩ q1 q2 (v15.heap.size + 1) (v15.heap.size) (Nat.lt_of_lt_of_le sE (Below.size (lz j84 (lz j87 j94)))) (Nat.lt_of_lt_of_le sD (Below.size (lz j84 (lz j87 j94)))) (box_later E_ (lz j84 (lz j87 j94)) sE) (box_later D_ (lz j84 (lz j87 j94)) sD) X Y c hX).mono ?_
         rintro e' v96 ⟨rfl, j97⟩
         have HX := Lib.hid hX
         clear hX
         have zv96 := Below.size j97
         refine hK _ _ ⟨fun _ _ => fun p hp => Below.block (lz j5 (lz j16 (lz j18 (lz j84 (lz j87 (lz j94 j97)))))) p hp, ?_⟩
         clear hK K
         try simp only [Act.put, zp]
         refine zC 16 #[zT,zT,zT,zT,zT,zT,zT,zT,zT,zT,zT,zT,zT,zT,zT,zT,zT,zF,zF,zF,zT,zT,zF,zF,zF] ?_ rfl ?hy76 ?rest76
         case hy76 => intro w; go_simp; (try with_reducible rfl)
         try simp only [Act.put, zp]
         refine zC 17 #[zT,zT,zT,zT,zT,zT,zT,zT,zT,zT,zT,zT,zT,zT,zT,zT,zT,zT,zF,zF,zT,zT,zF,zF,zF] ?_ rfl ?hy77 ?rest77
         case hy77 => intro w; go_simp; (try with_reducible rfl)
         try simp only [Act.put, zp]
         refine zC 18 #[zT,zT,zT,zT,zT,zT,zT,zT,zT,zT,zT,zT,zT,zT,zT,zT,zT,zT,zT,zF,zT,zT,zF,zF,zF] ?_ rfl ?hy78 ?rest78
         case hy78 => intro w; go_simp; (try with_reducible rfl)
         try simp only [Act.put, zp]
         refine zC 19 #[zT,zT,zT,zT,zT,zT,zT,zT,zT,zT,zT,zT,zT,zT,zT,zT,zT,zT,zT,zT,zT,zT,zF,zF,zF] ?_ rfl ?hy79 ?rest79
         case hy79 => intro w; go_simp; (try with_reducible rfl)
         try simp only [Act.put, zp]
         have O1 : OffD v96 v1.heap.size (v86.heap.size) (v17.heap.size) ⟨r1.neg, G1, m1, o1, r1.e, canon 4294967296 r1.m⟩ := OffD.of (d := ⟨r1.neg, G1, m1, o1, r1.e, canon 4294967296 r1.m⟩) (Ints.below I1 (lz j18 (lz j84 (lz j87 (lz j94 j97)))) (Nat.le_refl _)) (by omega) (by omega) (by omega) (by omega)
         have O2 : OffD v96 v1.heap.size (v86.heap.size) (v17.heap.size) ⟨r2.neg, G2, m2, o2, r2.e, canon 4294967296 r2.m⟩ := OffD.of (d := ⟨r2.neg, G2, m2, o2, r2.e, canon 4294967296 r2.m⟩) (Ints.below I2 (lz j94 j97) (Nat.le_refl _)) (by omega) (by omega) (by omega) (by omega)
         obtain ⟨OX, OY⟩ := HX.out.all (P := OffD v96 v1.heap.size (v86.heap.size) (v17.heap.size)) O1 O2 (OffD.zero ..)
         exact leafC ⟨.tuple #[.agg #[.bool r1.neg, .slice G1 m1 o1, .int .i64 r1.e], .int .i64 q1], .agg #[.bool r1.neg, .slice G1 m1 o1, .int .i64 r1.e], .int .i64 q1, .func (.func 63) #[] #[.pointer (some ⟨v15.heap.size + 1, 0, none⟩), .pointer (some ⟨v15.heap.size, 0, none⟩)], .tuple #[.agg #[.bool r2.neg, .slice G2 m2 o2, .int .i64 r2.e], .int .i64 q2], .agg #[.bool r2.neg, .slice G2 m2 o2, .int .i64 r2.e], .int .i64 q2, .tuple #[.agg #[.bool X.s, .slice X.A X.n X.c, .int .i64 X.e], .agg #[.bool Y.s, .slice Y.A Y.n Y.c, .int .i64 Y.e], .int .i64 c], .tuple #[.agg #[.bool X.s, .slice X.A X.n X.c, .int .i64 X.e], .agg #[.bool Y.s, .slice Y.A Y.n Y.c, .int .i64 Y.e], .int .i64 c], v86.heap.size, v17.heap.size, X, Y, c, rfl, by omega, by omega, by omega, (box_later B6 j97 s95), (box_later B7 (lz j87 (lz j94 j97)) s85), (lz j5 (lz j16 (lz j18 (lz j84 (lz j87 (lz j94 j97)))))), Lib.hid (takeD HX.out Q1.out Q2.out ⟨rfl, rfl, rfl⟩ ⟨rfl, rfl, rfl⟩), OX, OY⟩
       case o10_20 =>
        go_simp
        obtain ⟨v98, hc_, B6, j99, s100⟩ := alloc_d v83
        rw [hc_]
        clear hc_
        have zv98 := Below.size j99
        refine hK _ _ ⟨fun _ _ => fun p hp => Below.block (lz j5 (lz j16 (lz j18 (lz j84 j99)))) p hp, ?_⟩
        clear hK K
        try simp only [Act.put, zp]
        refine stepC (i := 12) (L := #[zT,zT,zT,zT,zT,zT,zT,zT,zT,zT,zT,zT,zT,zF,zF,zF,zF,zF,zF,zF,zT,zT,zF,zF,zF]) rfl (by rfl) (by kernel_rfl) (by rfl) (fun K hK => ?_)
        go_simp
        go_at_call 42
        refine (Add_all v98 m.W.s s.W.s m.W.A s.W.A m.W.n m.W.c s.W.n s.W.c m.W.xs s.W.xs m.W.e s.W.e (MRows.on Rm (lz j2 (lz j5 (lz j16 (lz j18 (lz j84 j99)))))).W (MRows.on Rs (lz j2 (lz j5 (lz j16 (lz j18 (lz j84 j99)))))).W (tab_later tT (lz j2 (lz j5 (lz j16 (lz j18 (lz j84 j99)))))) r2 q2 H2.out).mono ?_
        rintro e' v101 ⟨G2, m2, o2, rfl, _, j102, I2⟩
        have zv101 := Below.size j102
        refine hK _ _ ⟨fun _ _ => fun p hp => Below.block (lz j5 (lz j16 (lz j18 (lz j84 (lz j99 j102))))) p hp, ?_⟩
        clear hK K
        try simp only [Act.put, zp]
        refine zC 13 #[zT,zT,zT,zT,zT,zT,zT,zT,zT,zT,zT,zT,zT,zT,zF,zF,zF,zF,zF,zF,zT,zT,zF,zF,zF] ?_ rfl ?hy81 ?rest81
        case hy81 => intro w; go_simp; (try with_reducible rfl)
        try simp only [Act.put, zp]
        refine zC 14 #[zT,zT,zT,zT,zT,zT,zT,zT,zT,zT,zT,zT,zT,zT,zT,zF,zF,zF,zF,zF,zT,zT,zF,zF,zF] ?_ rfl ?hy82 ?rest82
        case hy82 => intro w; go_simp; (try with_reducible rfl)
        try simp only [Act.put, zp]
        refine stepC (i := 15) (L := #[zT,zT,zT,zT,zT,zT,zT,zT,zT,zT,zT,zT,zT,zT,zT,zT,zF,zF,zF,zF,zT,zT,zF,zF,zF]) rfl (by rfl) (by kernel_rfl) (by rfl) (fun K hK => ?_)
        go_simp
        obtain ⟨X, Y, c, hX⟩ := bothR ⟨r1.neg, G1, m1, o1, r1.e, canon 4294967296 r1.m⟩ ⟨r2.neg, G2, m2, o2, r2.e, canon 4294967296 r2.m⟩ q1 q2
        go_at_call 63
        refine (both1_any v101 ⟨r1.neg, G1, m1, o1, r1.e, canon 4294967296 r1.m⟩ ⟨r2.neg, G2, m2, o2, r2.e, canon 4294967296 r2.m⟩ q1 q2 (v15.heap.size + 1) (v15.heap.size) (Nat.lt_of_lt_of_le sE (Below.size (lz j84 (lz j99 j102)))) (Nat.lt_of_lt_of_le sD (Below.size (lz j84 (lz j99 j102)))) (box_later E_ (lz j84 (lz j99 j102)) sE) (box_later D_ (lz j84 (lz j99 j102)) sD) X Y c hX).mono ?_
        rintro e' v103 ⟨rfl, j104⟩
        have HX := Lib.hid hX
        clear hX
        have zv103 := Below.size j104
        refine hK _ _ ⟨fun _ _ => fun p hp => Below.block (lz j5 (lz j16 (lz j18 (lz j84 (lz j99 (lz j102 j104)))))) p hp, ?_⟩
        clear hK K
        try simp only [Act.put, zp]
        refine zC 16 #[zT,zT,zT,zT,zT,zT,zT,zT,zT,zT,zT,zT,zT,zT,zT,zT,zT,zF,zF,zF,zT,zT,zF,zF,zF] ?_ rfl ?hy84 ?rest84
        case hy84 => intro w; go_simp; (try with_reducible rfl)
        try simp only [Act.put, zp]
        refine zC 17 #[zT,zT,zT,zT,zT,zT,zT,zT,zT,zT,zT,zT,zT,zT,zT,zT,zT,zT,zF,zF,zT,zT,zF,zF,zF] ?_ rfl ?hy85 ?rest85
        case hy85 => intro w; go_simp; (try with_reducible rfl)
        try simp only [Act.put, zp]
        refine zC 18 #[zT,zT,zT,zT,zT,zT,zT,zT,zT,zT,zT,zT,zT,zT,zT,zT,zT,zT,zT,zF,zT,zT,zF,zF,zF] ?_ rfl ?hy86 ?rest86
        case hy86 => intro w; go_simp; (try with_reducible rfl)
        try simp only [Act.put, zp]
        refine zC 19 #[zT,zT,zT,zT,zT,zT,zT,zT,zT,zT,zT,zT,zT,zT,zT,zT,zT,zT,zT,zT,zT,zT,zF,zF,zF] ?_ rfl ?hy87 ?rest87
        case hy87 => intro w; go_simp; (try with_reducible rfl)
        try simp only [Act.put, zp]
        have O1 : OffD v103 v1.heap.size (v83.heap.size) (v17.heap.size) ⟨r1.neg, G1, m1, o1, r1.e, canon 4294967296 r1.m⟩ := OffD.of (d := ⟨r1.neg, G1, m1, o1, r1.e, canon 4294967296 r1.m⟩) (Ints.below I1 (lz j18 (lz j84 (lz j99 (lz j102 j104)))) (Nat.le_refl _)) (by omega) (by omega) (by omega) (by omega)
        have O2 : OffD v103 v1.heap.size (v83.heap.size) (v17.heap.size) ⟨r2.neg, G2, m2, o2, r2.e, canon 4294967296 r2.m⟩ := OffD.of (d := ⟨r2.neg, G2, m2, o2, r2.e, canon 4294967296 r2.m⟩) (Ints.below I2 j104 (Nat.le_refl _)) (by omega) (by omega) (by omega) (by omega)
        obtain ⟨OX, OY⟩ := HX.out.all (P := OffD v103 v1.heap.size (v83.heap.size) (v17.heap.size)) O1 O2 (OffD.zero ..)
        exact leafC ⟨.tuple #[.agg #[.bool r1.neg, .slice G1 m1 o1, .int .i64 r1.e], .int .i64 q1], .agg #[.bool r1.neg, .slice G1 m1 o1, .int .i64 r1.e], .int .i64 q1, .func (.func 63) #[] #[.pointer (some ⟨v15.heap.size + 1, 0, none⟩), .pointer (some ⟨v15.heap.size, 0, none⟩)], .tuple #[.agg #[.bool r2.neg, .slice G2 m2 o2, .int .i64 r2.e], .int .i64 q2], .agg #[.bool r2.neg, .slice G2 m2 o2, .int .i64 r2.e], .int .i64 q2, .tuple #[.agg #[.bool X.s, .slice X.A X.n X.c, .int .i64 X.e], .agg #[.bool Y.s, .slice Y.A Y.n Y.c, .int .i64 Y.e], .int .i64 c], .tuple #[.agg #[.bool X.s, .slice X.A X.n X.c, .int .i64 X.e], .agg #[.bool Y.s, .slice Y.A Y.n Y.c, .int .i64 Y.e], .int .i64 c], v83.heap.size, v17.heap.size, X, Y, c, rfl, by omega, by omega, by omega, (box_later B6 (lz j102 j104) s100), (box_later B7 (lz j99 (lz j102 j104)) s85), (lz j5 (lz j16 (lz j18 (lz j84 (lz j99 (lz j102 j104)))))), Lib.hid (takeD HX.out Q1.out Q2.out ⟨rfl, rfl, rfl⟩ ⟨rfl, rfl, rfl⟩), OX, OY⟩
     case o2_20 =>
      go_simp
      obtain ⟨v105, hc_, B6, j106, s107⟩ := alloc_d v15
      rw [hc_]
      clear hc_
      have zv105 := Below.size j106
      refine hK _ _ ⟨fun _ _ => fun p hp => Below.block (lz j5 (lz j16 j106)) p hp, ?_⟩
      clear hK K
      try simp only [Act.put, zp]
      refine stepC2 (i := 7) (j := 21) (Li := #[zT,zT,zT,zT,zT,zT,zT,zT,zT,zT,zT,zT,zF,zF,zF,zF,zF,zF,zF,zF,zT,zF,zF,zF,zF]) (Lj := #[zT,zT,zT,zT,zT,zT,zT,zF,zT,zT,zT,zT,zF,zF,zF,zF,zF,zF,zF,zF,zT,zT,zF,zF,zF]) rfl rfl (by rfl) (by rfl) (by kernel_rfl) (by rfl) (by rfl) (fun K hK => ?o12_7) (fun K hK => ?o12_21)
      case o12_7 =>
       go_simp
       go_at_call 41
       refine (both_any v105 r1.neg G1 m1 o1 r1.e q1).mono ?_
       rintro e' v108 ⟨rfl, j109, D_, E_, lD_⟩
       have sD : v105.heap.size < v108.heap.size := by omega
       have sE : v105.heap.size + 1 < v108.heap.size := by omega
       have zv108 := Below.size j109
       refine hK _ _ ⟨fun _ _ => fun p hp => Below.block (lz j5 (lz j16 (lz j106 j109))) p hp, ?_⟩
       clear hK K
       try simp only [Act.put, zp]
       refine stepC2 (i := 12) (j := 21) (Li := #[zT,zT,zT,zT,zT,zT,zT,zT,zT,zT,zT,zT,zT,zF,zF,zF,zF,zF,zF,zF,zT,zF,zF,zF,zF]) (Lj := #[zT,zT,zT,zT,zT,zT,zT,zT,zT,zT,zT,zT,zF,zF,zF,zF,zF,zF,zF,zF,zT,zT,zF,zF,zF]) rfl rfl (by rfl) (by rfl) (by kernel_rfl) (by rfl) (by rfl) (fun K hK => ?o13_12) (fun K hK => ?o13_21)
       case o13_12 =>
        go_simp
        go_at_call 42
        refine (Add_all v108 m.W.s s.W.s m.W.A s.W.A m.W.n m.W.c s.W.n s.W.c m.W.xs s.W.xs m.W.e s.W.e (MRows.on Rm (lz j2 (lz j5 (lz j16 (lz j106 j109))))).W (MRows.on Rs (lz j2 (lz j5 (lz j16 (lz j106 j109))))).W (tab_later tT (lz j2 (lz j5 (lz j16 (lz j106 j109))))) r2 q2 H2.out).mono ?_
        rintro e' v110 ⟨G2, m2, o2, rfl, _, j111, I2⟩
        have zv110 := Below.size j111
        refine hK _ _ ⟨fun _ _ => fun p hp => Below.block (lz j5 (lz j16 (lz j106 (lz j109 j111)))) p hp, ?_⟩
        clear hK K
        try simp only [Act.put, zp]
        refine zC 13 #[zT,zT,zT,zT,zT,zT,zT,zT,zT,zT,zT,zT,zT,zT,zF,zF,zF,zF,zF,zF,zT,zF,zF,zF,zF] ?_ rfl ?hy88 ?rest88
        case hy88 => intro w; go_simp; (try with_reducible rfl)
        try simp only [Act.put, zp]
        refine zC 14 #[zT,zT,zT,zT,zT,zT,zT,zT,zT,zT,zT,zT,zT,zT,zT,zF,zF,zF,zF,zF,zT,zF,zF,zF,zF] ?_ rfl ?hy89 ?rest89
        case hy89 => intro w; go_simp; (try with_reducible rfl)
        try simp only [Act.put, zp]
        refine stepC2 (i := 15) (j := 21) (Li := #[zT,zT,zT,zT,zT,zT,zT,zT,zT,zT,zT,zT,zT,zT,zT,zT,zF,zF,zF,zF,zT,zF,zF,zF,zF]) (Lj := #[zT,zT,zT,zT,zT,zT,zT,zT,zT,zT,zT,zT,zT,zT,zT,zF,zF,zF,zF,zF,zT,zT,zF,zF,zF]) rfl rfl (by rfl) (by rfl) (by kernel_rfl) (by rfl) (by rfl) (fun K hK => ?o14_15) (fun K hK => ?o14_21)
        case o14_15 =>
         go_simp
         obtain ⟨X, Y, c, hX⟩ := bothR ⟨r1.neg, G1, m1, o1, r1.e, canon 4294967296 r1.m⟩ ⟨r2.neg, G2, m2, o2, r2.e, canon 4294967296 r2.m⟩ q1 q2
         go_at_call 63
         refine (both1_any v110 ⟨r1.neg, G1, m1, o1, r1.e, canon 4294967296 r1.m⟩ ⟨r2.neg, G2, m2, o2, r2.e, canon 4294967296 r2.m⟩ q1 q2 (v105.heap.size + 1) (v105.heap.size) (Nat.lt_of_lt_of_le sE (Below.size j111)) (Nat.lt_of_lt_of_le sD (Below.size j111)) (box_later E_ j111 sE) (box_later D_ j111 sD) X Y c hX).mono ?_
         rintro e' v112 ⟨rfl, j113⟩
         have HX := Lib.hid hX
         clear hX
         have zv112 := Below.size j113
         refine hK _ _ ⟨fun _ _ => fun p hp => Below.block (lz j5 (lz j16 (lz j106 (lz j109 (lz j111 j113))))) p hp, ?_⟩
         clear hK K
         try simp only [Act.put, zp]
         refine zC 16 #[zT,zT,zT,zT,zT,zT,zT,zT,zT,zT,zT,zT,zT,zT,zT,zT,zT,zF,zF,zF,zT,zF,zF,zF,zF] ?_ rfl ?hy90 ?rest90
         case hy90 => intro w; go_simp; (try with_reducible rfl)
         try simp only [Act.put, zp]
         refine zC 17 #[zT,zT,zT,zT,zT,zT,zT,zT,zT,zT,zT,zT,zT,zT,zT,zT,zT,zT,zF,zF,zT,zF,zF,zF,zF] ?_ rfl ?hy91 ?rest91
         case hy91 => intro w; go_simp; (try with_reducible rfl)
         try simp only [Act.put, zp]
         refine zC 18 #[zT,zT,zT,zT,zT,zT,zT,zT,zT,zT,zT,zT,zT,zT,zT,zT,zT,zT,zT,zF,zT,zF,zF,zF,zF] ?_ rfl ?hy92 ?rest92
         case hy92 => intro w; go_simp; (try with_reducible rfl)
         try simp only [Act.put, zp]
         refine zC 19 #[zT,zT,zT,zT,zT,zT,zT,zT,zT,zT,zT,zT,zT,zT,zT,zT,zT,zT,zT,zT,zT,zF,zF,zF,zF] ?_ rfl ?hy93 ?rest93
         case hy93 => intro w; go_simp; (try with_reducible rfl)
         try simp only [Act.put, zp]
         refine stepC (i := 21) (L := #[zT,zT,zT,zT,zT,zT,zT,zT,zT,zT,zT,zT,zT,zT,zT,zT,zT,zT,zT,zT,zT,zT,zF,zF,zF]) rfl (by rfl) (by kernel_rfl) (by rfl) (fun K hK => ?_)
         go_simp
         obtain ⟨v114, hc_, B7, j115, s116⟩ := alloc_d v112
         rw [hc_]
         clear hc_
         have zv114 := Below.size j115
         refine hK _ _ ⟨fun _ _ => fun p hp => Below.block (lz j5 (lz j16 (lz j106 (lz j109 (lz j111 (lz j113 j115)))))) p hp, ?_⟩
         clear hK K
         try simp only [Act.put, zp]
         have O1 : OffD v114 v1.heap.size (v15.heap.size) (v112.heap.size) ⟨r1.neg, G1, m1, o1, r1.e, canon 4294967296 r1.m⟩ := OffD.of (d := ⟨r1.neg, G1, m1, o1, r1.e, canon 4294967296 r1.m⟩) (Ints.below I1 (lz j106 (lz j109 (lz j111 (lz j113 j115)))) (Nat.le_refl _)) (by omega) (by omega) (by omega) (by omega)
         have O2 : OffD v114 v1.heap.size (v15.heap.size) (v112.heap.size) ⟨r2.neg, G2, m2, o2, r2.e, canon 4294967296 r2.m⟩ := OffD.of (d := ⟨r2.neg, G2, m2, o2, r2.e, canon 4294967296 r2.m⟩) (Ints.below I2 (lz j113 j115) (Nat.le_refl _)) (by omega) (by omega) (by omega) (by omega)
         obtain ⟨OX, OY⟩ := HX.out.all (P := OffD v114 v1.heap.size (v15.heap.size) (v112.heap.size)) O1 O2 (OffD.zero ..)
         exact leafC ⟨.tuple #[.agg #[.bool r1.neg, .slice G1 m1 o1, .int .i64 r1.e], .int .i64 q1], .agg #[.bool r1.neg, .slice G1 m1 o1, .int .i64 r1.e], .int .i64 q1, .func (.func 63) #[] #[.pointer (some ⟨v105.heap.size + 1, 0, none⟩), .pointer (some ⟨v105.heap.size, 0, none⟩)], .tuple #[.agg #[.bool r2.neg, .slice G2 m2 o2, .int .i64 r2.e], .int .i64 q2], .agg #[.bool r2.neg, .slice G2 m2 o2, .int .i64 r2.e], .int .i64 q2, .tuple #[.agg #[.bool X.s, .slice X.A X.n X.c, .int .i64 X.e], .agg #[.bool Y.s, .slice Y.A Y.n Y.c, .int .i64 Y.e], .int .i64 c], .tuple #[.agg #[.bool X.s, .slice X.A X.n X.c, .int .i64 X.e], .agg #[.bool Y.s, .slice Y.A Y.n Y.c, .int .i64 Y.e], .int .i64 c], v15.heap.size, v112.heap.size, X, Y, c, rfl, by omega, by omega, by omega, (box_later B6 (lz j109 (lz j111 (lz j113 j115))) s107), B7, (lz j5 (lz j16 (lz j106 (lz j109 (lz j111 (lz j113 j115)))))), Lib.hid (takeD HX.out Q1.out Q2.out ⟨rfl, rfl, rfl⟩ ⟨rfl, rfl, rfl⟩), OX, OY⟩
        case o14_21 =>
         go_simp
         obtain ⟨v117, hc_, B7, j118, s119⟩ := alloc_d v110
         rw [hc_]
         clear hc_
         have zv117 := Below.size j118
         refine hK _ _ ⟨fun _ _ => fun p hp => Below.block (lz j5 (lz j16 (lz j106 (lz j109 (lz j111 j118))))) p hp, ?_⟩
         clear hK K
         try simp only [Act.put, zp]
         refine stepC (i := 15) (L := #[zT,zT,zT,zT,zT,zT,zT,zT,zT,zT,zT,zT,zT,zT,zT,zT,zF,zF,zF,zF,zT,zT,zF,zF,zF]) rfl (by rfl) (by kernel_rfl) (by rfl) (fun K hK => ?_)
         go_simp
         obtain ⟨X, Y, c, hX⟩ := bothR ⟨r1.neg, G1, m1, o1, r1.e, canon 4294967296 r1.m⟩ ⟨r2.neg, G2, m2, o2, r2.e, canon 4294967296 r2.m⟩ q1 q2
         go_at_call 63
         refine (both1_any v117 ⟨r1.neg, G1, m1, o1, r1.e, canon 4294967296 r1.m⟩ ⟨r2.neg, G2, m2, o2, r2.e, canon 4294967296 r2.m⟩ q1 q2 (v105.heap.size + 1) (v105.heap.size) (Nat.lt_of_lt_of_le sE (Below.size (lz j111 j118))) (Nat.lt_of_lt_of_le sD (Below.size (lz j111 j118))) (box_later E_ (lz j111 j118) sE) (box_later D_ (lz j111 j118) sD) X Y c hX).mono ?_
         rintro e' v120 ⟨rfl, j121⟩
         have HX := Lib.hid hX
         clear hX
         have zv120 := Below.size j121
         refine hK _ _ ⟨fun _ _ => fun p hp => Below.block (lz j5 (lz j16 (lz j106 (lz j109 (lz j111 (lz j118 j121)))))) p hp, ?_⟩
         clear hK K
         try simp only [Act.put, zp]
         refine zC 16 #[zT,zT,zT,zT,zT,zT,zT,zT,zT,zT,zT,zT,zT,zT,zT,zT,zT,zF,zF,zF,zT,zT,zF,zF,zF] ?_ rfl ?hy96 ?rest96
         case hy96 => intro w; go_simp; (try with_reducible rfl)
         try simp only [Act.put, zp]
         refine zC 17 #[zT,zT,zT,zT,zT,zT,zT,zT,zT,zT,zT,zT,zT,zT,zT,zT,zT,zT,zF,zF,zT,zT,zF,zF,zF] ?_ rfl ?hy97 ?rest97
         case hy97 => intro w; go_simp; (try with_reducible rfl)
         try simp only [Act.put, zp]
         refine zC 18 #[zT,zT,zT,zT,zT,zT,zT,zT,zT,zT,zT,zT,zT,zT,zT,zT,zT,zT,zT,zF,zT,zT,zF,zF,zF] ?_ rfl ?hy98 ?rest98
         case hy98 => intro w; go_simp; (try with_reducible rfl)
         try simp only [Act.put, zp]
         refine zC 19 #[zT,zT,zT,zT,zT,zT,zT,zT,zT,zT,zT,zT,zT,zT,zT,zT,zT,zT,zT,zT,zT,zT,zF,zF,zF] ?_ rfl ?hy99 ?rest99
         case hy99 => intro w; go_simp; (try with_reducible rfl)
         try simp only [Act.put, zp]
         have O1 : OffD v120 v1.heap.size (v15.heap.size) (v110.heap.size) ⟨r1.neg, G1, m1, o1, r1.e, canon 4294967296 r1.m⟩ := OffD.of (d := ⟨r1.neg, G1, m1, o1, r1.e, canon 4294967296 r1.m⟩) (Ints.below I1 (lz j106 (lz j109 (lz j111 (lz j118 j121)))) (Nat.le_refl _)) (by omega) (by omega) (by omega) (by omega)
         have O2 : OffD v120 v1.heap.size (v15.heap.size) (v110.heap.size) ⟨r2.neg, G2, m2, o2, r2.e, canon 4294967296 r2.m⟩ := OffD.of (d := ⟨r2.neg, G2, m2, o2, r2.e, canon 4294967296 r2.m⟩) (Ints.below I2 (lz j118 j121) (Nat.le_refl _)) (by omega) (by omega) (by omega) (by omega)
         obtain ⟨OX, OY⟩ := HX.out.all (P := OffD v120 v1.heap.size (v15.heap.size) (v110.heap.size)) O1 O2 (OffD.zero ..)
         exact leafC ⟨.tuple #[.agg #[.bool r1.neg, .slice G1 m1 o1, .int .i64 r1.e], .int .i64 q1], .agg #[.bool r1.neg, .slice G1 m1 o1, .int .i64 r1.e], .int .i64 q1, .func (.func 63) #[] #[.pointer (some ⟨v105.heap.size + 1, 0, none⟩), .pointer (some ⟨v105.heap.size, 0, none⟩)], .tuple #[.agg #[.bool r2.neg, .slice G2 m2 o2, .int .i64 r2.e], .int .i64 q2], .agg #[.bool r2.neg, .slice G2 m2 o2, .int .i64 r2.e], .int .i64 q2, .tuple #[.agg #[.bool X.s, .slice X.A X.n X.c, .int .i64 X.e], .agg #[.bool Y.s, .slice Y.A Y.n Y.c, .int .i64 Y.e], .int .i64 c], .tuple #[.agg #[.bool X.s, .slice X.A X.n X.c, .int .i64 X.e], .agg #[.bool Y.s, .slice Y.A Y.n Y.c, .int .i64 Y.e], .int .i64 c], v15.heap.size, v110.heap.size, X, Y, c, rfl, by omega, by omega, by omega, (box_later B6 (lz j109 (lz j111 (lz j118 j121))) s107), (box_later B7 j121 s119), (lz j5 (lz j16 (lz j106 (lz j109 (lz j111 (lz j118 j121)))))), Lib.hid (takeD HX.out Q1.out Q2.out ⟨rfl, rfl, rfl⟩ ⟨rfl, rfl, rfl⟩), OX, OY⟩
       case o13_21 =>
        go_simp
        obtain ⟨v122, hc_, B7, j123, s124⟩ := alloc_d v108
        rw [hc_]
        clear hc_
        have zv122 := Below.size j123
        refine hK _ _ ⟨fun _ _ => fun p hp => Below.block (lz j5 (lz j16 (lz j106 (lz j109 j123)))) p hp, ?_⟩
        clear hK K
        try simp only [Act.put, zp]
        refine stepC (i := 12) (L := #[zT,zT,zT,zT,zT,zT,zT,zT,zT,zT,zT,zT,zT,zF,zF,zF,zF,zF,zF,zF,zT,zT,zF,zF,zF]) rfl (by rfl) (by kernel_rfl) (by rfl) (fun K hK => ?_)
        go_simp
        go_at_call 42
        refine (Add_all v122 m.W.s s.W.s m.W.A s.W.A m.W.n m.W.c s.W.n s.W.c m.W.xs s.W.xs m.W.e s.W.e (MRows.on Rm (lz j2 (lz j5 (lz j16 (lz j106 (lz j109 j123)))))).W (MRows.on Rs (lz j2 (lz j5 (lz j16 (lz j106 (lz j109 j123)))))).W (tab_later tT (lz j2 (lz j5 (lz j16 (lz j106 (lz j109 j123)))))) r2 q2 H2.out).mono ?_
        rintro e' v125 ⟨G2, m2, o2, rfl, _, j126, I2⟩
        have zv125 := Below.size j126
        refine hK _ _ ⟨fun _ _ => fun p hp => Below.block (lz j5 (lz j16 (lz j106 (lz j109 (lz j123 j126))))) p hp, ?_⟩
        clear hK K
        try simp only [Act.put, zp]
        refine zC 13 #[zT,zT,zT,zT,zT,zT,zT,zT,zT,zT,zT,zT,zT,zT,zF,zF,zF,zF,zF,zF,zT,zT,zF,zF,zF] ?_ rfl ?hy101 ?rest101
        case hy101 => intro w; go_simp; (try with_reducible rfl)
        try simp only [Act.put, zp]
        refine zC 14 #[zT,zT,zT,zT,zT,zT,zT,zT,zT,zT,zT,zT,zT,zT,zT,zF,zF,zF,zF,zF,zT,zT,zF,zF,zF] ?_ rfl ?hy102 ?rest102
        case hy102 => intro w; go_simp; (try with_reducible rfl)
        try simp only [Act.put, zp]
        refine stepC (i := 15) (L := #[zT,zT,zT,zT,zT,zT,zT,zT,zT,zT,zT,zT,zT,zT,zT,zT,zF,zF,zF,zF,zT,zT,zF,zF,zF]) rfl (by rfl) (by kernel_rfl) (by rfl) (fun K hK => ?_)
        go_simp
        obtain ⟨X, Y, c, hX⟩ := bothR ⟨r1.neg, G1, m1, o1, r1.e, canon 4294967296 r1.m⟩ ⟨r2.neg, G2, m2, o2, r2.e, canon 4294967296 r2.m⟩ q1 q2
        go_at_call 63
        refine (both1_any v125 ⟨r1.neg, G1, m1, o1, r1.e, canon 4294967296 r1.m⟩ ⟨r2.neg, G2, m2, o2, r2.e, canon 4294967296 r2.m⟩ q1 q2 (v105.heap.size + 1) (v105.heap.size) (Nat.lt_of_lt_of_le sE (Below.size (lz j123 j126))) (Nat.lt_of_lt_of_le sD (Below.size (lz j123 j126))) (box_later E_ (lz j123 j126) sE) (box_later D_ (lz j123 j126) sD) X Y c hX).mono ?_
        rintro e' v127 ⟨rfl, j128⟩
        have HX := Lib.hid hX
        clear hX
        have zv127 := Below.size j128
        refine hK _ _ ⟨fun _ _ => fun p hp => Below.block (lz j5 (lz j16 (lz j106 (lz j109 (lz j123 (lz j126 j128)))))) p hp, ?_⟩
        clear hK K
        try simp only [Act.put, zp]
        refine zC 16 #[zT,zT,zT,zT,zT,zT,zT,zT,zT,zT,zT,zT,zT,zT,zT,zT,zT,zF,zF,zF,zT,zT,zF,zF,zF] ?_ rfl ?hy104 ?rest104
        case hy104 => intro w; go_simp; (try with_reducible rfl)
        try simp only [Act.put, zp]
        refine zC 17 #[zT,zT,zT,zT,zT,zT,zT,zT,zT,zT,zT,zT,zT,zT,zT,zT,zT,zT,zF,zF,zT,zT,zF,zF,zF] ?_ rfl ?hy105 ?rest105
        case hy105 => intro w; go_simp; (try with_reducible rfl)
        try simp only [Act.put, zp]
        refine zC 18 #[zT,zT,zT,zT,zT,zT,zT,zT,zT,zT,zT,zT,zT,zT,zT,zT,zT,zT,zT,zF,zT,zT,zF,zF,zF] ?_ rfl ?hy106 ?rest106
        case hy106 => intro w; go_simp; (try with_reducible rfl)
        try simp only [Act.put, zp]
        refine zC 19 #[zT,zT,zT,zT,zT,zT,zT,zT,zT,zT,zT,zT,zT,zT,zT,zT,zT,zT,zT,zT,zT,zT,zF,zF,zF] ?_ rfl ?hy107 ?rest107
        case hy107 => intro w; go_simp; (try with_reducible rfl)
        try simp only [Act.put, zp]
        have O1 : OffD v127 v1.heap.size (v15.heap.size) (v108.heap.size) ⟨r1.neg, G1, m1, o1, r1.e, canon 4294967296 r1.m⟩ := OffD.of (d := ⟨r1.neg, G1, m1, o1, r1.e, canon 4294967296 r1.m⟩) (Ints.below I1 (lz j106 (lz j109 (lz j123 (lz j126 j128)))) (Nat.le_refl _)) (by omega) (by omega) (by omega) (by omega)
        have O2 : OffD v127 v1.heap.size (v15.heap.size) (v108.heap.size) ⟨r2.neg, G2, m2, o2, r2.e, canon 4294967296 r2.m⟩ := OffD.of (d := ⟨r2.neg, G2, m2, o2, r2.e, canon 4294967296 r2.m⟩) (Ints.below I2 j128 (Nat.le_refl _)) (by omega) (by omega) (by omega) (by omega)
        obtain ⟨OX, OY⟩ := HX.out.all (P := OffD v127 v1.heap.size (v15.heap.size) (v108.heap.size)) O1 O2 (OffD.zero ..)
        exact leafC ⟨.tuple #[.agg #[.bool r1.neg, .slice G1 m1 o1, .int .i64 r1.e], .int .i64 q1], .agg #[.bool r1.neg, .slice G1 m1 o1, .int .i64 r1.e], .int .i64 q1, .func (.func 63) #[] #[.pointer (some ⟨v105.heap.size + 1, 0, none⟩), .pointer (some ⟨v105.heap.size, 0, none⟩)], .tuple #[.agg #[.bool r2.neg, .slice G2 m2 o2, .int .i64 r2.e], .int .i64 q2], .agg #[.bool r2.neg, .slice G2 m2 o2, .int .i64 r2.e], .int .i64 q2, .tuple #[.agg #[.bool X.s, .slice X.A X.n X.c, .int .i64 X.e], .agg #[.bool Y.s, .slice Y.A Y.n Y.c, .int .i64 Y.e], .int .i64 c], .tuple #[.agg #[.bool X.s, .slice X.A X.n X.c, .int .i64 X.e], .agg #[.bool Y.s, .slice Y.A Y.n Y.c, .int .i64 Y.e], .int .i64 c], v15.heap.size, v108.heap.size, X, Y, c, rfl, by omega, by omega, by omega, (box_later B6 (lz j109 (lz j123 (lz j126 j128))) s107), (box_later B7 (lz j126 j128) s124), (lz j5 (lz j16 (lz j106 (lz j109 (lz j123 (lz j126 j128)))))), Lib.hid (takeD HX.out Q1.out Q2.out ⟨rfl, rfl, rfl⟩ ⟨rfl, rfl, rfl⟩), OX, OY⟩
      case o12_21 =>
       go_simp
       obtain ⟨v129, hc_, B7, j130, s131⟩ := alloc_d v105
       rw [hc_]
       clear hc_
       have zv129 := Below.size j130
       refine hK _ _ ⟨fun _ _ => fun p hp => Below.block (lz j5 (lz j16 (lz j106 j130))) p hp, ?_⟩
       clear hK K
       try simp only [Act.put, zp]
       refine stepC (i := 7) (L := #[zT,zT,zT,zT,zT,zT,zT,zT,zT,zT,zT,zT,zF,zF,zF,zF,zF,zF,zF,zF,zT,zT,zF,zF,zF]) rfl (by rfl) (by kernel_rfl) (by rfl) (fun K hK => ?_)
       go_simp
       go_at_call 41
       refine (both_any v129 r1.neg G1 m1 o1 r1.e q1).mono ?_
       rintro e' v132 ⟨rfl, j133, D_, E_, lD_⟩
       have sD : v129.heap.size < v132.heap.size := by omega
       have sE : v129.heap.size + 1 < v132.heap.size := by omega
       have zv132 := Below.size j133
       refine hK _ _ ⟨fun _ _ => fun p hp => Below.block (lz j5 (lz j16 (lz j106 (lz j130 j133)))) p hp, ?_⟩
       clear hK K
       try simp only [Act.put, zp]
       refine stepC (i := 12) (L := #[zT,zT,zT,zT,zT,zT,zT,zT,zT,zT,zT,zT,zT,zF,zF,zF,zF,zF,zF,zF,zT,zT,zF,zF,zF]) rfl (by rfl) (by kernel_rfl) (by rfl) (fun K hK => ?_)
       go_simp
       go_at_call 42
       refine (Add_all v132 m.W.s s.W.s m.W.A s.W.A m.W.n m.W.c s.W.n s.W.c m.W.xs s.W.xs m.W.e s.W.e (MRows.on Rm (lz j2 (lz j5 (lz j16 (lz j106 (lz j130 j133)))))).W (MRows.on Rs (lz j2 (lz j5 (lz j16 (lz j106 (lz j130 j133)))))).W (tab_later tT (lz j2 (lz j5 (lz j16 (lz j106 (lz j130 j133)))))) r2 q2 H2.out).mono ?_
       rintro e' v134 ⟨G2, m2, o2, rfl, _, j135, I2⟩
       have zv134 := Below.size j135
       refine hK _ _ ⟨fun _ _ => fun p hp => Below.block (lz j5 (lz j16 (lz j106 (lz j130 (lz j133 j135))))) p hp, ?_⟩
       clear hK K
       try simp only [Act.put, zp]
       refine zC 13 #[zT,zT,zT,zT,zT,zT,zT,zT,zT,zT,zT,zT,zT,zT,zF,zF,zF,zF,zF,zF,zT,zT,zF,zF,zF] ?_ rfl ?hy110 ?rest110
       case hy110 => intro w; go_simp; (try with_reducible rfl)
       try simp only [Act.put, zp]
       refine zC 14 #[zT,zT,zT,zT,zT,zT,zT,zT,zT,zT,zT,zT,zT,zT,zT,zF,zF,zF,zF,zF,zT,zT,zF,zF,zF] ?_ rfl ?hy111 ?rest111
       case hy111 => intro w; go_simp; (try with_reducible rfl)
       try simp only [Act.put, zp]
       refine stepC (i := 15) (L := #[zT,zT,zT,zT,zT,zT,zT,zT,zT,zT,zT,zT,zT,zT,zT,zT,zF,zF,zF,zF,zT,zT,zF,zF,zF]) rfl (by rfl) (by kernel_rfl) (by rfl) (fun K hK => ?_)
       go_simp
       obtain ⟨X, Y, c, hX⟩ := bothR ⟨r1.neg, G1, m1, o1, r1.e, canon 4294967296 r1.m⟩ ⟨r2.neg, G2, m2, o2, r2.e, canon 4294967296 r2.m⟩ q1 q2
       go_at_call 63
       refine (both1_any v134 ⟨r1.neg, G1, m1, o1, r1.e, canon 4294967296 r1.m⟩ ⟨r2.neg, G2, m2, o2, r2.e, canon 4294967296 r2.m⟩ q1 q2 (v129.heap.size + 1) (v129.heap.size) (Nat.lt_of_lt_of_le sE (Below.size j135)) (Nat.lt_of_lt_of_le sD (Below.size j135)) (box_later E_ j135 sE) (box_later D_ j135 sD) X Y c hX).mono ?_
       rintro e' v136 ⟨rfl, j137⟩
       have HX := Lib.hid hX
       clear hX
       have zv136 := Below.size j137
       refine hK _ _ ⟨fun _ _ => fun p hp => Below.block (lz j5 (lz j16 (lz j106 (lz j130 (lz j133 (lz j135 j137)))))) p hp, ?_⟩
       clear hK K
       try simp only [Act.put, zp]
       refine zC 16 #[zT,zT,zT,zT,zT,zT,zT,zT,zT,zT,zT,zT,zT,zT,zT,zT,zT,zF,zF,zF,zT,zT,zF,zF,zF] ?_ rfl ?hy113 ?rest113
       case hy113 => intro w; go_simp; (try with_reducible rfl)
       try simp only [Act.put, zp]
       refine zC 17 #[zT,zT,zT,zT,zT,zT,zT,zT,zT,zT,zT,zT,zT,zT,zT,zT,zT,zT,zF,zF,zT,zT,zF,zF,zF] ?_ rfl ?hy114 ?rest114
       case hy114 => intro w; go_simp; (try with_reducible rfl)
       try simp only [Act.put, zp]
       refine zC 18 #[zT,zT,zT,zT,zT,zT,zT,zT,zT,zT,zT,zT,zT,zT,zT,zT,zT,zT,zT,zF,zT,zT,zF,zF,zF] ?_ rfl ?hy115 ?rest115
       case hy115 => intro w; go_simp; (try with_reducible rfl)
       try simp only [Act.put, zp]
       refine zC 19 #[zT,zT,zT,zT,zT,zT,zT,zT,zT,zT,zT,zT,zT,zT,zT,zT,zT,zT,zT,zT,zT,zT,zF,zF,zF] ?_ rfl ?hy116 ?rest116
       case hy116 => intro w; go_simp; (try with_reducible rfl)
       try simp only [Act.put, zp]
       have O1 : OffD v136 v1.heap.size (v15.heap.size) (v105.heap.size) ⟨r1.neg, G1, m1, o1, r1.e, canon 4294967296 r1.m⟩ := OffD.of (d := ⟨r1.neg, G1, m1, o1, r1.e, canon 4294967296 r1.m⟩) (Ints.below I1 (lz j106 (lz j130 (lz j133 (lz j135 j137)))) (Nat.le_refl _)) (by omega) (by omega) (by omega) (by omega)
       have O2 : OffD v136 v1.heap.size (v15.heap.size) (v105.heap.size) ⟨r2.neg, G2, m2, o2, r2.e, canon 4294967296 r2.m⟩ := OffD.of (d := ⟨r2.neg, G2, m2, o2, r2.e, canon 4294967296 r2.m⟩) (Ints.below I2 j137 (Nat.le_refl _)) (by omega) (by omega) (by omega) (by omega)
       obtain ⟨OX, OY⟩ := HX.out.all (P := OffD v136 v1.heap.size (v15.heap.size) (v105.heap.size)) O1 O2 (OffD.zero ..)
       exact leafC ⟨.tuple #[.agg #[.bool r1.neg, .slice G1 m1 o1, .int .i64 r1.e], .int .i64 q1], .agg #[.bool r1.neg, .slice G1 m1 o1, .int .i64 r1.e], .int .i64 q1, .func (.func 63) #[] #[.pointer (some ⟨v129.heap.size + 1, 0, none⟩), .pointer (some ⟨v129.heap.size, 0, none⟩)], .tuple #[.agg #[.bool r2.neg, .slice G2 m2 o2, .int .i64 r2.e], .int .i64 q2], .agg #[.bool r2.neg, .slice G2 m2 o2, .int .i64 r2.e], .int .i64 q2, .tuple #[.agg #[.bool X.s, .slice X.A X.n X.c, .int .i64 X.e], .agg #[.bool Y.s, .slice Y.A Y.n Y.c, .int .i64 Y.e], .int .i64 c], .tuple #[.agg #[.bool X.s, .slice X.A X.n X.c, .int .i64 X.e], .agg #[.bool Y.s, .slice Y.A Y.n Y.c, .int .i64 Y.e], .int .i64 c], v15.heap.size, v105.heap.size, X, Y, c, rfl, by omega, by omega, by omega, (box_later B6 (lz j130 (lz j133 (lz j135 j137))) s107), (box_later B7 (lz j133 (lz j135 j137)) s131), (lz j5 (lz j16 (lz j106 (lz j130 (lz j133 (lz j135 j137)))))), Lib.hid (takeD HX.out Q1.out Q2.out ⟨rfl, rfl, rfl⟩ ⟨rfl, rfl, rfl⟩), OX, OY⟩
     case o2_21 =>
      go_simp
      obtain ⟨v138, hc_, B7, j139, s140⟩ := alloc_d v15
      rw [hc_]
      clear hc_
      have zv138 := Below.size j139
      refine hK _ _ ⟨fun _ _ => fun p hp => Below.block (lz j5 (lz j16 j139)) p hp, ?_⟩
      clear hK K
      try simp only [Act.put, zp]
      refine stepC2 (i := 7) (j := 20) (Li := #[zT,zT,zT,zT,zT,zT,zT,zT,zT,zT,zT,zT,zF,zF,zF,zF,zF,zF,zF,zF,zF,zT,zF,zF,zF]) (Lj := #[zT,zT,zT,zT,zT,zT,zT,zF,zT,zT,zT,zT,zF,zF,zF,zF,zF,zF,zF,zF,zT,zT,zF,zF,zF]) rfl rfl (by rfl) (by rfl) (by kernel_rfl) (by rfl) (by rfl) (fun K hK => ?o15_7) (fun K hK => ?o15_20)
      case o15_7 =>
       go_simp
       go_at_call 41
       refine (both_any v138 r1.neg G1 m1 o1 r1.e q1).mono ?_
       rintro e' v141 ⟨rfl, j142, D_, E_, lD_⟩
       have sD : v138.heap.size < v141.heap.size := by omega
       have sE : v138.heap.size + 1 < v141.heap.size := by omega
       have zv141 := Below.size j142
       refine hK _ _ ⟨fun _ _ => fun p hp => Below.block (lz j5 (lz j16 (lz j139 j142))) p hp, ?_⟩
       clear hK K
       try simp only [Act.put, zp]
       refine stepC2 (i := 12) (j := 20) (Li := #[zT,zT,zT,zT,zT,zT,zT,zT,zT,zT,zT,zT,zT,zF,zF,zF,zF,zF,zF,zF,zF,zT,zF,zF,zF]) (Lj := #[zT,zT,zT,zT,zT,zT,zT,zT,zT,zT,zT,zT,zF,zF,zF,zF,zF,zF,zF,zF,zT,zT,zF,zF,zF]) rfl rfl (by rfl) (by rfl) (by kernel_rfl) (by rfl) (by rfl) (fun K hK => ?o16_12) (fun K hK => ?o16_20)
       case o16_12 =>
        go_simp
        go_at_call 42
        refine (Add_all v141 m.W.s s.W.s m.W.A s.W.A m.W.n m.W.c s.W.n s.W.c m.W.xs s.W.xs m.W.e s.W.e (MRows.on Rm (lz j2 (lz j5 (lz j16 (lz j139 j142))))).W (MRows.on Rs (lz j2 (lz j5 (lz j16 (lz j139 j142))))).W (tab_later tT (lz j2 (lz j5 (lz j16 (lz j139 j142))))) r2 q2 H2.out).mono ?_
        rintro e' v143 ⟨G2, m2, o2, rfl, _, j144, I2⟩
        have zv143 := Below.size j144
        refine hK _ _ ⟨fun _ _ => fun p hp => Below.block (lz j5 (lz j16 (lz j139 (lz j142 j144)))) p hp, ?_⟩
        clear hK K
        try simp only [Act.put, zp]
        refine zC 13 #[zT,zT,zT,zT,zT,zT,zT,zT,zT,zT,zT,zT,zT,zT,zF,zF,zF,zF,zF,zF,zF,zT,zF,zF,zF] ?_ rfl ?hy117 ?rest117
        case hy117 => intro w; go_simp; (try with_reducible rfl)
        try simp only [Act.put, zp]
        refine zC 14 #[zT,zT,zT,zT,zT,zT,zT,zT,zT,zT,zT,zT,zT,zT,zT,zF,zF,zF,zF,zF,zF,zT,zF,zF,zF] ?_ rfl ?hy118 ?rest118
        case hy118 => intro w; go_simp; (try with_reducible rfl)
        try simp only [Act.put, zp]
        refine stepC2 (i := 15) (j := 20) (Li := #[zT,zT,zT,zT,zT,zT,zT,zT,zT,zT,zT,zT,zT,zT,zT,zT,zF,zF,zF,zF,zF,zT,zF,zF,zF]) (Lj := #[zT,zT,zT,zT,zT,zT,zT,zT,zT,zT,zT,zT,zT,zT,zT,zF,zF,zF,zF,zF,zT,zT,zF,zF,zF]) rfl rfl (by rfl) (by rfl) (by kernel_rfl) (by rfl) (by rfl) (fun K hK => ?o17_15) (fun K hK => ?o17_20)
        case o17_15 =>
         go_simp
         obtain ⟨X, Y, c, hX⟩ := bothR ⟨r1.neg, G1, m1, o1, r1.e, canon 4294967296 r1.m⟩ ⟨r2.neg, G2, m2, o2, r2.e, canon 4294967296 r2.m⟩ q1 q2
         go_at_call 63
         refine (both1_any v143 ⟨r1.neg, G1, m1, o1, r1.e, canon 4294967296 r1.m⟩ ⟨r2.neg, G2, m2, o2, r2.e, canon 4294967296 r2.m⟩ q1 q2 (v138.heap.size + 1) (v138.heap.size) (Nat.lt_of_lt_of_le sE (Below.size j144)) (Nat.lt_of_lt_of_le sD (Below.size j144)) (box_later E_ j144 sE) (box_later D_ j144 sD) X Y c hX).mono ?_
         rintro e' v145 ⟨rfl, j146⟩
         have HX := Lib.hid hX
         clear hX
         have zv145 := Below.size j146
         refine hK _ _ ⟨fun _ _ => fun p hp => Below.block (lz j5 (lz j16 (lz j139 (lz j142 (lz j144 j146))))) p hp, ?_⟩
         clear hK K
         try simp only [Act.put, zp]
         refine zC 16 #[zT,zT,zT,zT,zT,zT,zT,zT,zT,zT,zT,zT,zT,zT,zT,zT,zT,zF,zF,zF,zF,zT,zF,zF,zF] ?_ rfl ?hy119 ?rest119
         case hy119 => intro w; go_simp; (try with_reducible rfl)
         try simp only [Act.put, zp]
         refine zC 17 #[zT,zT,zT,zT,zT,zT,zT,zT,zT,zT,zT,zT,zT,zT,zT,zT,zT,zT,zF,zF,zF,zT,zF,zF,zF] ?_ rfl ?hy120 ?rest120
         case hy120 => intro w; go_simp; (try with_reducible rfl)
         try simp only [Act.put, zp]
         refine zC 18 #[zT,zT,zT,zT,zT,zT,zT,zT,zT,zT,zT,zT,zT,zT,zT,zT,zT,zT,zT,zF,zF,zT,zF,zF,zF] ?_ rfl ?hy121 ?rest121
         case hy121 => intro w; go_simp; (try with_reducible rfl)
         try simp only [Act.put, zp]
         refine zC 19 #[zT,zT,zT,zT,zT,zT,zT,zT,zT,zT,zT,zT,zT,zT,zT,zT,zT,zT,zT,zT,zF,zT,zF,zF,zF] ?_ rfl ?hy122 ?rest122
         case hy122 => intro w; go_simp; (try with_reducible rfl)
         try simp only [Act.put, zp]
         refine stepC (i := 20) (L := #[zT,zT,zT,zT,zT,zT,zT,zT,zT,zT,zT,zT,zT,zT,zT,zT,zT,zT,zT,zT,zT,zT,zF,zF,zF]) rfl (by rfl) (by kernel_rfl) (by rfl) (fun K hK => ?_)
         go_simp
         obtain ⟨v147, hc_, B6, j148, s149⟩ := alloc_d v145
         rw [hc_]
         clear hc_
         have zv147 := Below.size j148
         refine hK _ _ ⟨fun _ _ => fun p hp => Below.block (lz j5 (lz j16 (lz j139 (lz j142 (lz j144 (lz j146 j148)))))) p hp, ?_⟩
         clear hK K
         try simp only [Act.put, zp]
         have O1 : OffD v147 v1.heap.size (v145.heap.size) (v15.heap.size) ⟨r1.neg, G1, m1, o1, r1.e, canon 4294967296 r1.m⟩ := OffD.of (d := ⟨r1.neg, G1, m1, o1, r1.e, canon 4294967296 r1.m⟩) (Ints.below I1 (lz j139 (lz j142 (lz j144 (lz j146 j148)))) (Nat.le_refl _)) (by omega) (by omega) (by omega) (by omega)
         have O2 : OffD v147 v1.heap.size (v145.heap.size) (v15.heap.size) ⟨r2.neg, G2, m2, o2, r2.e, canon 4294967296 r2.m⟩ := OffD.of (d := ⟨r2.neg, G2, m2, o2, r2.e, canon 4294967296 r2.m⟩) (Ints.below I2 (lz j146 j148) (Nat.le_refl _)) (by omega) (by omega) (by omega) (by omega)
         obtain ⟨OX, OY⟩ := HX.out.all (P := OffD v147 v1.heap.size (v145.heap.size) (v15.heap.size)) O1 O2 (OffD.zero ..)
         exact leafC ⟨.tuple #[.agg #[.bool r1.neg, .slice G1 m1 o1, .int .i64 r1.e], .int .i64 q1], .agg #[.bool r1.neg, .slice G1 m1 o1, .int .i64 r1.e], .int .i64 q1, .func (.func 63) #[] #[.pointer (some ⟨v138.heap.size + 1, 0, none⟩), .pointer (some ⟨v138.heap.size, 0, none⟩)], .tuple #[.agg #[.bool r2.neg, .slice G2 m2 o2, .int .i64 r2.e], .int .i64 q2], .agg #[.bool r2.neg, .slice G2 m2 o2, .int .i64 r2.e], .int .i64 q2, .tuple #[.agg #[.bool X.s, .slice X.A X.n X.c, .int .i64 X.e], .agg #[.bool Y.s, .slice Y.A Y.n Y.c, .int .i64 Y.e], .int .i64 c], .tuple #[.agg #[.bool X.s, .slice X.A X.n X.c, .int .i64 X.e], .agg #[.bool Y.s, .slice Y.A Y.n Y.c, .int .i64 Y.e], .int .i64 c], v145.heap.size, v15.heap.size, X, Y, c, rfl, by omega, by omega, by omega, B6, (box_later B7 (lz j142 (lz j144 (lz j146 j148))) s140), (lz j5 (lz j16 (lz j139 (lz j142 (lz j144 (lz j146 j148)))))), Lib.hid (takeD HX.out Q1.out Q2.out ⟨rfl, rfl, rfl⟩ ⟨rfl, rfl, rfl⟩), OX, OY⟩
        case o17_20 =>
         go_simp
         obtain ⟨v150, hc_, B6, j151, s152⟩ := alloc_d v143
         rw [hc_]
         clear hc_
         have zv150 := Below.size j151
         refine hK _ _ ⟨fun _ _ => fun p hp => Below.block (lz j5 (lz j16 (lz j139 (lz j142 (lz j144 j151))))) p hp, ?_⟩
         clear hK K
         try simp only [Act.put, zp]
         refine stepC (i := 15) (L := #[zT,zT,zT,zT,zT,zT,zT,zT,zT,zT,zT,zT,zT,zT,zT,zT,zF,zF,zF,zF,zT,zT,zF,zF,zF]) rfl (by rfl) (by kernel_rfl) (by rfl) (fun K hK => ?_)
         go_simp
         obtain ⟨X, Y, c, hX⟩ := bothR ⟨r1.neg, G1, m1, o1, r1.e, canon 4294967296 r1.m⟩ ⟨r2.neg, G2, m2, o2, r2.e, canon 4294967296 r2.m⟩ q1 q2
         go_at_call 63
         refine (both1_any v150 ⟨r1.neg, G1, m1, o1, r1.e, canon 4294967296 r1.m⟩ ⟨r2.neg, G2, m2, o2, r2.e, canon 4294967296 r2.m⟩ q1 q2 (v138.heap.size + 1) (v138.heap.size) (Nat.lt_of_lt_of_le sE (Below.size (lz j144 j151))) (Nat.lt_of_lt_of_le sD (Below.size (lz j144 j151))) (box_later E_ (lz j144 j151) sE) (box_later D_ (lz j144 j151) sD) X Y c hX).mono ?_
         rintro e' v153 ⟨rfl, j154⟩
         have HX := Lib.hid hX
         clear hX
         have zv153 := Below.size j154
         refine hK _ _ ⟨fun _ _ => fun p hp => Below.block (lz j5 (lz j16 (lz j139 (lz j142 (lz j144 (lz j151 j154)))))) p hp, ?_⟩
         clear hK K
         try simp only [Act.put, zp]
         refine zC 16 #[zT,zT,zT,zT,zT,zT,zT,zT,zT,zT,zT,zT,zT,zT,zT,zT,zT,zF,zF,zF,zT,zT,zF,zF,zF] ?_ rfl ?hy125 ?rest125
         case hy125 => intro w; go_simp; (try with_reducible rfl)
         try simp only [Act.put, zp]
         refine zC 17 #[zT,zT,zT,zT,zT,zT,zT,zT,zT,zT,zT,zT,zT,zT,zT,zT,zT,zT,zF,zF,zT,zT,zF,zF,zF] ?_ rfl ?hy126 ?rest126
         case hy126 => intro w; go_simp; (try with_reducible rfl)
         try simp only [Act.put, zp]
         refine zC 18 #[zT,zT,zT,zT,zT,zT,zT,zT,zT,zT,zT,zT,zT,zT,zT,zT,zT,zT,zT,zF,zT,zT,zF,zF,zF] ?_ rfl ?hy127 ?rest127
         case hy127 => intro w; go_simp; (try with_reducible rfl)
         try simp only [Act.put, zp]
         refine zC 19 #[zT,zT,zT,zT,zT,zT,zT,zT,zT,zT,zT,zT,zT,zT,zT,zT,zT,zT,zT,zT,zT,zT,zF,zF,zF] ?_ rfl ?hy128 ?rest128
         case hy128 => intro w; go_simp; (try with_reducible rfl)
         try simp only [Act.put, zp]
         have O1 : OffD v153 v1.heap.size (v143.heap.size) (v15.heap.size) ⟨r1.neg, G1, m1, o1, r1.e, canon 4294967296 r1.m⟩ := OffD.of (d := ⟨r1.neg, G1, m1, o1, r1.e, canon 4294967296 r1.m⟩) (Ints.below I1 (lz j139 (lz j142 (lz j144 (lz j151 j154)))) (Nat.le_refl _)) (by omega) (by omega) (by omega) (by omega)
         have O2 : OffD v153 v1.heap.size (v143.heap.size) (v15.heap.size) ⟨r2.neg, G2, m2, o2, r2.e, canon 4294967296 r2.m⟩ := OffD.of (d := ⟨r2.neg, G2, m2, o2, r2.e, canon 4294967296 r2.m⟩) (Ints.below I2 (lz j151 j154) (Nat.le_refl _)) (by omega) (by omega) (by omega) (by omega)
         obtain ⟨OX, OY⟩ := HX.out.all (P := OffD v153 v1.heap.size (v143.heap.size) (v15.heap.size)) O1 O2 (OffD.zero ..)
         exact leafC ⟨.tuple #[.agg #[.bool r1.neg, .slice G1 m1 o1, .int .i64 r1.e], .int .i64 q1], .agg #[.bool r1.neg, .slice G1 m1 o1, .int .i64 r1.e], .int .i64 q1, .func (.func 63) #[] #[.pointer (some ⟨v138.heap.size + 1, 0, none⟩), .pointer (some ⟨v138.heap.size, 0, none⟩)], .tuple #[.agg #[.bool r2.neg, .slice G2 m2 o2, .int .i64 r2.e], .int .i64 q2], .agg #[.bool r2.neg, .slice G2 m2 o2, .int .i64 r2.e], .int .i64 q2, .tuple #[.agg #[.bool X.s, .slice X.A X.n X.c, .int .i64 X.e], .agg #[.bool Y.s, .slice Y.A Y.n Y.c, .int .i64 Y.e], .int .i64 c], .tuple #[.agg #[.bool X.s, .slice X.A X.n X.c, .int .i64 X.e], .agg #[.bool Y.s, .slice Y.A Y.n Y.c, .int .i64 Y.e], .int .i64 c], v143.heap.size, v15.heap.size, X, Y, c, rfl, by omega, by omega, by omega, (box_later B6 j154 s152), (box_later B7 (lz j142 (lz j144 (lz j151 j154))) s140), (lz j5 (lz j16 (lz j139 (lz j142 (lz j144 (lz j151 j154)))))), Lib.hid (takeD HX.out Q1.out Q2.out ⟨rfl, rfl, rfl⟩ ⟨rfl, rfl, rfl⟩), OX, OY⟩
       case o16_20 =>
        go_simp
        obtain ⟨v155, hc_, B6, j156, s157⟩ := alloc_d v141
        rw [hc_]
        clear hc_
        have zv155 := Below.size j156
        refine hK _ _ ⟨fun _ _ => fun p hp => Below.block (lz j5 (lz j16 (lz j139 (lz j142 j156)))) p hp, ?_⟩
        clear hK K
        try simp only [Act.put, zp]
        refine stepC (i := 12) (L := #[zT,zT,zT,zT,zT,zT,zT,zT,zT,zT,zT,zT,zT,zF,zF,zF,zF,zF,zF,zF,zT,zT,zF,zF,zF]) rfl (by rfl) (by kernel_rfl) (by rfl) (fun K hK => ?_)
        go_simp
        go_at_call 42
        refine (Add_all v155 m.W.s s.W.s m.W.A s.W.A m.W.n m.W.c s.W.n s.W.c m.W.xs s.W.xs m.W.e s.W.e (MRows.on Rm (lz j2 (lz j5 (lz j16 (lz j139 (lz j142 j156)))))).W (MRows.on Rs (lz j2 (lz j5 (lz j16 (lz j139 (lz j142 j156)))))).W (tab_later tT (lz j2 (lz j5 (lz j16 (lz j139 (lz j142 j156)))))) r2 q2 H2.out).mono ?_
        rintro e' v158 ⟨G2, m2, o2, rfl, _, j159, I2⟩
        have zv158 := Below.size j159
        refine hK _ _ ⟨fun _ _ => fun p hp => Below.block (lz j5 (lz j16 (lz j139 (lz j142 (lz j156 j159))))) p hp, ?_⟩
        clear hK K
        try simp only [Act.put, zp]
        refine zC 13 #[zT,zT,zT,zT,zT,zT,zT,zT,zT,zT,zT,zT,zT,zT,zF,zF,zF,zF,zF,zF,zT,zT,zF,zF,zF] ?_ rfl ?hy130 ?rest130
        case hy130 => intro w; go_simp; (try with_reducible rfl)
        try simp only [Act.put, zp]
        refine zC 14 #[zT,zT,zT,zT,zT,zT,zT,zT,zT,zT,zT,zT,zT,zT,zT,zF,zF,zF,zF,zF,zT,zT,zF,zF,zF] ?_ rfl ?hy131 ?rest131
        case hy131 => intro w; go_simp; (try with_reducible rfl)
        try simp only [Act.put, zp]
        refine stepC (i := 15) (L := #[zT,zT,zT,zT,zT,zT,zT,zT,zT,zT,zT,zT,zT,zT,zT,zT,zF,zF,zF,zF,zT,zT,zF,zF,zF]) rfl (by rfl) (by kernel_rfl) (by rfl) (fun K hK => ?_)
        go_simp
        obtain ⟨X, Y, c, hX⟩ := bothR ⟨r1.neg, G1, m1, o1, r1.e, canon 4294967296 r1.m⟩ ⟨r2.neg, G2, m2, o2, r2.e, canon 4294967296 r2.m⟩ q1 q2
        go_at_call 63
        refine (both1_any v158 ⟨r1.neg, G1, m1, o1, r1.e, canon 4294967296 r1.m⟩ ⟨r2.neg, G2, m2, o2, r2.e, canon 4294967296 r2.m⟩ q1 q2 (v138.heap.size + 1) (v138.heap.size) (Nat.lt_of_lt_of_le sE (Below.size (lz j156 j159))) (Nat.lt_of_lt_of_le sD (Below.size (lz j156 j159))) (box_later E_ (lz j156 j159) sE) (box_later D_ (lz j156 j159) sD) X Y c hX).mono ?_
        rintro e' v160 ⟨rfl, j161⟩
        have HX := Lib.hid hX
        clear hX
        have zv160 := Below.size j161
        refine hK _ _ ⟨fun _ _ => fun p hp => Below.block (lz j5 (lz j16 (lz j139 (lz j142 (lz j156 (lz j159 j161)))))) p hp, ?_⟩
        clear hK K
        try simp only [Act.put, zp]
        refine zC 16 #[zT,zT,zT,zT,zT,zT,zT,zT,zT,zT,zT,zT,zT,zT,zT,zT,zT,zF,zF,zF,zT,zT,zF,zF,zF] ?_ rfl ?hy133 ?rest133
        case hy133 => intro w; go_simp; (try with_reducible rfl)
        try simp only [Act.put, zp]
        refine zC 17 #[zT,zT,zT,zT,zT,zT,zT,zT,zT,zT,zT,zT,zT,zT,zT,zT,zT,zT,zF,zF,zT,zT,zF,zF,zF] ?_ rfl ?hy134 ?rest134
        case hy134 => intro w; go_simp; (try with_reducible rfl)
        try simp only [Act.put, zp]
        refine zC 18 #[zT,zT,zT,zT,zT,zT,zT,zT,zT,zT,zT,zT,zT,zT,zT,zT,zT,zT,zT,zF,zT,zT,zF,zF,zF] ?_ rfl ?hy135 ?rest135
        case hy135 => intro w; go_simp; (try with_reducible rfl)
        try simp only [Act.put, zp]
        refine zC 19 #[zT,zT,zT,zT,zT,zT,zT,zT,zT,zT,zT,zT,zT,zT,zT,zT,zT,zT,zT,zT,zT,zT,zF,zF,zF] ?_ rfl ?hy136 ?rest136
        case hy136 => intro w; go_simp; (try with_reducible rfl)
        try simp only [Act.put, zp]
        have O1 : OffD v160 v1.heap.size (v141.heap.size) (v15.heap.size) ⟨r1.neg, G1, m1, o1, r1.e, canon 4294967296 r1.m⟩ := OffD.of (d := ⟨r1.neg, G1, m1, o1, r1.e, canon 4294967296 r1.m⟩) (Ints.below I1 (lz j139 (lz j142 (lz j156 (lz j159 j161)))) (Nat.le_refl _)) (by omega) (by omega) (by omega) (by omega)
        have O2 : OffD v160 v1.heap.size (v141.heap.size) (v15.heap.size) ⟨r2.neg, G2, m2, o2, r2.e, canon 4294967296 r2.m⟩ := OffD.of (d := ⟨r2.neg, G2, m2, o2, r2.e, canon 4294967296 r2.m⟩) (Ints.below I2 j161 (Nat.le_refl _)) (by omega) (by omega) (by omega) (by omega)
        obtain ⟨OX, OY⟩ := HX.out.all (P := OffD v160 v1.heap.size (v141.heap.size) (v15.heap.size)) O1 O2 (OffD.zero ..)
        exact leafC ⟨.tuple #[.agg #[.bool r1.neg, .slice G1 m1 o1, .int .i64 r1.e], .int .i64 q1], .agg #[.bool r1.neg, .slice G1 m1 o1, .int .i64 r1.e], .int .i64 q1, .func (.func 63) #[] #[.pointer (some ⟨v138.heap.size + 1, 0, none⟩), .pointer (some ⟨v138.heap.size, 0, none⟩)], .tuple #[.agg #[.bool r2.neg, .slice G2 m2 o2, .int .i64 r2.e], .int .i64 q2], .agg #[.bool r2.neg, .slice G2 m2 o2, .int .i64 r2.e], .int .i64 q2, .tuple #[.agg #[.bool X.s, .slice X.A X.n X.c, .int .i64 X.e], .agg #[.bool Y.s, .slice Y.A Y.n Y.c, .int .i64 Y.e], .int .i64 c], .tuple #[.agg #[.bool X.s, .slice X.A X.n X.c, .int .i64 X.e], .agg #[.bool Y.s, .slice Y.A Y.n Y.c, .int .i64 Y.e], .int .i64 c], v141.heap.size, v15.heap.size, X, Y, c, rfl, by omega, by omega, by omega, (box_later B6 (lz j159 j161) s157), (box_later B7 (lz j142 (lz j156 (lz j159 j161))) s140), (lz j5 (lz j16 (lz j139 (lz j142 (lz j156 (lz j159 j161)))))), Lib.hid (takeD HX.out Q1.out Q2.out ⟨rfl, rfl, rfl⟩ ⟨rfl, rfl, rfl⟩), OX, OY⟩
      case o15_20 =>
       go_simp
       obtain ⟨v162, hc_, B6, j163, s164⟩ := alloc_d v138
       rw [hc_]
       clear hc_
       have zv162 := Below.size j163
       refine hK _ _ ⟨fun _ _ => fun p hp => Below.block (lz j5 (lz j16 (lz j139 j163))) p hp, ?_⟩
       clear hK K
       try simp only [Act.put, zp]
       refine stepC (i := 7) (L := #[zT,zT,zT,zT,zT,zT,zT,zT,zT,zT,zT,zT,zF,zF,zF,zF,zF,zF,zF,zF,zT,zT,zF,zF,zF]) rfl (by rfl) (by kernel_rfl) (by rfl) (fun K hK => ?_)
       go_simp
       go_at_call 41
       refine (both_any v162 r1.neg G1 m1 o1 r1.e q1).mono ?_
       rintro e' v165 ⟨rfl, j166, D_, E_, lD_⟩
       have sD : v162.heap.size < v165.heap.size := by omega
       have sE : v162.heap.size + 1 < v165.heap.size := by omega
       have zv165 := Below.size j166
       refine hK _ _ ⟨fun _ _ => fun p hp => Below.block (lz j5 (lz j16 (lz j139 (lz j163 j166)))) p hp, ?_⟩
       clear hK K
       try simp only [Act.put, zp]
       refine stepC (i := 12) (L := #[zT,zT,zT,zT,zT,zT,zT,zT,zT,zT,zT,zT,zT,zF,zF,zF,zF,zF,zF,zF,zT,zT,zF,zF,zF]) rfl (by rfl) (by kernel_rfl) (by rfl) (fun K hK => ?_)
       go_simp
       go_at_call 42
       refine (Add_all v165 m.W.s s.W.s m.W.A s.W.A m.W.n m.W.c s.W.n s.W.c m.W.xs s.W.xs m.W.e s.W.e (MRows.on Rm (lz j2 (lz j5 (lz j16 (lz j139 (lz j163 j166)))))).W (MRows.on Rs (lz j2 (lz j5 (lz j16 (lz j139 (lz j163 j166)))))).W (tab_later tT (lz j2 (lz j5 (lz j16 (lz j139 (lz j163 j166)))))) r2 q2 H2.out).mono ?_
       rintro e' v167 ⟨G2, m2, o2, rfl, _, j168, I2⟩
       have zv167 := Below.size j168
       refine hK _ _ ⟨fun _ _ => fun p hp => Below.block (lz j5 (lz j16 (lz j139 (lz j163 (lz j166 j168))))) p hp, ?_⟩
       clear hK K
       try simp only [Act.put, zp]
       refine zC 13 #[zT,zT,zT,zT,zT,zT,zT,zT,zT,zT,zT,zT,zT,zT,zF,zF,zF,zF,zF,zF,zT,zT,zF,zF,zF] ?_ rfl ?hy139 ?rest139
       case hy139 => intro w; go_simp; (try with_reducible rfl)
       try simp only [Act.put, zp]
       refine zC 14 #[zT,zT,zT,zT,zT,zT,zT,zT,zT,zT,zT,zT,zT,zT,zT,zF,zF,zF,zF,zF,zT,zT,zF,zF,zF] ?_ rfl ?hy140 ?rest140
       case hy140 => intro w; go_simp; (try with_reducible rfl)
       try simp only [Act.put, zp]
       refine stepC (i := 15) (L := #[zT,zT,zT,zT,zT,zT,zT,zT,zT,zT,zT,zT,zT,zT,zT,zT,zF,zF,zF,zF,zT,zT,zF,zF,zF]) rfl (by rfl) (by kernel_rfl) (by rfl) (fun K hK => ?_)
       go_simp
       obtain ⟨X, Y, c, hX⟩ := bothR ⟨r1.neg, G1, m1, o1, r1.e, canon 4294967296 r1.m⟩ ⟨r2.neg, G2, m2, o2, r2.e, canon 4294967296 r2.m⟩ q1 q2
       go_at_call 63
       refine (both1_any v167 ⟨r1.neg, G1, m1, o1, r1.e, canon 4294967296 r1.m⟩ ⟨r2.neg, G2, m2, o2, r2.e, canon 4294967296 r2.m⟩ q1 q2 (v162.heap.size + 1) (v162.heap.size) (Nat.lt_of_lt_of_le sE (Below.size j168)) (Nat.lt_of_lt_of_le sD (Below.size j168)) (box_later E_ j168 sE) (box_later D_ j168 sD) X Y c hX).mono ?_
       rintro e' v169 ⟨rfl, j170⟩
       have HX := Lib.hid hX
       clear hX
       have zv169 := Below.size j170
       refine hK _ _ ⟨fun _ _ => fun p hp => Below.block (lz j5 (lz j16 (lz j139 (lz j163 (lz j166 (lz j168 j170)))))) p hp, ?_⟩
       clear hK K
       try simp only [Act.put, zp]
       refine zC 16 #[zT,zT,zT,zT,zT,zT,zT,zT,zT,zT,zT,zT,zT,zT,zT,zT,zT,zF,zF,zF,zT,zT,zF,zF,zF] ?_ rfl ?hy142 ?rest142
       case hy142 => intro w; go_simp; (try with_reducible rfl)
       try simp only [Act.put, zp]
       refine zC 17 #[zT,zT,zT,zT,zT,zT,zT,zT,zT,zT,zT,zT,zT,zT,zT,zT,zT,zT,zF,zF,zT,zT,zF,zF,zF] ?_ rfl ?hy143 ?rest143
       case hy143 => intro w; go_simp; (try with_reducible rfl)
       try simp only [Act.put, zp]
       refine zC 18 #[zT,zT,zT,zT,zT,zT,zT,zT,zT,zT,zT,zT,zT,zT,zT,zT,zT,zT,zT,zF,zT,zT,zF,zF,zF] ?_ rfl ?hy144 ?rest144
       case hy144 => intro w; go_simp; (try with_reducible rfl)
       try simp only [Act.put, zp]
       refine zC 19 #[zT,zT,zT,zT,zT,zT,zT,zT,zT,zT,zT,zT,zT,zT,zT,zT,zT,zT,zT,zT,zT,zT,zF,zF,zF] ?_ rfl ?hy145 ?rest145
       case hy145 => intro w; go_simp; (try with_reducible rfl)
       try simp only [Act.put, zp]
       have O1 : OffD v169 v1.heap.size (v138.heap.size) (v15.heap.size) ⟨r1.neg, G1, m1, o1, r1.e, canon 4294967296 r1.m⟩ := OffD.of (d := ⟨r1.neg, G1, m1, o1, r1.e, canon 4294967296 r1.m⟩) (Ints.below I1 (lz j139 (lz j163 (lz j166 (lz j168 j170)))) (Nat.le_refl _)) (by omega) (by omega) (by omega) (by omega)
       have O2 : OffD v169 v1.heap.size (v138.heap.size) (v15.heap.size) ⟨r2.neg, G2, m2, o2, r2.e, canon 4294967296 r2.m⟩ := OffD.of (d := ⟨r2.neg, G2, m2, o2, r2.e, canon 4294967296 r2.m⟩) (Ints.below I2 j170 (Nat.le_refl _)) (by omega) (by omega) (by omega) (by omega)
       obtain ⟨OX, OY⟩ := HX.out.all (P := OffD v169 v1.heap.size (v138.heap.size) (v15.heap.size)) O1 O2 (OffD.zero ..)
       exact leafC ⟨.tuple #[.agg #[.bool r1.neg, .slice G1 m1 o1, .int .i64 r1.e], .int .i64 q1], .agg #[.bool r1.neg, .slice G1 m1 o1, .int .i64 r1.e], .int .i64 q1, .func (.func 63) #[] #[.pointer (some ⟨v162.heap.size + 1, 0, none⟩), .pointer (some ⟨v162.heap.size, 0, none⟩)], .tuple #[.agg #[.bool r2.neg, .slice G2 m2 o2, .int .i64 r2.e], .int .i64 q2], .agg #[.bool r2.neg, .slice G2 m2 o2, .int .i64 r2.e], .int .i64 q2, .tuple #[.agg #[.bool X.s, .slice X.A X.n X.c, .int .i64 X.e], .agg #[.bool Y.s, .slice Y.A Y.n Y.c, .int .i64 Y.e], .int .i64 c], .tuple #[.agg #[.bool X.s, .slice X.A X.n X.c, .int .i64 X.e], .agg #[.bool Y.s, .slice Y.A Y.n Y.c, .int .i64 Y.e], .int .i64 c], v138.heap.size, v15.heap.size, X, Y, c, rfl, by omega, by omega, by omega, (box_later B6 (lz j166 (lz j168 j170)) s164), (box_later B7 (lz j163 (lz j166 (lz j168 j170))) s140), (lz j5 (lz j16 (lz j139 (lz j163 (lz j166 (lz j168 j170)))))), Lib.hid (takeD HX.out Q1.out Q2.out ⟨rfl, rfl, rfl⟩ ⟨rfl, rfl, rfl⟩), OX, OY⟩
    case o1_20 =>
     go_simp
     obtain ⟨v171, hc_, B6, j172, s173⟩ := alloc_d v4
     rw [hc_]
     clear hc_
     have zv171 := Below.size j172
     refine hK _ _ ⟨fun _ _ => fun p hp => Below.block (lz j5 j172) p hp, ?_⟩
     clear hK K
     try simp only [Act.put, zp]
     refine stepC2 (i := 4) (j := 21) (Li := #[zT,zT,zT,zT,zT,zF,zF,zF,zT,zT,zT,zT,zF,zF,zF,zF,zF,zF,zF,zF,zT,zF,zF,zF,zF]) (Lj := #[zT,zT,zT,zT,zF,zF,zF,zF,zT,zT,zT,zT,zF,zF,zF,zF,zF,zF,zF,zF,zT,zT,zF,zF,zF]) rfl rfl (by rfl) (by rfl) (by kernel_rfl) (by rfl) (by rfl) (fun K hK => ?o18_4) (fun K hK => ?o18_21)
     case o18_4 =>
      go_simp
      go_at_call 42
      refine (Add_all v171 m.S.s s.S.s m.S.A s.S.A m.S.n m.S.c s.S.n s.S.c m.S.xs s.S.xs m.S.e s.S.e (MRows.on Rm (lz j2 (lz j5 j172))).S (MRows.on Rs (lz j2 (lz j5 j172))).S (tab_later tT (lz j2 (lz j5 j172))) r1 q1 H1.out).mono ?_
      rintro e' v174 ⟨G1, m1, o1, rfl, _, j175, I1⟩
      have zv174 := Below.size j175
      refine hK _ _ ⟨fun _ _ => fun p hp => Below.block (lz j5 (lz j172 j175)) p hp, ?_⟩
      clear hK K
      try simp only [Act.put, zp]
      refine zC 5 #[zT,zT,zT,zT,zT,zT,zF,zF,zT,zT,zT,zT,zF,zF,zF,zF,zF,zF,zF,zF,zT,zF,zF,zF,zF] ?_ rfl ?hy146 ?rest146
      case hy146 => intro w; go_simp; (try with_reducible rfl)
      try simp only [Act.put, zp]
      refine zC 6 #[zT,zT,zT,zT,zT,zT,zT,zF,zT,zT,zT,zT,zF,zF,zF,zF,zF,zF,zF,zF,zT,zF,zF,zF,zF] ?_ rfl ?hy147 ?rest147
      case hy147 => intro w; go_simp; (try with_reducible rfl)
      try simp only [Act.put, zp]
      refine stepC2 (i := 7) (j := 21) (Li := #[zT,zT,zT,zT,zT,zT,zT,zT,zT,zT,zT,zT,zF,zF,zF,zF,zF,zF,zF,zF,zT,zF,zF,zF,zF]) (Lj := #[zT,zT,zT,zT,zT,zT,zT,zF,zT,zT,zT,zT,zF,zF,zF,zF,zF,zF,zF,zF,zT,zT,zF,zF,zF]) rfl rfl (by rfl) (by rfl) (by kernel_rfl) (by rfl) (by rfl) (fun K hK => ?o19_7) (fun K hK => ?o19_21)
      case o19_7 =>
       go_simp
       go_at_call 41
       refine (both_any v174 r1.neg G1 m1 o1 r1.e q1).mono ?_
       rintro e' v176 ⟨rfl, j177, D_, E_, lD_⟩
       have sD : v174.heap.size < v176.heap.size := by omega
       have sE : v174.heap.size + 1 < v176.heap.size := by omega
       have zv176 := Below.size j177
       refine hK _ _ ⟨fun _ _ => fun p hp => Below.block (lz j5 (lz j172 (lz j175 j177))) p hp, ?_⟩
       clear hK K
       try simp only [Act.put, zp]
       refine stepC2 (i := 12) (j := 21) (Li := #[zT,zT,zT,zT,zT,zT,zT,zT,zT,zT,zT,zT,zT,zF,zF,zF,zF,zF,zF,zF,zT,zF,zF,zF,zF]) (Lj := #[zT,zT,zT,zT,zT,zT,zT,zT,zT,zT,zT,zT,zF,zF,zF,zF,zF,zF,zF,zF,zT,zT,zF,zF,zF]) rfl rfl (by rfl) (by rfl) (by kernel_rfl) (by rfl) (by rfl) (fun K hK => ?o20_12) (fun K hK => ?o20_21)
       case o20_12 =>
        go_simp
        go_at_call 42
        refine (Add_all v176 m.W.s s.W.s m.W.A s.W.A m.W.n m.W.c s.W.n s.W.c m.W.xs s.W.xs m.W.e s.W.e (MRows.on Rm (lz j2 (lz j5 (lz j172 (lz j175 j177))))).W (MRows.on Rs (lz j2 (lz j5 (lz j172 (lz j175 j177))))).W (tab_later tT (lz j2 (lz j5 (lz j172 (lz j175 j177))))) r2 q2 H2.out).mono ?_
        rintro e' v178 ⟨G2, m2, o2, rfl, _, j179, I2⟩
        have zv178 := Below.size j179
        refine hK _ _ ⟨fun _ _ => fun p hp => Below.block (lz j5 (lz j172 (lz j175 (lz j177 j179)))) p hp, ?_⟩
        clear hK K
        try simp only [Act.put, zp]
        refine zC 13 #[zT,zT,zT,zT,zT,zT,zT,zT,zT,zT,zT,zT,zT,zT,zF,zF,zF,zF,zF,zF,zT,zF,zF,zF,zF] ?_ rfl ?hy148 ?rest148
        case hy148 => intro w; go_simp; (try with_reducible rfl)
        try simp only [Act.put, zp]
        refine zC 14 #[zT,zT,zT,zT,zT,zT,zT,zT,zT,zT,zT,zT,zT,zT,zT,zF,zF,zF,zF,zF,zT,zF,zF,zF,zF] ?_ rfl ?hy149 ?rest149
        case hy149 => intro w; go_simp; (try with_reducible rfl)
        try simp only [Act.put, zp]
        refine stepC2 (i := 15) (j := 21) (Li := #[zT,zT,zT,zT,zT,zT,zT,zT,zT,zT,zT,zT,zT,zT,zT,zT,zF,zF,zF,zF,zT,zF,zF,zF,zF]) (Lj := #[zT,zT,zT,zT,zT,zT,zT,zT,zT,zT,zT,zT,zT,zT,zT,zF,zF,zF,zF,zF,zT,zT,zF,zF,zF]) rfl rfl (by rfl) (by rfl) (by kernel_rfl) (by rfl) (by rfl) (fun K hK => ?o21_15) (fun K hK => ?o21_21)
        case o21_15 =>
         go_simp
         obtain ⟨X, Y, c, hX⟩ := bothR ⟨r1.neg, G1, m1, o1, r1.e, canon 4294967296 r1.m⟩ ⟨r2.neg, G2, m2, o2, r2.e, canon 4294967296 r2.m⟩ q1 q2
         go_at_call 63
         refine (both1_any v178 ⟨r1.neg, G1, m1, o1, r1.e, canon 4294967296 r1.m⟩ ⟨r2.neg, G2, m2, o2, r2.e, canon 4294967296 r2.m⟩ q1 q2 (v174.heap.size + 1) (v174.heap.size) (Nat.lt_of_lt_of_le sE (Below.size j179)) (Nat.lt_of_lt_of_le sD (Below.size j179)) (box_later E_ j179 sE) (box_later D_ j179 sD) X Y c hX).mono ?_
         rintro e' v180 ⟨rfl, j181⟩
         have HX := Lib.hid hX
         clear hX
         have zv180 := Below.size j181
         refine hK _ _ ⟨fun _ _ => fun p hp => Below.block (lz j5 (lz j172 (lz j175 (lz j177 (lz j179 j181))))) p hp, ?_⟩
         clear hK K
         try simp only [Act.put, zp]
         refine zC 16 #[zT,zT,zT,zT,zT,zT,zT,zT,zT,zT,zT,zT,zT,zT,zT,zT,zT,zF,zF,zF,zT,zF,zF,zF,zF] ?_ rfl ?hy150 ?rest150
         case hy150 => intro w; go_simp; (try with_reducible rfl)
         try simp only [Act.put, zp]
         refine zC 17 #[zT,zT,zT,zT,zT,zT,zT,zT,zT,zT,zT,zT,zT,zT,zT,zT,zT,zT,zF,zF,zT,zF,zF,zF,zF] ?_ rfl ?hy151 ?rest151
         case hy151 => intro w; go_simp; (try with_reducible rfl)
         try simp only [Act.put, zp]
         refine zC 18 #[zT,zT,zT,zT,zT,zT,zT,zT,zT,zT,zT,zT,zT,zT,zT,zT,zT,zT,zT,zF,zT,zF,zF,zF,zF] ?_ rfl ?hy152 ?rest152
         case hy152 => intro w; go_simp; (try with_reducible rfl)
         try simp only [Act.put, zp]
         refine zC 19 #[zT,zT,zT,zT,zT,zT,zT,zT,zT,zT,zT,zT,zT,zT,zT,zT,zT,zT,zT,zT,zT,zF,zF,zF,zF] ?_ rfl ?hy153 ?rest153
         case hy153 => intro w; go_simp; (try with_reducible rfl)
         try simp only [Act.put, zp]
         refine stepC (i := 21) (L := #[zT,zT,zT,zT,zT,zT,zT,zT,zT,zT,zT,zT,zT,zT,zT,zT,zT,zT,zT,zT,zT,zT,zF,zF,zF]) rfl (by rfl) (by kernel_rfl) (by rfl) (fun K hK => ?_)
         go_simp
         obtain ⟨v182, hc_, B7, j183, s184⟩ := alloc_d v180
         rw [hc_]
         clear hc_
         have zv182 := Below.size j183
         refine hK _ _ ⟨fun _ _ => fun p hp => Below.block (lz j5 (lz j172 (lz j175 (lz j177 (lz j179 (lz j181 j183)))))) p hp, ?_⟩
         clear hK K
         try simp only [Act.put, zp]
         have O1 : OffD v182 v1.heap.size (v4.heap.size) (v180.heap.size) ⟨r1.neg, G1, m1, o1, r1.e, canon 4294967296 r1.m⟩ := OffD.of (d := ⟨r1.neg, G1, m1, o1, r1.e, canon 4294967296 r1.m⟩) (Ints.below I1 (lz j177 (lz j179 (lz j181 j183))) (Nat.le_refl _)) (by omega) (by omega) (by omega) (by omega)
         have O2 : OffD v182 v1.heap.size (v4.heap.size) (v180.heap.size) ⟨r2.neg, G2, m2, o2, r2.e, canon 4294967296 r2.m⟩ := OffD.of (d := ⟨r2.neg, G2, m2, o2, r2.e, canon 4294967296 r2.m⟩) (Ints.below I2 (lz j181 j183) (Nat.le_refl _)) (by omega) (by omega) (by omega) (by omega)
         obtain ⟨OX, OY⟩ := HX.out.all (P := OffD v182 v1.heap.size (v4.heap.size) (v180.heap.size)) O1 O2 (OffD.zero ..)
         exact leafC ⟨.tuple #[.agg #[.bool r1.neg, .slice G1 m1 o1, .int .i64 r1.e], .int .i64 q1], .agg #[.bool r1.neg, .slice G1 m1 o1, .int .i64 r1.e], .int .i64 q1, .func (.func 63) #[] #[.pointer (some ⟨v174.heap.size + 1, 0, none⟩), .pointer (some ⟨v174.heap.size, 0, none⟩)], .tuple #[.agg #[.bool r2.neg, .slice G2 m2 o2, .int .i64 r2.e], .int .i64 q2], .agg #[.bool r2.neg, .slice G2 m2 o2, .int .i64 r2.e], .int .i64 q2, .tuple #[.agg #[.bool X.s, .slice X.A X.n X.c, .int .i64 X.e], .agg #[.bool Y.s, .slice Y.A Y.n Y.c, .int .i64 Y.e], .int .i64 c], .tuple #[.agg #[.bool X.s, .slice X.A X.n X.c, .int .i64 X.e], .agg #[.bool Y.s, .slice Y.A Y.n Y.c, .int .i64 Y.e], .int .i64 c], v4.heap.size, v180.heap.size, X, Y, c, rfl, by omega, by omega, by omega, (box_later B6 (lz j175 (lz j177 (lz j179 (lz j181 j183)))) s173), B7, (lz j5 (lz j172 (lz j175 (lz j177 (lz j179 (lz j181 j183)))))), Lib.hid (takeD HX.out Q1.out Q2.out ⟨rfl, rfl, rfl⟩ ⟨rfl, rfl, rfl⟩), OX, OY⟩
        case o21_21 =>
         go_simp
         obtain ⟨v185, hc_, B7, j186, s187⟩ := alloc_d v178
         rw [hc_]
         clear hc_
         have zv185 := Below.size j186
         refine hK _ _ ⟨fun _ _ => fun p hp => Below.block (lz j5 (lz j172 (lz j175 (lz j177 (lz j179 j186))))) p hp, ?_⟩
         clear hK K
         try simp only [Act.put, zp]
         refine stepC (i := 15) (L := #[zT,zT,zT,zT,zT,zT,zT,zT,zT,zT,zT,zT,zT,zT,zT,zT,zF,zF,zF,zF,zT,zT,zF,zF,zF]) rfl (by rfl) (by kernel_rfl) (by rfl) (fun K hK => ?_)
         go_simp
         obtain ⟨X, Y, c, hX⟩ := bothR ⟨r1.neg, G1, m1, o1, r1.e, canon 4294967296 r1.m⟩ ⟨r2.neg, G2, m2, o2, r2.e, canon 4294967296 r2.m⟩ q1 q2
         go_at_call 63
         refine (both1_any v185 ⟨r1.neg, G1, m1, o1, r1.e, canon 4294967296 r1.m⟩ ⟨r2.neg, G2, m2, o2, r2.e, canon 4294967296 r2.m⟩ q1 q2 (v174.heap.size + 1) (v174.heap.size) (Nat.lt_of_lt_of_le sE (Below.size (lz j179 j186))) (Nat.lt_of_lt_of_le sD (Below.size (lz j179 j186))) (box_later E_ (lz j179 j186) sE) (box_later D_ (lz j179 j186) sD) X Y c hX).mono ?_
         rintro e' v188 ⟨rfl, j189⟩
         have HX := Lib.hid hX
         clear hX
         have zv188 := Below.size j189
         refine hK _ _ ⟨fun _ _ => fun p hp => Below.block (lz j5 (lz j172 (lz j175 (lz j177 (lz j179 (lz j186 j189)))))) p hp, ?_⟩
         clear hK K
         try simp only [Act.put, zp]
         refine zC 16 #[zT,zT,zT,zT,zT,zT,zT,zT,zT,zT,zT,zT,zT,zT,zT,zT,zT,zF,zF,zF,zT,zT,zF,zF,zF] ?_ rfl ?hy156 ?rest156
         case hy156 => intro w; go_simp; (try with_reducible rfl)
         try simp only [Act.put, zp]
         refine zC 17 #[zT,zT,zT,zT,zT,zT,zT,zT,zT,zT,zT,zT,zT,zT,zT,zT,zT,zT,zF,zF,zT,zT,zF,zF,zF] ?_ rfl ?hy157 ?rest157
         case hy157 => intro w; go_simp; (try with_reducible rfl)
         try simp only [Act.put, zp]
         refine zC 18 #[zT,zT,zT,zT,zT,zT,zT,zT,zT,zT,zT,zT,zT,zT,zT,zT,zT,zT,zT,zF,zT,zT,zF,zF,zF] ?_ rfl ?hy158 ?rest158
         case hy158 => intro w; go_simp; (try with_reducible rfl)
         try simp only [Act.put, zp]
         refine zC 19 #[zT,zT,zT,zT,zT,zT,zT,zT,zT,zT,zT,zT,zT,zT,zT,zT,zT,zT,zT,zT,zT,zT,zF,zF,zF] ?_ rfl ?hy159 ?rest159
         case hy159 => intro w; go_simp; (try with_reducible rfl)
         try simp only [Act.put, zp]
         have O1 : OffD v188 v1.heap.size (v4.heap.size) (v178.heap.size) ⟨r1.neg, G1, m1, o1, r1.e, canon 4294967296 r1.m⟩ := OffD.of (d := ⟨r1.neg, G1, m1, o1, r1.e, canon 4294967296 r1.m⟩) (Ints.below I1 (lz j177 (lz j179 (lz j186 j189))) (Nat.le_refl _)) (by omega) (by omega) (by omega) (by omega)
         have O2 : OffD v188 v1.heap.size (v4.heap.size) (v178.heap.size) ⟨r2.neg, G2, m2, o2, r2.e, canon 4294967296 r2.m⟩ := OffD.of (d := ⟨r2.neg, G2, m2, o2, r2.e, canon 4294967296 r2.m⟩) (Ints.below I2 (lz j186 j189) (Nat.le_refl _)) (by omega) (by omega) (by omega) (by omega)
         obtain ⟨OX, OY⟩ := HX.out.all (P := OffD v188 v1.heap.size (v4.heap.size) (v178.heap.size)) O1 O2 (OffD.zero ..)
         exact leafC ⟨.tuple #[.agg #[.bool r1.neg, .slice G1 m1 o1, .int .i64 r1.e], .int .i64 q1], .agg #[.bool r1.neg, .slice G1 m1 o1, .int .i64 r1.e], .int .i64 q1, .func (.func 63) #[] #[.pointer (some ⟨v174.heap.size + 1, 0, none⟩), .pointer (some ⟨v174.heap.size, 0, none⟩)], .tuple #[.agg #[.bool r2.neg, .slice G2 m2 o2, .int .i64 r2.e], .int .i64 q2], .agg #[.bool r2.neg, .slice G2 m2 o2, .int .i64 r2.e], .int .i64 q2, .tuple #[.agg #[.bool X.s, .slice X.A X.n X.c, .int .i64 X.e], .agg #[.bool Y.s, .slice Y.A Y.n Y.c, .int .i64 Y.e], .int .i64 c], .tuple #[.agg #[.bool X.s, .slice X.A X.n X.c, .int .i64 X.e], .agg #[.bool Y.s, .slice Y.A Y.n Y.c, .int .i64 Y.e], .int .i64 c], v4.heap.size, v178.heap.size, X, Y, c, rfl, by omega, by omega, by omega, (box_later B6 (lz j175 (lz j177 (lz j179 (lz j186 j189)))) s173), (box_later B7 j189 s187), (lz j5 (lz j172 (lz j175 (lz j177 (lz j179 (lz j186 j189)))))), Lib.hid (takeD HX.out Q1.out Q2.out ⟨rfl, rfl, rfl⟩ ⟨rfl, rfl, rfl⟩), OX, OY⟩
       case o20_21 =>
        go_simp
        obtain ⟨v190, hc_, B7, j191, s192⟩ := alloc_d v176
        rw [hc_]
        clear hc_
        have zv190 := Below.size j191
        refine hK _ _ ⟨fun _ _ => fun p hp => Below.block (lz j5 (lz j172 (lz j175 (lz j177 j191)))) p hp, ?_⟩
        clear hK K
        try simp only [Act.put, zp]
        refine stepC (i := 12) (L := #[zT,zT,zT,zT,zT,zT,zT,zT,zT,zT,zT,zT,zT,zF,zF,zF,zF,zF,zF,zF,zT,zT,zF,zF,zF]) rfl (by rfl) (by kernel_rfl) (by rfl) (fun K hK => ?_)
        go_simp
        go_at_call 42
        refine (Add_all v190 m.W.s s.W.s m.W.A s.W.A m.W.n m.W.c s.W.n s.W.c m.W.xs s.W.xs m.W.e s.W.e (MRows.on Rm (lz j2 (lz j5 (lz j172 (lz j175 (lz j177 j191)))))).W (MRows.on Rs (lz j2 (lz j5 (lz j172 (lz j175 (lz j177 j191)))))).W (tab_later tT (lz j2 (lz j5 (lz j172 (lz j175 (lz j177 j191)))))) r2 q2 H2.out).mono ?_
        rintro e' v193 ⟨G2, m2, o2, rfl, _, j194, I2⟩
        have zv193 := Below.size j194
        refine hK _ _ ⟨fun _ _ => fun p hp => Below.block (lz j5 (lz j172 (lz j175 (lz j177 (lz j191 j194))))) p hp, ?_⟩
        clear hK K
        try simp only [Act.put, zp]
        refine zC 13 #[zT,zT,zT,zT,zT,zT,zT,zT,zT,zT,zT,zT,zT,zT,zF,zF,zF,zF,zF,zF,zT,zT,zF,zF,zF] ?_ rfl ?hy161 ?rest161
        case hy161 => intro w; go_simp; (try with_reducible rfl)
        try simp only [Act.put, zp]
        refine zC 14 #[zT,zT,zT,zT,zT,zT,zT,zT,zT,zT,zT,zT,zT,zT,zT,zF,zF,zF,zF,zF,zT,zT,zF,zF,zF] ?_ rfl ?hy162 ?rest162
        case hy162 => intro w; go_simp; (try with_reducible rfl)
        try simp only [Act.put, zp]
        refine stepC (i := 15) (L := #[zT,zT,zT,zT,zT,zT,zT,zT,zT,zT,zT,zT,zT,zT,zT,zT,zF,zF,zF,zF,zT,zT,zF,zF,zF]) rfl (by rfl) (by kernel_rfl) (by rfl) (fun K hK => ?_)
        go_simp
        obtain ⟨X, Y, c, hX⟩ := bothR ⟨r1.neg, G1, m1, o1, r1.e, canon 4294967296 r1.m⟩ ⟨r2.neg, G2, m2, o2, r2.e, canon 4294967296 r2.m⟩ q1 q2
        go_at_call 63
        refine (both1_any v193 ⟨r1.neg, G1, m1, o1, r1.e, canon 4294967296 r1.m⟩ ⟨r2.neg, G2, m2, o2, r2.e, canon 4294967296 r2.m⟩ q1 q2 (v174.heap.size + 1) (v174.heap.size) (Nat.lt_of_lt_of_le sE (Below.size (lz j191 j194))) (Nat.lt_of_lt_of_le sD (Below.size (lz j191 j194))) (box_later E_ (lz j191 j194) sE) (box_later D_ (lz j191 j194) sD) X Y c hX).mono ?_
        rintro e' v195 ⟨rfl, j196⟩
        have HX := Lib.hid hX
        clear hX
        have zv195 := Below.size j196
        refine hK _ _ ⟨fun _ _ => fun p hp => Below.block (lz j5 (lz j172 (lz j175 (lz j177 (lz j191 (lz j194 j196)))))) p hp, ?_⟩
        clear hK K
        try simp only [Act.put, zp]
        refine zC 16 #[zT,zT,zT,zT,zT,zT,zT,zT,zT,zT,zT,zT,zT,zT,zT,zT,zT,zF,zF,zF,zT,zT,zF,zF,zF] ?_ rfl ?hy164 ?rest164
        case hy164 => intro w; go_simp; (try with_reducible rfl)
        try simp only [Act.put, zp]
        refine zC 17 #[zT,zT,zT,zT,zT,zT,zT,zT,zT,zT,zT,zT,zT,zT,zT,zT,zT,zT,zF,zF,zT,zT,zF,zF,zF] ?_ rfl ?hy165 ?rest165
        case hy165 => intro w; go_simp; (try with_reducible rfl)
        try simp only [Act.put, zp]
        refine zC 18 #[zT,zT,zT,zT,zT,zT,zT,zT,zT,zT,zT,zT,zT,zT,zT,zT,zT,zT,zT,zF,zT,zT,zF,zF,zF] ?_ rfl ?hy166 ?rest166
        case hy166 => intro w; go_simp; (try with_reducible rfl)
        try simp only [Act.put, zp]
        refine zC 19 #[zT,zT,zT,zT,zT,zT,zT,zT,zT,zT,zT,zT,zT,zT,zT,zT,zT,zT,zT,zT,zT,zT,zF,zF,zF] ?_ rfl ?hy167 ?rest167
        case hy167 => intro w; go_simp; (try with_reducible rfl)
        try simp only [Act.put, zp]
        have O1 : OffD v195 v1.heap.size (v4.heap.size) (v176.heap.size) ⟨r1.neg, G1, m1, o1, r1.e, canon 4294967296 r1.m⟩ := OffD.of (d := ⟨r1.neg, G1, m1, o1, r1.e, canon 4294967296 r1.m⟩) (Ints.below I1 (lz j177 (lz j191 (lz j194 j196))) (Nat.le_refl _)) (by omega) (by omega) (by omega) (by omega)
        have O2 : OffD v195 v1.heap.size (v4.heap.size) (v176.heap.size) ⟨r2.neg, G2, m2, o2, r2.e, canon 4294967296 r2.m⟩ := OffD.of (d := ⟨r2.neg, G2, m2, o2, r2.e, canon 4294967296 r2.m⟩) (Ints.below I2 j196 (Nat.le_refl _)) (by omega) (by omega) (by omega) (by omega)
        obtain ⟨OX, OY⟩ := HX.out.all (P := OffD v195 v1.heap.size (v4.heap.size) (v176.heap.size)) O1 O2 (OffD.zero ..)
        exact leafC ⟨.tuple #[.agg #[.bool r1.neg, .slice G1 m1 o1, .int .i64 r1.e], .int .i64 q1], .agg #[.bool r1.neg, .slice G1 m1 o1, .int .i64 r1.e], .int .i64 q1, .func (.func 63) #[] #[.pointer (some ⟨v174.heap.size + 1, 0, none⟩), .pointer (some ⟨v174.heap.size, 0, none⟩)], .tuple #[.agg #[.bool r2.neg, .slice G2 m2 o2, .int .i64 r2.e], .int .i64 q2], .agg #[.bool r2.neg, .slice G2 m2 o2, .int .i64 r2.e], .int .i64 q2, .tuple #[.agg #[.bool X.s, .slice X.A X.n X.c, .int .i64 X.e], .agg #[.bool Y.s, .slice Y.A Y.n Y.c, .int .i64 Y.e], .int .i64 c], .tuple #[.agg #[.bool X.s, .slice X.A X.n X.c, .int .i64 X.e], .agg #[.bool Y.s, .slice Y.A Y.n Y.c, .int .i64 Y.e], .int .i64 c], v4.heap.size, v176.heap.size, X, Y, c, rfl, by omega, by omega, by omega, (box_later B6 (lz j175 (lz j177 (lz j191 (lz j194 j196)))) s173), (box_later B7 (lz j194 j196) s192), (lz j5 (lz j172 (lz j175 (lz j177 (lz j191 (lz j194 j196)))))), Lib.hid (takeD HX.out Q1.out Q2.out ⟨rfl, rfl, rfl⟩ ⟨rfl, rfl, rfl⟩), OX, OY⟩
      case o19_21 =>
       go_simp
       obtain ⟨v197, hc_, B7, j198, s199⟩ := alloc_d v174
       rw [hc_]
       clear hc_
       have zv197 := Below.size j198
       refine hK _ _ ⟨fun _ _ => fun p hp => Below.block (lz j5 (lz j172 (lz j175 j198))) p hp, ?_⟩
       clear hK K
       try simp only [Act.put, zp]
       refine stepC (i := 7) (L := #[zT,zT,zT,zT,zT,zT,zT,zT,zT,zT,zT,zT,zF,zF,zF,zF,zF,zF,zF,zF,zT,zT,zF,zF,zF]) rfl (by rfl) (by kernel_rfl) (by rfl) (fun K hK => ?_)
       go_simp
       go_at_call 41
       refine (both_any v197 r1.neg G1 m1 o1 r1.e q1).mono ?_
       rintro e' v200 ⟨rfl, j201, D_, E_, lD_⟩
       have sD : v197.heap.size < v200.heap.size := by omega
       have sE : v197.heap.size + 1 < v200.heap.size := by omega
       have zv200 := Below.size j201
       refine hK _ _ ⟨fun _ _ => fun p hp => Below.block (lz j5 (lz j172 (lz j175 (lz j198 j201)))) p hp, ?_⟩
       clear hK K
       try simp only [Act.put, zp]
       refine stepC (i := 12) (L := #[zT,zT,zT,zT,zT,zT,zT,zT,zT,zT,zT,zT,zT,zF,zF,zF,zF,zF,zF,zF,zT,zT,zF,zF,zF]) rfl (by rfl) (by kernel_rfl) (by rfl) (fun K hK => ?_)
       go_simp
       go_at_call 42
       refine (Add_all v200 m.W.s s.W.s m.W.A s.W.A m.W.n m.W.c s.W.n s.W.c m.W.xs s.W.xs m.W.e s.W.e (MRows.on Rm (lz j2 (lz j5 (lz j172 (lz j175 (lz j198 j201)))))).W (MRows.on Rs (lz j2 (lz j5 (lz j172 (lz j175 (lz j198 j201)))))).W (tab_later tT (lz j2 (lz j5 (lz j172 (lz j175 (lz j198 j201)))))) r2 q2 H2.out).mono ?_
       rintro e' v202 ⟨G2, m2, o2, rfl, _, j203, I2⟩
       have zv202 := Below.size j203
       refine hK _ _ ⟨fun _ _ => fun p hp => Below.block (lz j5 (lz j172 (lz j175 (lz j198 (lz j201 j203))))) p hp, ?_⟩
       clear hK K
       try simp only [Act.put, zp]
       refine zC 13 #[zT,zT,zT,zT,zT,zT,zT,zT,zT,zT,zT,zT,zT,zT,zF,zF,zF,zF,zF,zF,zT,zT,zF,zF,zF] ?_ rfl ?hy170 ?rest170
       case hy170 => intro w; go_simp; (try with_reducible rfl)
       try simp only [Act.put, zp]
       refine zC 14 #[zT,zT,zT,zT,zT,zT,zT,zT,zT,zT,zT,zT,zT,zT,zT,zF,zF,zF,zF,zF,zT,zT,zF,zF,zF] ?_ rfl ?hy171 ?rest171
       case hy171 => intro w; go_simp; (try with_reducible rfl)
       try simp only [Act.put, zp]
       refine stepC (i := 15) (L := #[zT,zT,zT,zT,zT,zT,zT,zT,zT,zT,zT,zT,zT,zT,zT,zT,zF,zF,zF,zF,zT,zT,zF,zF,zF]) rfl (by rfl) (by kernel_rfl) (by rfl) (fun K hK => ?_)
       go_simp
       obtain ⟨X, Y, c, hX⟩ := bothR ⟨r1.neg, G1, m1, o1, r1.e, canon 4294967296 r1.m⟩ ⟨r2.neg, G2, m2, o2, r2.e, canon 4294967296 r2.m⟩ q1 q2
       go_at_call 63
       refine (both1_any v202 ⟨r1.neg, G1, m1, o1, r1.e, canon 4294967296 r1.m⟩ ⟨r2.neg, G2, m2, o2, r2.e, canon 4294967296 r2.m⟩ q1 q2 (v197.heap.size + 1) (v197.heap.size) (Nat.lt_of_lt_of_le sE (Below.size j203)) (Nat.lt_of_lt_of_le sD (Below.size j203)) (box_later E_ j203 sE) (box_later D_ j203 sD) X Y c hX).mono ?_
       rintro e' v204 ⟨rfl, j205⟩
       have HX := Lib.hid hX
       clear hX
       have zv204 := Below.size j205
       refine hK _ _ ⟨fun _ _ => fun p hp => Below.block (lz j5 (lz j172 (lz j175 (lz j198 (lz j201 (lz j203 j205)))))) p hp, ?_⟩
       clear hK K
       try simp only [Act.put, zp]
       refine zC 16 #[zT,zT,zT,zT,zT,zT,zT,zT,zT,zT,zT,zT,zT,zT,zT,zT,zT,zF,zF,zF,zT,zT,zF,zF,zF] ?_ rfl ?hy173 ?rest173
       case hy173 => intro w; go_simp; (try with_reducible rfl)
       try simp only [Act.put, zp]
       refine zC 17 #[zT,zT,zT,zT,zT,zT,zT,zT,zT,zT,zT,zT,zT,zT,zT,zT,zT,zT,zF,zF,zT,zT,zF,zF,zF] ?_ rfl ?hy174 ?rest174
       case hy174 => intro w; go_simp; (try with_reducible rfl)
       try simp only [Act.put, zp]
       refine zC 18 #[zT,zT,zT,zT,zT,zT,zT,zT,zT,zT,zT,zT,zT,zT,zT,zT,zT,zT,zT,zF,zT,zT,zF,zF,zF] ?_ rfl ?hy175 ?rest175
       case hy175 => intro w; go_simp; (try with_reducible rfl)
       try simp only [Act.put, zp]
       refine zC 19 #[zT,zT,zT,zT,zT,zT,zT,zT,zT,zT,zT,zT,zT,zT,zT,zT,zT,zT,zT,zT,zT,zT,zF,zF,zF] ?_ rfl ?hy176 ?rest176
       case hy176 => intro w; go_simp; (try with_reducible rfl)
       try simp only [Act.put, zp]
       have O1 : OffD v204 v1.heap.size (v4.heap.size) (v174.heap.size) ⟨r1.neg, G1, m1, o1, r1.e, canon 4294967296 r1.m⟩ := OffD.of (d := ⟨r1.neg, G1, m1, o1, r1.e, canon 4294967296 r1.m⟩) (Ints.below I1 (lz j198 (lz j201 (lz j203 j205))) (Nat.le_refl _)) (by omega) (by omega) (by omega) (by omega)
       have O2 : OffD v204 v1.heap.size (v4.heap.size) (v174.heap.size) ⟨r2.neg, G2, m2, o2, r2.e, canon 4294967296 r2.m⟩ := OffD.of (d := ⟨r2.neg, G2, m2, o2, r2.e, canon 4294967296 r2.m⟩) (Ints.below I2 j205 (Nat.le_refl _)) (by omega) (by omega) (by omega) (by omega)
       obtain ⟨OX, OY⟩ := HX.out.all (P := OffD v204 v1.heap.size (v4.heap.size) (v174.heap.size)) O1 O2 (OffD.zero ..)
       exact leafC ⟨.tuple #[.agg #[.bool r1.neg, .slice G1 m1 o1, .int .i64 r1.e], .int .i64 q1], .agg #[.bool r1.neg, .slice G1 m1 o1, .int .i64 r1.e], .int .i64 q1, .func (.func 63) #[] #[.pointer (some ⟨v197.heap.size + 1, 0, none⟩), .pointer (some ⟨v197.heap.size, 0, none⟩)], .tuple #[.agg #[.bool r2.neg, .slice G2 m2 o2, .int .i64 r2.e], .int .i64 q2], .agg #[.bool r2.neg, .slice G2 m2 o2, .int .i64 r2.e], .int .i64 q2, .tuple #[.agg #[.bool X.s, .slice X.A X.n X.c, .int .i64 X.e], .agg #[.bool Y.s, .slice Y.A Y.n Y.c, .int .i64 Y.e], .int .i64 c], .tuple #[.agg #[.bool X.s, .slice X.A X.n X.c, .int .i64 X.e], .agg #[.bool Y.s, .slice Y.A Y.n Y.c, .int .i64 Y.e], .int .i64 c], v4.heap.size, v174.heap.size, X, Y, c, rfl, by omega, by omega, by omega, (box_later B6 (lz j175 (lz j198 (lz j201 (lz j203 j205)))) s173), (box_later B7 (lz j201 (lz j203 j205)) s199), (lz j5 (lz j172 (lz j175 (lz j198 (lz j201 (lz j203 j205)))))), Lib.hid (takeD HX.out Q1.out Q2.out ⟨rfl, rfl, rfl⟩ ⟨rfl, rfl, rfl⟩), OX, OY⟩
     case o18_21 =>
      go_simp
      obtain ⟨v206, hc_, B7, j207, s208⟩ := alloc_d v171
      rw [hc_]
      clear hc_
      have zv206 := Below.size j207
      refine hK _ _ ⟨fun _ _ => fun p hp => Below.block (lz j5 (lz j172 j207)) p hp, ?_⟩
      clear hK K
      try simp only [Act.put, zp]
      refine stepC (i := 4) (L := #[zT,zT,zT,zT,zT,zF,zF,zF,zT,zT,zT,zT,zF,zF,zF,zF,zF,zF,zF,zF,zT,zT,zF,zF,zF]) rfl (by rfl) (by kernel_rfl) (by rfl) (fun K hK => ?_)
      go_simp
      go_at_call 42
      refine (Add_all v206 m.S.s s.S.s m.S.A s.S.A m.S.n m.S.c s.S.n s.S.c m.S.xs s.S.xs m.S.e s.S.e (MRows.on Rm (lz j2 (lz j5 (lz j172 j207)))).S (MRows.on Rs (lz j2 (lz j5 (lz j172 j207)))).S (tab_later tT (lz j2 (lz j5 (lz j172 j207)))) r1 q1 H1.out).mono ?_
      rintro e' v209 ⟨G1, m1, o1, rfl, _, j210, I1⟩
      have zv209 := Below.size j210
      refine hK _ _ ⟨fun _ _ => fun p hp => Below.block (lz j5 (lz j172 (lz j207 j210))) p hp, ?_⟩
      clear hK K
      try simp only [Act.put, zp]
      refine zC 5 #[zT,zT,zT,zT,zT,zT,zF,zF,zT,zT,zT,zT,zF,zF,zF,zF,zF,zF,zF,zF,zT,zT,zF,zF,zF] ?_ rfl ?hy178 ?rest178
      case hy178 => intro w; go_simp; (try with_reducible rfl)
      try simp only [Act.put, zp]
      refine zC 6 #[zT,zT,zT,zT,zT,zT,zT,zF,zT,zT,zT,zT,zF,zF,zF,zF,zF,zF,zF,zF,zT,zT,zF,zF,zF] ?_ rfl ?hy179 ?rest179
      case hy179 => intro w; go_simp; (try with_reducible rfl)
      try simp only [Act.put, zp]
      refine stepC (i := 7) (L := #[zT,zT,zT,zT,zT,zT,zT,zT,zT,zT,zT,zT,zF,zF,zF,zF,zF,zF,zF,zF,zT,zT,zF,zF,zF]) rfl (by rfl) (by kernel_rfl) (by rfl) (fun K hK => ?_)
      go_simp
      go_at_call 41
      refine (both_any v209 r1.neg G1 m1 o1 r1.e q1).mono ?_
      rintro e' v211 ⟨rfl, j212, D_, E_, lD_⟩
      have sD : v209.heap.size < v211.heap.size := by omega
      have sE : v209.heap.size + 1 < v211.heap.size := by omega
      have zv211 := Below.size j212
      refine hK _ _ ⟨fun _ _ => fun p hp => Below.block (lz j5 (lz j172 (lz j207 (lz j210 j212)))) p hp, ?_⟩
      clear hK K
      try simp only [Act.put, zp]
      refine stepC (i := 12) (L := #[zT,zT,zT,zT,zT,zT,zT,zT,zT,zT,zT,zT,zT,zF,zF,zF,zF,zF,zF,zF,zT,zT,zF,zF,zF]) rfl (by rfl) (by kernel_rfl) (by rfl) (fun K hK => ?_)
      go_simp
      go_at_call 42
      refine (Add_all v211 m.W.s s.W.s m.W.A s.W.A m.W.n m.W.c s.W.n s.W.c m.W.xs s.W.xs m.W.e s.W.e (MRows.on Rm (lz j2 (lz j5 (lz j172 (lz j207 (lz j210 j212)))))).W (MRows.on Rs (lz j2 (lz j5 (lz j172 (lz j207 (lz j210 j212)))))).W (tab_later tT (lz j2 (lz j5 (lz j172 (lz j207 (lz j210 j212)))))) r2 q2 H2.out).mono ?_
      rintro e' v213 ⟨G2, m2, o2, rfl, _, j214, I2⟩
      have zv213 := Below.size j214
      refine hK _ _ ⟨fun _ _ => fun p hp => Below.block (lz j5 (lz j172 (lz j207 (lz j210 (lz j212 j214))))) p hp, ?_⟩
      clear hK K
      try simp only [Act.put, zp]
      refine zC 13 #[zT,zT,zT,zT,zT,zT,zT,zT,zT,zT,zT,zT,zT,zT,zF,zF,zF,zF,zF,zF,zT,zT,zF,zF,zF] ?_ rfl ?hy182 ?rest182
      case hy182 => intro w; go_simp; (try with_reducible rfl)
      try simp only [Act.put, zp]
      refine zC 14 #[zT,zT,zT,zT,zT,zT,zT,zT,zT,zT,zT,zT,zT,zT,zT,zF,zF,zF,zF,zF,zT,zT,zF,zF,zF] ?_ rfl ?hy183 ?rest183
      case hy183 => intro w; go_simp; (try with_reducible rfl)
      try simp only [Act.put, zp]
      refine stepC (i := 15) (L := #[zT,zT,zT,zT,zT,zT,zT,zT,zT,zT,zT,zT,zT,zT,zT,zT,zF,zF,zF,zF,zT,zT,zF,zF,zF]) rfl (by rfl) (by kernel_rfl) (by rfl) (fun K hK => ?_)
      go_simp
      obtain ⟨X, Y, c, hX⟩ := bothR ⟨r1.neg, G1, m1, o1, r1.e, canon 4294967296 r1.m⟩ ⟨r2.neg, G2, m2, o2, r2.e, canon 4294967296 r2.m⟩ q1 q2
      go_at_call 63
      refine (both1_any v213 ⟨r1.neg, G1, m1, o1, r1.e, canon 4294967296 r1.m⟩ ⟨r2.neg, G2, m2, o2, r2.e, canon 4294967296 r2.m⟩ q1 q2 (v209.heap.size + 1) (v209.heap.size) (Nat.lt_of_lt_of_le sE (Below.size j214)) (Nat.lt_of_lt_of_le sD (Below.size j214)) (box_later E_ j214 sE) (box_later D_ j214 sD) X Y c hX).mono ?_
      rintro e' v215 ⟨rfl, j216⟩
      have HX := Lib.hid hX
      clear hX
      have zv215 := Below.size j216
      refine hK _ _ ⟨fun _ _ => fun p hp => Below.block (lz j5 (lz j172 (lz j207 (lz j210 (lz j212 (lz j214 j216)))))) p hp, ?_⟩
      clear hK K
      try simp only [Act.put, zp]
      refine zC 16 #[zT,zT,zT,zT,zT,zT,zT,zT,zT,zT,zT,zT,zT,zT,zT,zT,zT,zF,zF,zF,zT,zT,zF,zF,zF] ?_ rfl ?hy185 ?rest185
      case hy185 => intro w; go_simp; (try with_reducible rfl)
      try simp only [Act.put, zp]
      refine zC 17 #[zT,zT,zT,zT,zT,zT,zT,zT,zT,zT,zT,zT,zT,zT,zT,zT,zT,zT,zF,zF,zT,zT,zF,zF,zF] ?_ rfl ?hy186 ?rest186
      case hy186 => intro w; go_simp; (try with_reducible rfl)
      try simp only [Act.put, zp]
      refine zC 18 #[zT,zT,zT,zT,zT,zT,zT,zT,zT,zT,zT,zT,zT,zT,zT,zT,zT,zT,zT,zF,zT,zT,zF,zF,zF] ?_ rfl ?hy187 ?rest187
      case hy187 => intro w; go_simp; (try with_reducible rfl)
      try simp only [Act.put, zp]
      refine zC 19 #[zT,zT,zT,zT,zT,zT,zT,zT,zT,zT,zT,zT,zT,zT,zT,zT,zT,zT,zT,zT,zT,zT,zF,zF,zF] ?_ rfl ?hy188 ?rest188
      case hy188 => intro w; go_simp; (try with_reducible rfl)
      try simp only [Act.put, zp]
      have O1 : OffD v215 v1.heap.size (v4.heap.size) (v171.heap.size) ⟨r1.neg, G1, m1, o1, r1.e, canon 4294967296 r1.m⟩ := OffD.of (d := ⟨r1.neg, G1, m1, o1, r1.e, canon 4294967296 r1.m⟩) (Ints.below I1 (lz j212 (lz j214 j216)) (Nat.le_refl _)) (by omega) (by omega) (by omega) (by omega)
      have O2 : OffD v215 v1.heap.size (v4.heap.size) (v171.heap.size) ⟨r2.neg, G2, m2, o2, r2.e, canon 4294967296 r2.m⟩ := OffD.of (d := ⟨r2.neg, G2, m2, o2, r2.e, canon 4294967296 r2.m⟩) (Ints.below I2 j216 (Nat.le_refl _)) (by omega) (by omega) (by omega) (by omega)
      obtain ⟨OX, OY⟩ := HX.out.all (P := OffD v215 v1.heap.size (v4.heap.size) (v171.heap.size)) O1 O2 (OffD.zero ..)
      exact leafC ⟨.tuple #[.agg #[.bool r1.neg, .slice G1 m1 o1, .int .i64 r1.e], .int .i64 q1], .agg #[.bool r1.neg, .slice G1 m1 o1, .int .i64 r1.e], .int .i64 q1, .func (.func 63) #[] #[.pointer (some ⟨v209.heap.size + 1, 0, none⟩), .pointer (some ⟨v209.heap.size, 0, none⟩)], .tuple #[.agg #[.bool r2.neg, .slice G2 m2 o2, .int .i64 r2.e], .int .i64 q2], .agg #[.bool r2.neg, .slice G2 m2 o2, .int .i64 r2.e], .int .i64 q2, .tuple #[.agg #[.bool X.s, .slice X.A X.n X.c, .int .i64 X.e], .agg #[.bool Y.s, .slice Y.A Y.n Y.c, .int .i64 Y.e], .int .i64 c], .tuple #[.agg #[.bool X.s, .slice X.A X.n X.c, .int .i64 X.e], .agg #[.bool Y.s, .slice Y.A Y.n Y.c, .int .i64 Y.e], .int .i64 c], v4.heap.size, v171.heap.size, X, Y, c, rfl, by omega, by omega, by omega, (box_later B6 (lz j207 (lz j210 (lz j212 (lz j214 j216)))) s173), (box_later B7 (lz j210 (lz j212 (lz j214 j216))) s208), (lz j5 (lz j172 (lz j207 (lz j210 (lz j212 (lz j214 j216)))))), Lib.hid (takeD HX.out Q1.out Q2.out ⟨rfl, rfl, rfl⟩ ⟨rfl, rfl, rfl⟩), OX, OY⟩
    case o1_21 =>
     go_simp
     obtain ⟨v217, hc_, B7, j218, s219⟩ := alloc_d v4
     rw [hc_]
     clear hc_
     have zv217 := Below.size j218
     refine hK _ _ ⟨fun _ _ => fun p hp => Below.block (lz j5 j218) p hp, ?_⟩
     clear hK K
     try simp only [Act.put, zp]
     refine stepC2 (i := 4) (j := 20) (Li := #[zT,zT,zT,zT,zT,zF,zF,zF,zT,zT,zT,zT,zF,zF,zF,zF,zF,zF,zF,zF,zF,zT,zF,zF,zF]) (Lj := #[zT,zT,zT,zT,zF,zF,zF,zF,zT,zT,zT,zT,zF,zF,zF,zF,zF,zF,zF,zF,zT,zT,zF,zF,zF]) rfl rfl (by rfl) (by rfl) (by kernel_rfl) (by rfl) (by rfl) (fun K hK => ?o22_4) (fun K hK => ?o22_20)
     case o22_4 =>
      go_simp
      go_at_call 42
      refine (Add_all v217 m.S.s s.S.s m.S.A s.S.A m.S.n m.S.c s.S.n s.S.c m.S.xs s.S.xs m.S.e s.S.e (MRows.on Rm (lz j2 (lz j5 j218))).S (MRows.on Rs (lz j2 (lz j5 j218))).S (tab_later tT (lz j2 (lz j5 j218))) r1 q1 H1.out).mono ?_
      rintro e' v220 ⟨G1, m1, o1, rfl, _, j221, I1⟩
      have zv220 := Below.size j221
      refine hK _ _ ⟨fun _ _ => fun p hp => Below.block (lz j5 (lz j218 j221)) p hp, ?_⟩
      clear hK K
      try simp only [Act.put, zp]
      refine zC 5 #[zT,zT,zT,zT,zT,zT,zF,zF,zT,zT,zT,zT,zF,zF,zF,zF,zF,zF,zF,zF,zF,zT,zF,zF,zF] ?_ rfl ?hy189 ?rest189
      case hy189 => intro w; go_simp; (try with_reducible rfl)
      try simp only [Act.put, zp]
      refine zC 6 #[zT,zT,zT,zT,zT,zT,zT,zF,zT,zT,zT,zT,zF,zF,zF,zF,zF,zF,zF,zF,zF,zT,zF,zF,zF] ?_ rfl ?hy190 ?rest190
      case hy190 => intro w; go_simp; (try with_reducible rfl)
      try simp only [Act.put, zp]
      refine stepC2 (i := 7) (j := 20) (Li := #[zT,zT,zT,zT,zT,zT,zT,zT,zT,zT,zT,zT,zF,zF,zF,zF,zF,zF,zF,zF,zF,zT,zF,zF,zF]) (Lj := #[zT,zT,zT,zT,zT,zT,zT,zF,zT,zT,zT,zT,zF,zF,zF,zF,zF,zF,zF,zF,zT,zT,zF,zF,zF]) rfl rfl (by rfl) (by rfl) (by kernel_rfl) (by rfl) (by rfl) (fun K hK => ?o23_7) (fun K hK => ?o23_20)
      case o23_7 =>
       go_simp
       go_at_call 41
       refine (both_any v220 r1.neg G1 m1 o1 r1.e q1).mono ?_
       rintro e' v222 ⟨rfl, j223, D_, E_, lD_⟩
       have sD : v220.heap.size < v222.heap.size := by omega
       have sE : v220.heap.size + 1 < v222.heap.size := by omega
       have zv222 := Below.size j223
       refine hK _ _ ⟨fun _ _ => fun p hp => Below.block (lz j5 (lz j218 (lz j221 j223))) p hp, ?_⟩
       clear hK K
       try simp only [Act.put, zp]
       refine stepC2 (i := 12) (j := 20) (Li := #[zT,zT,zT,zT,zT,zT,zT,zT,zT,zT,zT,zT,zT,zF,zF,zF,zF,zF,zF,zF,zF,zT,zF,zF,zF]) (Lj := #[zT,zT,zT,zT,zT,zT,zT,zT,zT,zT,zT,zT,zF,zF,zF,zF,zF,zF,zF,zF,zT,zT,zF,zF,zF]) rfl rfl (by rfl) (by rfl) (by kernel_rfl) (by rfl) (by rfl) (fun K hK => ?o24_12) (fun K hK => ?o24_20)
       case o24_12 =>
        go_simp
        go_at_call 42
        refine (Add_all v222 m.W.s s.W.s m.W.A s.W.A m.W.n m.W.c s.W.n s.W.c m.W.xs s.W.xs m.W.e s.W.e (MRows.on Rm (lz j2 (lz j5 (lz j218 (lz j221 j223))))).W (MRows.on Rs (lz j2 (lz j5 (lz j218 (lz j221 j223))))).W (tab_later tT (lz j2 (lz j5 (lz j218 (lz j221 j223))))) r2 q2 H2.out).mono ?_
        rintro e' v224 ⟨G2, m2, o2, rfl, _, j225, I2⟩
        have zv224 := Below.size j225
        refine hK _ _ ⟨fun _ _ => fun p hp => Below.block (lz j5 (lz j218 (lz j221 (lz j223 j225)))) p hp, ?_⟩
        clear hK K
        try simp only [Act.put, zp]
        refine zC 13 #[zT,zT,zT,zT,zT,zT,zT,zT,zT,zT,zT,zT,zT,zT,zF,zF,zF,zF,zF,zF,zF,zT,zF,zF,zF] ?_ rfl ?hy191 ?rest191
        case hy191 => intro w; go_simp; (try with_reducible rfl)
        try simp only [Act.put, zp]
        refine zC 14 #[zT,zT,zT,zT,zT,zT,zT,zT,zT,zT,zT,zT,zT,zT,zT,zF,zF,zF,zF,zF,zF,zT,zF,zF,zF] ?_ rfl ?hy192 ?rest192
        case hy192 => intro w; go_simp; (try with_reducible rfl)
        try simp only [Act.put, zp]
        refine stepC2 (i := 15) (j := 20) (Li := #[zT,zT,zT,zT,zT,zT,zT,zT,zT,zT,zT,zT,zT,zT,zT,zT,zF,zF,zF,zF,zF,zT,zF,zF,zF]) (Lj := #[zT,zT,zT,zT,zT,zT,zT,zT,zT,zT,zT,zT,zT,zT,zT,zF,zF,zF,zF,zF,zT,zT,zF,zF,zF]) rfl rfl (by rfl) (by rfl) (by kernel_rfl) (by rfl) (by rfl) (fun K hK => ?o25_15) (fun K hK => ?o25_20)
        case o25_15 =>
         go_simp
         obtain ⟨X, Y, c, hX⟩ := bothR ⟨r1.neg, G1, m1, o1, r1.e, canon 4294967296 r1.m⟩ ⟨r2.neg, G2, m2, o2, r2.e, canon 4294967296 r2.m⟩ q1 q2
         go_at_call 63
         refine (both1_any v224 ⟨r1.neg, G1, m1, o1, r1.e, canon 4294967296 r1.m⟩ ⟨r2.neg, G2, m2, o2, r2.e, canon 4294967296 r2.m⟩ q1 q2 (v220.heap.size + 1) (v220.heap.size) (Nat.lt_of_lt_of_le sE (Below.size j225)) (Nat.lt_of_lt_of_le sD (Below.size j225)) (box_later E_ j225 sE) (box_later D_ j225 sD) X Y c hX).mono ?_
         rintro e' v226 ⟨rfl, j227⟩
         have HX := Lib.hid hX
         clear hX
         have zv226 := Below.size j227
         refine hK _ _ ⟨fun _ _ => fun p hp => Below.block (lz j5 (lz j218 (lz j221 (lz j223 (lz j225 j227))))) p hp, ?_⟩
         clear hK K
         try simp only [Act.put, zp]
         refine zC 16 #[zT,zT,zT,zT,zT,zT,zT,zT,zT,zT,zT,zT,zT,zT,zT,zT,zT,zF,zF,zF,zF,zT,zF,zF,zF] ?_ rfl ?hy193 ?rest193
         case hy193 => intro w; go_simp; (try with_reducible rfl)
         try simp only [Act.put, zp]
         refine zC 17 #[zT,zT,zT,zT,zT,zT,zT,zT,zT,zT,zT,zT,zT,zT,zT,zT,zT,zT,zF,zF,zF,zT,zF,zF,zF] ?_ rfl ?hy194 ?rest194
         case hy194 => intro w; go_simp; (try with_reducible rfl)
         try simp only [Act.put, zp]
         refine zC 18 #[zT,zT,zT,zT,zT,zT,zT,zT,zT,zT,zT,zT,zT,zT,zT,zT,zT,zT,zT,zF,zF,zT,zF,zF,zF] ?_ rfl ?hy195 ?rest195
         case hy195 => intro w; go_simp; (try with_reducible rfl)
         try simp only [Act.put, zp]
         refine zC 19 #[zT,zT,zT,zT,zT,zT,zT,zT,zT,zT,zT,zT,zT,zT,zT,zT,zT,zT,zT,zT,zF,zT,zF,zF,zF] ?_ rfl ?hy196 ?rest196
         case hy196 => intro w; go_simp; (try with_reducible rfl)
         try simp only [Act.put, zp]
         refine stepC (i := 20) (L := #[zT,zT,zT,zT,zT,zT,zT,zT,zT,zT,zT,zT,zT,zT,zT,zT,zT,zT,zT,zT,zT,zT,zF,zF,zF]) rfl (by rfl) (by kernel_rfl) (by rfl) (fun K hK => ?_)
         go_simp
         obtain ⟨v228, hc_, B6, j229, s230⟩ := alloc_d v226
         rw [hc_]
         clear hc_
         have zv228 := Below.size j229
         refine hK _ _ ⟨fun _ _ => fun p hp => Below.block (lz j5 (lz j218 (lz j221 (lz j223 (lz j225 (lz j227 j229)))))) p hp, ?_⟩
         clear hK K
         try simp only [Act.put, zp]
         have O1 : OffD v228 v1.heap.size (v226.heap.size) (v4.heap.size) ⟨r1.neg, G1, m1, o1, r1.e, canon 4294967296 r1.m⟩ := OffD.of (d := ⟨r1.neg, G1, m1, o1, r1.e, canon 4294967296 r1.m⟩) (Ints.below I1 (lz j223 (lz j225 (lz j227 j229))) (Nat.le_refl _)) (by omega) (by omega) (by omega) (by omega)
         have O2 : OffD v228 v1.heap.size (v226.heap.size) (v4.heap.size) ⟨r2.neg, G2, m2, o2, r2.e, canon 4294967296 r2.m⟩ := OffD.of (d := ⟨r2.neg, G2, m2, o2, r2.e, canon 4294967296 r2.m⟩) (Ints.below I2 (lz j227 j229) (Nat.le_refl _)) (by omega) (by omega) (by omega) (by omega)
         obtain ⟨OX, OY⟩ := HX.out.all (P := OffD v228 v1.heap.size (v226.heap.size) (v4.heap.size)) O1 O2 (OffD.zero ..)
         exact leafC ⟨.tuple #[.agg #[.bool r1.neg, .slice G1 m1 o1, .int .i64 r1.e], .int .i64 q1], .agg #[.bool r1.neg, .slice G1 m1 o1, .int .i64 r1.e], .int .i64 q1, .func (.func 63) #[] #[.pointer (some ⟨v220.heap.size + 1, 0, none⟩), .pointer (some ⟨v220.heap.size, 0, none⟩)], .tuple #[.agg #[.bool r2.neg, .slice G2 m2 o2, .int .i64 r2.e], .int .i64 q2], .agg #[.bool r2.neg, .slice G2 m2 o2, .int .i64 r2.e], .int .i64 q2, .tuple #[.agg #[.bool X.s, .slice X.A X.n X.c, .int .i64 X.e], .agg #[.bool Y.s, .slice Y.A Y.n Y.c, .int .i64 Y.e], .int .i64 c], .tuple #[.agg #[.bool X.s, .slice X.A X.n X.c, .int .i64 X.e], .agg #[.bool Y.s, .slice Y.A Y.n Y.c, .int .i64 Y.e], .int .i64 c], v226.heap.size, v4.heap.size, X, Y, c, rfl, by omega, by omega, by omega, B6, (box_later B7 (lz j221 (lz j223 (lz j225 (lz j227 j229)))) s219), (lz j5 (lz j218 (lz j221 (lz j223 (lz j225 (lz j227 j229)))))), Lib.hid (takeD HX.out Q1.out Q2.out ⟨rfl, rfl, rfl⟩ ⟨rfl, rfl, rfl⟩), OX, OY⟩
        case o25_20 =>
         go_simp
         obtain ⟨v231, hc_, B6, j232, s233⟩ := alloc_d v224
         rw [hc_]
         clear hc_
         have zv231 := Below.size j232
         refine hK _ _ ⟨fun _ _ => fun p hp => Below.block (lz j5 (lz j218 (lz j221 (lz j223 (lz j225 j232))))) p hp, ?_⟩
         clear hK K
         try simp only [Act.put, zp]
         refine stepC (i := 15) (L := #[zT,zT,zT,zT,zT,zT,zT,zT,zT,zT,zT,zT,zT,zT,zT,zT,zF,zF,zF,zF,zT,zT,zF,zF,zF]) rfl (by rfl) (by kernel_rfl) (by rfl) (fun K hK => ?_)
         go_simp
         obtain ⟨X, Y, c, hX⟩ := bothR ⟨r1.neg, G1, m1, o1, r1.e, canon 4294967296 r1.m⟩ ⟨r2.neg, G2, m2, o2, r2.e, canon 4294967296 r2.m⟩ q1 q2
         go_at_call 63
         refine (both1_any v231 ⟨r1.neg, G1, m1, o1, r1.e, canon 4294967296 r1.m⟩ ⟨r2.neg, G2, m2, o2, r2.e, canon 4294967296 r2.m⟩ q1 q2 (v220.heap.size + 1) (v220.heap.size) (Nat.lt_of_lt_of_le sE (Below.size (lz j225 j232))) (Nat.lt_of_lt_of_le sD (Below.size (lz j225 j232))) (box_later E_ (lz j225 j232) sE) (box_later D_ (lz j225 j232) sD) X Y c hX).mono ?_
         rintro e' v234 ⟨rfl, j235⟩
         have HX := Lib.hid hX
         clear hX
         have zv234 := Below.size j235
         refine hK _ _ ⟨fun _ _ => fun p hp => Below.block (lz j5 (lz j218 (lz j221 (lz j223 (lz j225 (lz j232 j235)))))) p hp, ?_⟩
         clear hK K
         try simp only [Act.put, zp]
         refine zC 16 #[zT,zT,zT,zT,zT,zT,zT,zT,zT,zT,zT,zT,zT,zT,zT,zT,zT,zF,zF,zF,zT,zT,zF,zF,zF] ?_ rfl ?hy199 ?rest199
         case hy199 => intro w; go_simp; (try with_reducible rfl)
         try simp only [Act.put, zp]
         refine zC 17 #[zT,zT,zT,zT,zT,zT,zT,zT,zT,zT,zT,zT,zT,zT,zT,zT,zT,zT,zF,zF,zT,zT,zF,zF,zF] ?_ rfl ?hy200 ?rest200
         case hy200 => intro w; go_simp; (try with_reducible rfl)
         try simp only [Act.put, zp]
         refine zC 18 #[zT,zT,zT,zT,zT,zT,zT,zT,zT,zT,zT,zT,zT,zT,zT,zT,zT,zT,zT,zF,zT,zT,zF,zF,zF] ?_ rfl ?hy201 ?rest201
         case hy201 => intro w; go_simp; (try with_reducible rfl)
         try simp only [Act.put, zp]
         refine zC 19 #[zT,zT,zT,zT,zT,zT,zT,zT,zT,zT,zT,zT,zT,zT,zT,zT,zT,zT,zT,zT,zT,zT,zF,zF,zF] ?_ rfl ?hy202 ?rest202
         case hy202 => intro w; go_simp; (try with_reducible rfl)
         try simp only [Act.put, zp]
         have O1 : OffD v234 v1.heap.size (v224.heap.size) (v4.heap.size) ⟨r1.neg, G1, m1, o1, r1.e, canon 4294967296 r1.m⟩ := OffD.of (d := ⟨r1.neg, G1, m1, o1, r1.e, canon 4294967296 r1.m⟩) (Ints.below I1 (lz j223 (lz j225 (lz j232 j235))) (Nat.le_refl _)) (by omega) (by omega) (by omega) (by omega)
         have O2 : OffD v234 v1.heap.size (v224.heap.size) (v4.heap.size) ⟨r2.neg, G2, m2, o2, r2.e, canon 4294967296 r2.m⟩ := OffD.of (d := ⟨r2.neg, G2, m2, o2, r2.e, canon 4294967296 r2.m⟩) (Ints.below I2 (lz j232 j235) (Nat.le_refl _)) (by omega) (by omega) (by omega) (by omega)
         obtain ⟨OX, OY⟩ := HX.out.all (P := OffD v234 v1.heap.size (v224.heap.size) (v4.heap.size)) O1 O2 (OffD.zero ..)
         exact leafC ⟨.tuple #[.agg #[.bool r1.neg, .slice G1 m1 o1, .int .i64 r1.e], .int .i64 q1], .agg #[.bool r1.neg, .slice G1 m1 o1, .int .i64 r1.e], .int .i64 q1, .func (.func 63) #[] #[.pointer (some ⟨v220.heap.size + 1, 0, none⟩), .pointer (some ⟨v220.heap.size, 0, none⟩)], .tuple #[.agg #[.bool r2.neg, .slice G2 m2 o2, .int .i64 r2.e], .int .i64 q2], .agg #[.bool r2.neg, .slice G2 m2 o2, .int .i64 r2.e], .int .i64 q2, .tuple #[.agg #[.bool X.s, .slice X.A X.n X.c, .int .i64 X.e], .agg #[.bool Y.s, .slice Y.A Y.n Y.c, .int .i64 Y.e], .int .i64 c], .tuple #[.agg #[.bool X.s, .slice X.A X.n X.c, .int .i64 X.e], .agg #[.bool Y.s, .slice Y.A Y.n Y.c, .int .i64 Y.e], .int .i64 c], v224.heap.size, v4.heap.size, X, Y, c, rfl, by omega, by omega, by omega, (box_later B6 j235 s233), (box_later B7 (lz j221 (lz j223 (lz j225 (lz j232 j235)))) s219), (lz j5 (lz j218 (lz j221 (lz j223 (lz j225 (lz j232 j235)))))), Lib.hid (takeD HX.out Q1.out Q2.out ⟨rfl, rfl, rfl⟩ ⟨rfl, rfl, rfl⟩), OX, OY⟩
       case o24_20 =>
        go_simp
        obtain ⟨v236, hc_, B6, j237, s238⟩ := alloc_d v222
        rw [hc_]
        clear hc_
        have zv236 := Below.size j237
        refine hK _ _ ⟨fun _ _ => fun p hp => Below.block (lz j5 (lz j218 (lz j221 (lz j223 j237)))) p hp, ?_⟩
        clear hK K
        try simp only [Act.put, zp]
        refine stepC (i := 12) (L := #[zT,zT,zT,zT,zT,zT,zT,zT,zT,zT,zT,zT,zT,zF,zF,zF,zF,zF,zF,zF,zT,zT,zF,zF,zF]) rfl (by rfl) (by kernel_rfl) (by rfl) (fun K hK => ?_)
        go_simp
        go_at_call 42
        refine (Add_all v236 m.W.s s.W.s m.W.A s.W.A m.W.n m.W.c s.W.n s.W.c m.W.xs s.W.xs m.W.e s.W.e (MRows.on Rm (lz j2 (lz j5 (lz j218 (lz j221 (lz j223 j237)))))).W (MRows.on Rs (lz j2 (lz j5 (lz j218 (lz j221 (lz j223 j237)))))).W (tab_later tT (lz j2 (lz j5 (lz j218 (lz j221 (lz j223 j237)))))) r2 q2 H2.out).mono ?_
        rintro e' v239 ⟨G2, m2, o2, rfl, _, j240, I2⟩
        have zv239 := Below.size j240
        refine hK _ _ ⟨fun _ _ => fun p hp => Below.block (lz j5 (lz j218 (lz j221 (lz j223 (lz j237 j240))))) p hp, ?_⟩
        clear hK K
        try simp only [Act.put, zp]
        refine zC 13 #[zT,zT,zT,zT,zT,zT,zT,zT,zT,zT,zT,zT,zT,zT,zF,zF,zF,zF,zF,zF,zT,zT,zF,zF,zF] ?_ rfl ?hy204 ?rest204
        case hy204 => intro w; go_simp; (try with_reducible rfl)
        try simp only [Act.put, zp]
        refine zC 14 #[zT,zT,zT,zT,zT,zT,zT,zT,zT,zT,zT,zT,zT,zT,zT,zF,zF,zF,zF,zF,zT,zT,zF,zF,zF] ?_ rfl ?hy205 ?rest205
        case hy205 => intro w; go_simp; (try with_reducible rfl)
        try simp only [Act.put, zp]
        refine stepC (i := 15) (L := #[zT,zT,zT,zT,zT,zT,zT,zT,zT,zT,zT,zT,zT,zT,zT,zT,zF,zF,zF,zF,zT,zT,zF,zF,zF]) rfl (by rfl) (by kernel_rfl) (by rfl) (fun K hK => ?_)
        go_simp
        obtain ⟨X, Y, c, hX⟩ := bothR ⟨r1.neg, G1, m1, o1, r1.e, canon 4294967296 r1.m⟩ ⟨r2.neg, G2, m2, o2, r2.e, canon 4294967296 r2.m⟩ q1 q2
        go_at_call 63
        refine (both1_any v239 ⟨r1.neg, G1, m1, o1, r1.e, canon 4294967296 r1.m⟩ ⟨r2.neg, G2, m2, o2, r2.e, canon 4294967296 r2.m⟩ q1 q2 (v220.heap.size + 1) (v220.heap.size) (Nat.lt_of_lt_of_le sE (Below.size (lz j237 j240))) (Nat.lt_of_lt_of_le sD (Below.size (lz j237 j240))) (box_later E_ (lz j237 j240) sE) (box_later D_ (lz j237 j240) sD) X Y c hX).mono ?_
        rintro e' v241 ⟨rfl, j242⟩
        have HX := Lib.hid hX
        clear hX
        have zv241 := Below.size j242
        refine hK _ _ ⟨fun _ _ => fun p hp => Below.block (lz j5 (lz j218 (lz j221 (lz j223 (lz j237 (lz j240 j242)))))) p hp, ?_⟩
        clear hK K
        try simp only [Act.put, zp]
        refine zC 16 #[zT,zT,zT,zT,zT,zT,zT,zT,zT,zT,zT,zT,zT,zT,zT,zT,zT,zF,zF,zF,zT,zT,zF,zF,zF] ?_ rfl ?hy207 ?rest207
        case hy207 => intro w; go_simp; (try with_reducible rfl)
        try simp only [Act.put, zp]
        refine zC 17 #[zT,zT,zT,zT,zT,zT,zT,zT,zT,zT,zT,zT,zT,zT,zT,zT,zT,zT,zF,zF,zT,zT,zF,zF,zF] ?_ rfl ?hy208 ?rest208
        case hy208 => intro w; go_simp; (try with_reducible rfl)
        try simp only [Act.put, zp]
        refine zC 18 #[zT,zT,zT,zT,zT,zT,zT,zT,zT,zT,zT,zT,zT,zT,zT,zT,zT,zT,zT,zF,zT,zT,zF,zF,zF] ?_ rfl ?hy209 ?rest209
        case hy209 => intro w; go_simp; (try with_reducible rfl)
        try simp only [Act.put, zp]
        refine zC 19 #[zT,zT,zT,zT,zT,zT,zT,zT,zT,zT,zT,zT,zT,zT,zT,zT,zT,zT,zT,zT,zT,zT,zF,zF,zF] ?_ rfl ?hy210 ?rest210
        case hy210 => intro w; go_simp; (try with_reducible rfl)
        try simp only [Act.put, zp]
        have O1 : OffD v241 v1.heap.size (v222.heap.size) (v4.heap.size) ⟨r1.neg, G1, m1, o1, r1.e, canon 4294967296 r1.m⟩ := OffD.of (d := ⟨r1.neg, G1, m1, o1, r1.e, canon 4294967296 r1.m⟩) (Ints.below I1 (lz j223 (lz j237 (lz j240 j242))) (Nat.le_refl _)) (by omega) (by omega) (by omega) (by omega)
        have O2 : OffD v241 v1.heap.size (v222.heap.size) (v4.heap.size) ⟨r2.neg, G2, m2, o2, r2.e, canon 4294967296 r2.m⟩ := OffD.of (d := ⟨r2.neg, G2, m2, o2, r2.e, canon 4294967296 r2.m⟩) (Ints.below I2 j242 (Nat.le_refl _)) (by omega) (by omega) (by omega) (by omega)
        obtain ⟨OX, OY⟩ := HX.out.all (P := OffD v241 v1.heap.size (v222.heap.size) (v4.heap.size)) O1 O2 (OffD.zero ..)
        exact leafC ⟨.tuple #[.agg #[.bool r1.neg, .slice G1 m1 o1, .int .i64 r1.e], .int .i64 q1], .agg #[.bool r1.neg, .slice G1 m1 o1, .int .i64 r1.e], .int .i64 q1, .func (.func 63) #[] #[.pointer (some ⟨v220.heap.size + 1, 0, none⟩), .pointer (some ⟨v220.heap.size, 0, none⟩)], .tuple #[.agg #[.bool r2.neg, .slice G2 m2 o2, .int .i64 r2.e], .int .i64 q2], .agg #[.bool r2.neg, .slice G2 m2 o2, .int .i64 r2.e], .int .i64 q2, .tuple #[.agg #[.bool X.s, .slice X.A X.n X.c, .int .i64 X.e], .agg #[.bool Y.s, .slice Y.A Y.n Y.c, .int .i64 Y.e], .int .i64 c], .tuple #[.agg #[.bool X.s, .slice X.A X.n X.c, .int .i64 X.e], .agg #[.bool Y.s, .slice Y.A Y.n Y.c, .int .i64 Y.e], .int .i64 c], v222.heap.size, v4.heap.size, X, Y, c, rfl, by omega, by omega, by omega, (box_later B6 (lz j240 j242) s238), (box_later B7 (lz j221 (lz j223 (lz j237 (lz j240 j242)))) s219), (lz j5 (lz j218 (lz j221 (lz j223 (lz j237 (lz j240 j242)))))), Lib.hid (takeD HX.out Q1.out Q2.out ⟨rfl, rfl, rfl⟩ ⟨rfl, rfl, rfl⟩), OX, OY⟩
      case o23_20 =>
       go_simp
       obtain ⟨v243, hc_, B6, j244, s245⟩ := alloc_d v220
       rw [hc_]
       clear hc_
       have zv243 := Below.size j244
       refine hK _ _ ⟨fun _ _ => fun p hp => Below.block (lz j5 (lz j218 (lz j221 j244))) p hp, ?_⟩
       clear hK K
       try simp only [Act.put, zp]
       refine stepC (i := 7) (L := #[zT,zT,zT,zT,zT,zT,zT,zT,zT,zT,zT,zT,zF,zF,zF,zF,zF,zF,zF,zF,zT,zT,zF,zF,zF]) rfl (by rfl) (by kernel_rfl) (by rfl) (fun K hK => ?_)
       go_simp
       go_at_call 41
       refine (both_any v243 r1.neg G1 m1 o1 r1.e q1).mono ?_
       rintro e' v246 ⟨rfl, j247, D_, E_, lD_⟩
       have sD : v243.heap.size < v246.heap.size := by omega
       have sE : v243.heap.size + 1 < v246.heap.size := by omega
       have zv246 := Below.size j247
       refine hK _ _ ⟨fun _ _ => fun p hp => Below.block (lz j5 (lz j218 (lz j221 (lz j244 j247)))) p hp, ?_⟩
       clear hK K
       try simp only [Act.put, zp]
       refine stepC (i := 12) (L := #[zT,zT,zT,zT,zT,zT,zT,zT,zT,zT,zT,zT,zT,zF,zF,zF,zF,zF,zF,zF,zT,zT,zF,zF,zF]) rfl (by rfl) (by kernel_rfl) (by rfl) (fun K hK => ?_)
       go_simp
       go_at_call 42
       refine (Add_all v246 m.W.s s.W.s m.W.A s.W.A m.W.n m.W.c s.W.n s.W.c m.W.xs s.W.xs m.W.e s.W.e (MRows.on Rm (lz j2 (lz j5 (lz j218 (lz j221 (lz j244 j247)))))).W (MRows.on Rs (lz j2 (lz j5 (lz j218 (lz j221 (lz j244 j247)))))).W (tab_later tT (lz j2 (lz j5 (lz j218 (lz j221 (lz j244 j247)))))) r2 q2 H2.out).mono ?_
       rintro e' v248 ⟨G2, m2, o2, rfl, _, j249, I2⟩
       have zv248 := Below.size j249
       refine hK _ _ ⟨fun _ _ => fun p hp => Below.block (lz j5 (lz j218 (lz j221 (lz j244 (lz j247 j249))))) p hp, ?_⟩
       clear hK K
       try simp only [Act.put, zp]
       refine zC 13 #[zT,zT,zT,zT,zT,zT,zT,zT,zT,zT,zT,zT,zT,zT,zF,zF,zF,zF,zF,zF,zT,zT,zF,zF,zF] ?_ rfl ?hy213 ?rest213
       case hy213 => intro w; go_simp; (try with_reducible rfl)
       try simp only [Act.put, zp]
       refine zC 14 #[zT,zT,zT,zT,zT,zT,zT,zT,zT,zT,zT,zT,zT,zT,zT,zF,zF,zF,zF,zF,zT,zT,zF,zF,zF] ?_ rfl ?hy214 ?rest214
       case hy214 => intro w; go_simp; (try with_reducible rfl)
       try simp only [Act.put, zp]
       refine stepC (i := 15) (L := #[zT,zT,zT,zT,zT,zT,zT,zT,zT,zT,zT,zT,zT,zT,zT,zT,zF,zF,zF,zF,zT,zT,zF,zF,zF]) rfl (by rfl) (by kernel_rfl) (by rfl) (fun K hK => ?_)
       go_simp
       obtain ⟨X, Y, c, hX⟩ := bothR ⟨r1.neg, G1, m1, o1, r1.e, canon 4294967296 r1.m⟩ ⟨r2.neg, G2, m2, o2, r2.e, canon 4294967296 r2.m⟩ q1 q2
       go_at_call 63
       refine (both1_any v248 ⟨r1.neg, G1, m1, o1, r1.e, canon 4294967296 r1.m⟩ ⟨r2.neg, G2, m2, o2, r2.e, canon 4294967296 r2.m⟩ q1 q2 (v243.heap.size + 1) (v243.heap.size) (Nat.lt_of_lt_of_le sE (Below.size j249)) (Nat.lt_of_lt_of_le sD (Below.size j249)) (box_later E_ j249 sE) (box_later D_ j249 sD) X Y c hX).mono ?_
       rintro e' v250 ⟨rfl, j251⟩
       have HX := Lib.hid hX
       clear hX
       have zv250 := Below.size j251
       refine hK _ _ ⟨fun _ _ => fun p hp => Below.block (lz j5 (lz j218 (lz j221 (lz j244 (lz j247 (lz j249 j251)))))) p hp, ?_⟩
       clear hK K
       try simp only [Act.put, zp]
       refine zC 16 #[zT,zT,zT,zT,zT,zT,zT,zT,zT,zT,zT,zT,zT,zT,zT,zT,zT,zF,zF,zF,zT,zT,zF,zF,zF] ?_ rfl ?hy216 ?rest216
       case hy216 => intro w; go_simp; (try with_reducible rfl)
       try simp only [Act.put, zp]
       refine zC 17 #[zT,zT,zT,zT,zT,zT,zT,zT,zT,zT,zT,zT,zT,zT,zT,zT,zT,zT,zF,zF,zT,zT,zF,zF,zF] ?_ rfl ?hy217 ?rest217
       case hy217 => intro w; go_simp; (try with_reducible rfl)
       try simp only [Act.put, zp]
       refine zC 18 #[zT,zT,zT,zT,zT,zT,zT,zT,zT,zT,zT,zT,zT,zT,zT,zT,zT,zT,zT,zF,zT,zT,zF,zF,zF] ?_ rfl ?hy218 ?rest218
       case hy218 => intro w; go_simp; (try with_reducible rfl)
       try simp only [Act.put, zp]
       refine zC 19 #[zT,zT,zT,zT,zT,zT,zT,zT,zT,zT,zT,zT,zT,zT,zT,zT,zT,zT,zT,zT,zT,zT,zF,zF,zF] ?_ rfl ?hy219 ?rest219
       case hy219 => intro w; go_simp; (try with_reducible rfl)
       try simp only [Act.put, zp]
       have O1 : OffD v250 v1.heap.size (v220.heap.size) (v4.heap.size) ⟨r1.neg, G1, m1, o1, r1.e, canon 4294967296 r1.m⟩ := OffD.of (d := ⟨r1.neg, G1, m1, o1, r1.e, canon 4294967296 r1.m⟩) (Ints.below I1 (lz j244 (lz j247 (lz j249 j251))) (Nat.le_refl _)) (by omega) (by omega) (by omega) (by omega)
       have O2 : OffD v250 v1.heap.size (v220.heap.size) (v4.heap.size) ⟨r2.neg, G2, m2, o2, r2.e, canon 4294967296 r2.m⟩ := OffD.of (d := ⟨r2.neg, G2, m2, o2, r2.e, canon 4294967296 r2.m⟩) (Ints.below I2 j251 (Nat.le_refl _)) (by omega) (by omega) (by omega) (by omega)
       obtain ⟨OX, OY⟩ := HX.out.all (P := OffD v250 v1.heap.size (v220.heap.size) (v4.heap.size)) O1 O2 (OffD.zero ..)
       exact leafC ⟨.tuple #[.agg #[.bool r1.neg, .slice G1 m1 o1, .int .i64 r1.e], .int .i64 q1], .agg #[.bool r1.neg, .slice G1 m1 o1, .int .i64 r1.e], .int .i64 q1, .func (.func 63) #[] #[.pointer (some ⟨v243.heap.size + 1, 0, none⟩), .pointer (some ⟨v243.heap.size, 0, none⟩)], .tuple #[.agg #[.bool r2.neg, .slice G2 m2 o2, .int .i64 r2.e], .int .i64 q2], .agg #[.bool r2.neg, .slice G2 m2 o2, .int .i64 r2.e], .int .i64 q2, .tuple #[.agg #[.bool X.s, .slice X.A X.n X.c, .int .i64 X.e], .agg #[.bool Y.s, .slice Y.A Y.n Y.c, .int .i64 Y.e], .int .i64 c], .tuple #[.agg #[.bool X.s, .slice X.A X.n X.c, .int .i64 X.e], .agg #[.bool Y.s, .slice Y.A Y.n Y.c, .int .i64 Y.e], .int .i64 c], v220.heap.size, v4.heap.size, X, Y, c, rfl, by omega, by omega, by omega, (box_later B6 (lz j247 (lz j249 j251)) s245), (box_later B7 (lz j221 (lz j244 (lz j247 (lz j249 j251)))) s219), (lz j5 (lz j218 (lz j221 (lz j244 (lz j247 (lz j249 j251)))))), Lib.hid (takeD HX.out Q1.out Q2.out ⟨rfl, rfl, rfl⟩ ⟨rfl, rfl, rfl⟩), OX, OY⟩
     case o22_20 =>
      go_simp
      obtain ⟨v252, hc_, B6, j253, s254⟩ := alloc_d v217
      rw [hc_]
      clear hc_
      have zv252 := Below.size j253
      refine hK _ _ ⟨fun _ _ => fun p hp => Below.block (lz j5 (lz j218 j253)) p hp, ?_⟩
      clear hK K
      try simp only [Act.put, zp]
      refine stepC (i := 4) (L := #[zT,zT,zT,zT,zT,zF,zF,zF,zT,zT,zT,zT,zF,zF,zF,zF,zF,zF,zF,zF,zT,zT,zF,zF,zF]) rfl (by rfl) (by kernel_rfl) (by rfl) (fun K hK => ?_)
      go_simp
      go_at_call 42
      refine (Add_all v252 m.S.s s.S.s m.S.A s.S.A m.S.n m.S.c s.S.n s.S.c m.S.xs s.S.xs m.S.e s.S.e (MRows.on Rm (lz j2 (lz j5 (lz j218 j253)))).S (MRows.on Rs (lz j2 (lz j5 (lz j218 j253)))).S (tab_later tT (lz j2 (lz j5 (lz j218 j253)))) r1 q1 H1.out).mono ?_
      rintro e' v255 ⟨G1, m1, o1, rfl, _, j256, I1⟩
      have zv255 := Below.size j256
      refine hK _ _ ⟨fun _ _ => fun p hp => Below.block (lz j5 (lz j218 (lz j253 j256))) p hp, ?_⟩
      clear hK K
      try simp only [Act.put, zp]
      refine zC 5 #[zT,zT,zT,zT,zT,zT,zF,zF,zT,zT,zT,zT,zF,zF,zF,zF,zF,zF,zF,zF,zT,zT,zF,zF,zF] ?_ rfl ?hy221 ?rest221
      case hy221 => intro w; go_simp; (try with_reducible rfl)
      try simp only [Act.put, zp]
      refine zC 6 #[zT,zT,zT,zT,zT,zT,zT,zF,zT,zT,zT,zT,zF,zF,zF,zF,zF,zF,zF,zF,zT,zT,zF,zF,zF] ?_ rfl ?hy222 ?rest222
      case hy222 => intro w; go_simp; (try with_reducible rfl)
      try simp only [Act.put, zp]
      refine stepC (i := 7) (L := #[zT,zT,zT,zT,zT,zT,zT,zT,zT,zT,zT,zT,zF,zF,zF,zF,zF,zF,zF,zF,zT,zT,zF,zF,zF]) rfl (by rfl) (by kernel_rfl) (by rfl) (fun K hK => ?_)
      go_simp
      go_at_call 41
      refine (both_any v255 r1.neg G1 m1 o1 r1.e q1).mono ?_
      rintro e' v257 ⟨rfl, j258, D_, E_, lD_⟩
      have sD : v255.heap.size < v257.heap.size := by omega
      have sE : v255.heap.size + 1 < v257.heap.size := by omega
      have zv257 := Below.size j258
      refine hK _ _ ⟨fun _ _ => fun p hp => Below.block (lz j5 (lz j218 (lz j253 (lz j256 j258)))) p hp, ?_⟩
      clear hK K
      try simp only [Act.put, zp]
      refine stepC (i := 12) (L := #[zT,zT,zT,zT,zT,zT,zT,zT,zT,zT,zT,zT,zT,zF,zF,zF,zF,zF,zF,zF,zT,zT,zF,zF,zF]) rfl (by rfl) (by kernel_rfl) (by rfl) (fun K hK => ?_)
      go_simp
      go_at_call 42
      refine (Add_all v257 m.W.s s.W.s m.W.A s.W.A m.W.n m.W.c s.W.n s.W.c m.W.xs s.W.xs m.W.e s.W.e (MRows.on Rm (lz j2 (lz j5 (lz j218 (lz j253 (lz j256 j258)))))).W (MRows.on Rs (lz j2 (lz j5 (lz j218 (lz j253 (lz j256 j258)))))).W (tab_later tT (lz j2 (lz j5 (lz j218 (lz j253 (lz j256 j258)))))) r2 q2 H2.out).mono ?_
      rintro e' v259 ⟨G2, m2, o2, rfl, _, j260, I2⟩
      have zv259 := Below.size j260
      refine hK _ _ ⟨fun _ _ => fun p hp => Below.block (lz j5 (lz j218 (lz j253 (lz j256 (lz j258 j260))))) p hp, ?_⟩
      clear hK K
      try simp only [Act.put, zp]
      refine zC 13 #[zT,zT,zT,zT,zT,zT,zT,zT,zT,zT,zT,zT,zT,zT,zF,zF,zF,zF,zF,zF,zT,zT,zF,zF,zF] ?_ rfl ?hy225 ?rest225
      case hy225 => intro w; go_simp; (try with_reducible rfl)
      try simp only [Act.put, zp]
      refine zC 14 #[zT,zT,zT,zT,zT,zT,zT,zT,zT,zT,zT,zT,zT,zT,zT,zF,zF,zF,zF,zF,zT,zT,zF,zF,zF] ?_ rfl ?hy226 ?rest226
      case hy226 => intro w; go_simp; (try with_reducible rfl)
      try simp only [Act.put, zp]
      refine stepC (i := 15) (L := #[zT,zT,zT,zT,zT,zT,zT,zT,zT,zT,zT,zT,zT,zT,zT,zT,zF,zF,zF,zF,zT,zT,zF,zF,zF]) rfl (by rfl) (by kernel_rfl) (by rfl) (fun K hK => ?_)
      go_simp
      obtain ⟨X, Y, c, hX⟩ := bothR ⟨r1.neg, G1, m1, o1, r1.e, canon 4294967296 r1.m⟩ ⟨r2.neg, G2, m2, o2, r2.e, canon 4294967296 r2.m⟩ q1 q2
      go_at_call 63
      refine (both1_any v259 ⟨r1.neg, G1, m1, o1, r1.e, canon 4294967296 r1.m⟩ ⟨r2.neg, G2, m2, o2, r2.e, canon 4294967296 r2.m⟩ q1 q2 (v255.heap.size + 1) (v255.heap.size) (Nat.lt_of_lt_of_le sE (Below.size j260)) (Nat.lt_of_lt_of_le sD (Below.size j260)) (box_later E_ j260 sE) (box_later D_ j260 sD) X Y c hX).mono ?_
      rintro e' v261 ⟨rfl, j262⟩
      have HX := Lib.hid hX
      clear hX
      have zv261 := Below.size j262
      refine hK _ _ ⟨fun _ _ => fun p hp => Below.block (lz j5 (lz j218 (lz j253 (lz j256 (lz j258 (lz j260 j262)))))) p hp, ?_⟩
      clear hK K
      try simp only [Act.put, zp]
      refine zC 16 #[zT,zT,zT,zT,zT,zT,zT,zT,zT,zT,zT,zT,zT,zT,zT,zT,zT,zF,zF,zF,zT,zT,zF,zF,zF] ?_ rfl ?hy228 ?rest228
      case hy228 => intro w; go_simp; (try with_reducible rfl)
      try simp only [Act.put, zp]
      refine zC 17 #[zT,zT,zT,zT,zT,zT,zT,zT,zT,zT,zT,zT,zT,zT,zT,zT,zT,zT,zF,zF,zT,zT,zF,zF,zF] ?_ rfl ?hy229 ?rest229
      case hy229 => intro w; go_simp; (try with_reducible rfl)
      try simp only [Act.put, zp]
      refine zC 18 #[zT,zT,zT,zT,zT,zT,zT,zT,zT,zT,zT,zT,zT,zT,zT,zT,zT,zT,zT,zF,zT,zT,zF,zF,zF] ?_ rfl ?hy230 ?rest230
      case hy230 => intro w; go_simp; (try with_reducible rfl)
      try simp only [Act.put, zp]
      refine zC 19 #[zT,zT,zT,zT,zT,zT,zT,zT,zT,zT,zT,zT,zT,zT,zT,zT,zT,zT,zT,zT,zT,zT,zF,zF,zF] ?_ rfl ?hy231 ?rest231
      case hy231 => intro w; go_simp; (try with_reducible rfl)
      try simp only [Act.put, zp]
      have O1 : OffD v261 v1.heap.size (v217.heap.size) (v4.heap.size) ⟨r1.neg, G1, m1, o1, r1.e, canon 4294967296 r1.m⟩ := OffD.of (d := ⟨r1.neg, G1, m1, o1, r1.e, canon 4294967296 r1.m⟩) (Ints.below I1 (lz j258 (lz j260 j262)) (Nat.le_refl _)) (by omega) (by omega) (by omega) (by omega)
      have O2 : OffD v261 v1.heap.size (v217.heap.size) (v4.heap.size) ⟨r2.neg, G2, m2, o2, r2.e, canon 4294967296 r2.m⟩ := OffD.of (d := ⟨r2.neg, G2, m2, o2, r2.e, canon 4294967296 r2.m⟩) (Ints.below I2 j262 (Nat.le_refl _)) (by omega) (by omega) (by omega) (by omega)
      obtain ⟨OX, OY⟩ := HX.out.all (P := OffD v261 v1.heap.size (v217.heap.size) (v4.heap.size)) O1 O2 (OffD.zero ..)
      exact leafC ⟨.tuple #[.agg #[.bool r1.neg, .slice G1 m1 o1, .int .i64 r1.e], .int .i64 q1], .agg #[.bool r1.neg, .slice G1 m1 o1, .int .i64 r1.e], .int .i64 q1, .func (.func 63) #[] #[.pointer (some ⟨v255.heap.size + 1, 0, none⟩), .pointer (some ⟨v255.heap.size, 0, none⟩)], .tuple #[.agg #[.bool r2.neg, .slice G2 m2 o2, .int .i64 r2.e], .int .i64 q2], .agg #[.bool r2.neg, .slice G2 m2 o2, .int .i64 r2.e], .int .i64 q2, .tuple #[.agg #[.bool X.s, .slice X.A X.n X.c, .int .i64 X.e], .agg #[.bool Y.s, .slice Y.A Y.n Y.c, .int .i64 Y.e], .int .i64 c], .tuple #[.agg #[.bool X.s, .slice X.A X.n X.c, .int .i64 X.e], .agg #[.bool Y.s, .slice Y.A Y.n Y.c, .int .i64 Y.e], .int .i64 c], v217.heap.size, v4.heap.size, X, Y, c, rfl, by omega, by omega, by omega, (box_later B6 (lz j256 (lz j258 (lz j260 j262))) s254), (box_later B7 (lz j253 (lz j256 (lz j258 (lz j260 j262)))) s219), (lz j5 (lz j218 (lz j253 (lz j256 (lz j258 (lz j260 j262)))))), Lib.hid (takeD HX.out Q1.out Q2.out ⟨rfl, rfl, rfl⟩ ⟨rfl, rfl, rfl⟩), OX, OY⟩
end Ma
end Go.Proofs.YtbbnbgllgomolaaDoor