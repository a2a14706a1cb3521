/- headcountlaw25.QueryNames: the law's walk (printed by a program of mine). -/
import Derived.Test.YtmbppgjhdcmckaaGreatDoorBi22
namespace Go.Proofs.YtmbppgjhdcmckaaGreatDoor
open Go.RowKit
namespace No
open Ma
open Dp Dy
theorem a_into {w : World} {g : Nat} {p : Pv} (h : PBox w g p) (x : Dv) : ∃ U, w.setCells g 9 (cells3D x) = U ∧ PBox U g { p with M := { p.M with A := x } } ∧ (∀ w0 B, Below B w0 w → B ≤ g → Below B w0 U) ∧ (∀ j, j ≠ g → U.heap[j]? = w.heap[j]?) ∧ U.heap.size ≤ w.heap.size ∧ w.heap.size ≤ U.heap.size := by
 refine ⟨_, rfl, ?_, fun w0 B hb hg => ?_, fun j hj => ?_, ?_, ?_⟩
 · unfold PBox at h ⊢
   simp [cells3D, World.setCells, World.setCell, Array.getElem?_modify, h]
 · simp only [cells3D, World.setCells]
   repeat (refine Below.setCell ?_ hg _)
   exact hb
 · have hj' : ¬ g = j := fun e => hj e.symm
   simp [cells3D, World.setCells, World.setCell, Array.getElem?_modify, hj']
 · simp [cells3D, World.setCells, World.setCell]
 · simp [cells3D, World.setCells, World.setCell]
theorem e_into {w : World} {g : Nat} {p : Pv} (h : PBox w g p) (b : Bool) (mn mx : Int) : ∃ U, w.setCells g 12 [.bool b, .int .i64 mn, .int .i64 mx] = U ∧ PBox U g { p with h := b, mn := mn, mx := mx } ∧ (∀ w0 B, Below B w0 w → B ≤ g → Below B w0 U) ∧ (∀ j, j ≠ g → U.heap[j]? = w.heap[j]?) ∧ U.heap.size ≤ w.heap.size ∧ w.heap.size ≤ U.heap.size := by
 refine ⟨_, rfl, ?_, fun w0 B hb hg => ?_, fun j hj => ?_, ?_, ?_⟩
 · unfold PBox at h ⊢
   simp [World.setCells, World.setCell, Array.getElem?_modify, h]
 · simp only [World.setCells]
   repeat (refine Below.setCell ?_ hg _)
   exact hb
 · have hj' : ¬ g = j := fun e => hj e.symm
   simp [World.setCells, World.setCell, Array.getElem?_modify, hj']
 · simp [World.setCells, World.setCell]
 · simp [World.setCells, World.setCell]
theorem l_into {w : World} {g : Nat} {p : Pv} (h : PBox w g p) (A : Option Addr) (n c : Nat) (xs : List Int) : ∃ U, w.setCell ⟨g, 15, none⟩ (.slice A n c) = U ∧ PBox U g { p with A := A, n := n, c := c, xs := xs } ∧ (∀ w0 B, Below B w0 w → B ≤ g → Below B w0 U) ∧ (∀ j, j ≠ g → U.heap[j]? = w.heap[j]?) ∧ U.heap.size ≤ w.heap.size ∧ w.heap.size ≤ U.heap.size := by
 refine ⟨_, rfl, ?_, fun w0 B hb hg => ?_, fun j hj => ?_, ?_, ?_⟩
 · unfold PBox at h ⊢
   simp [World.setCell, Array.getElem?_modify, h]
 · exact Below.setCell hb hg _
 · have hj' : ¬ g = j := fun e => hj e.symm
   simp [World.setCell, Array.getElem?_modify, hj']
 · simp [World.setCell]
 · simp [World.setCell]
theorem edge_one (b : Bool) (mn mx : Int) : ∀ u ∈ ([.bool b, .int .i64 mn, .int .i64 mx] : List Value), u.oneCell' = true := by
 intro u hu
 simp only [List.mem_cons, List.not_mem_nil, or_false] at hu
 rcases hu with rfl | rfl | rfl <;> rfl
theorem there_sub {w : World} {g n : Nat} (h : w.there g 0 n) (o k : Nat) (hk : o + k ≤ n) : w.there g o k := fun j hj => by
 have := h (o + j) (by omega)
 simpa using this
theorem three_row {w : World} {g : Nat} (h : w.heap[g]? = some (.cells #[.int .u32 2, .int .u32 4, .int .u32 9] 48 (0, 0))) : Ints w g (g + 1) .u32 (some ⟨g, 0, none⟩) 3 [2, 4, 9] := by
 refine ⟨rfl, fun x hx => ?_, by decide, fun _ => ⟨g, 0, rfl, Nat.le_refl _, by omega, fun j hj => ?_⟩⟩
 · simp only [List.mem_cons, List.not_mem_nil, or_false] at hx
   rcases hx with rfl | rfl | rfl <;> decide
 · have hj' : j < 3 := hj
   rcases j with _ | _ | _ | j
   · exact ⟨cell_of_row w g 0 _ _ _ h, frozen_of_row w g _ _ _ h⟩
   · exact ⟨cell_of_row w g 1 _ _ _ h, frozen_of_row w g _ _ _ h⟩
   · exact ⟨cell_of_row w g 2 _ _ _ h, frozen_of_row w g _ _ _ h⟩
   · omega
theorem alloc_l3 (w : World) : ∃ U, w.alloc (.cells #[.int .u32 2, .int .u32 4, .int .u32 9] 48) = U ∧ U.heap[w.heap.size]? = some (.cells #[.int .u32 2, .int .u32 4, .int .u32 9] 48 (0, 0)) ∧ Below w.heap.size w U ∧ U.heap.size = w.heap.size + 1 :=
 ⟨_, rfl, heap_alloc_last _ _, (Below.refl _ w).alloc (Nat.le_refl _) _, by simp⟩
set_option maxHeartbeats 102400000 in
set_option maxRecDepth 100000 in
/-- headcountlaw25.QueryNames. -/
theorem names25_walk (w : World) (hT : Tab w) : Calls Tryz.prog 4 #[] w fun e w' => e = .returned (.bool true) ∧ Below w.heap.size w w' := by
 go_enter Tryz.func4, Tryz.ntmps4
 go_wp2_with fail
 refine (held_any w).mono ?_
 rintro e' v1 ⟨p, rfl, P, j2, Rp⟩
 try clear hw
 replace P := Lib.hid P
 have hRp := Rp.more (Nat.zero_le _) (Nat.le_refl _)
 clear Rp
 obtain ⟨u3, h6, bp, j4, s5⟩ := alloc_p v1 p
 replace h6 : v1.alloc (.cells #[.bool p.M.S.s, .slice p.M.S.A p.M.S.n p.M.S.c, .int .i64 p.M.S.e, .bool p.M.W.s, .slice p.M.W.A p.M.W.n p.M.W.c, .int .i64 p.M.W.e, .bool p.M.C.s, .slice p.M.C.A p.M.C.n p.M.C.c, .int .i64 p.M.C.e, .bool p.M.A.s, .slice p.M.A.A p.M.A.n p.M.A.c, .int .i64 p.M.A.e, .bool p.h, .int .i64 p.mn, .int .i64 p.mx, .slice p.A p.n p.c] 30) = u3 := h6
 go_upto_region 2 with (first | (refine wpList_store_nw rfl 30 (.tmp 1) (.tmp 24) rfl _ #[.bool p.M.S.s, .slice p.M.S.A p.M.S.n p.M.S.c, .int .i64 p.M.S.e, .bool p.M.W.s, .slice p.M.W.A p.M.W.n p.M.W.c, .int .i64 p.M.W.e, .bool p.M.C.s, .slice p.M.C.A p.M.C.n p.M.C.c, .int .i64 p.M.C.e, .bool p.M.A.s, .slice p.M.A.A p.M.A.n p.M.A.c, .int .i64 p.M.A.e, .bool p.h, .int .i64 p.mn, .int .i64 p.mx, .slice p.A p.n p.c] rfl rfl (by kernel_rfl) rfl (all_oneCell_toArray (cells16_one p)) ?_; rw [h6]))
 try clear h6
 go_wp2_with fail
 refine (over_any u3 7 2 (by decide) (by decide)).mono ?_
 rintro e' v7 ⟨x7, rfl, h1, h2, h3, h4, j8, I7⟩
 try clear hw
 have H7 := Lib.hid (is_over (m := 7) (e := 2) h1 h2 h3 (by decide) (by decide))
 clear h1 h2 h3 h4
 have jW : Below w.heap.size w v7 := (later j2 (later j4 j8))
 have jP : Below v1.heap.size v1 v7 := (later j4 j8)
 have z1 := Below.size j2
 have z3 := Below.size j4
 have z4 := Below.size j8
 have bz : PBox v7 (v1.heap.size) p := (box_later bp j8 s5)
 obtain ⟨U1, hU1, b1, hb1, hf1, l1, l1'⟩ := a_into bz x7
 have th1 := there_sub (PBox.there bz) 9 3 (by decide)
 replace hU1 : v7.setCells (v1.heap.size) 9 (#[.bool x7.s, .slice x7.A x7.n x7.c, .int .i64 x7.e] : Array Value).toList = U1 := hU1
 have HU1 := Lib.hid hU1
 clear hU1
 go_upto_region 3 with (first | (refine wpList_store_mid rfl 24 (.tmp 27) (.tmp 25) rfl (v1.heap.size) 9 #[.bool x7.s, .slice x7.A x7.n x7.c, .int .i64 x7.e] rfl rfl th1 (by kernel_rfl) (all_oneCell_toArray (cells3D_one x7)) ?_; rw [HU1.out]))
 obtain ⟨U2, hU2, b2, hb2, hf2, l2, l2'⟩ := e_into b1 true (-3) 8
 have th2 := there_sub (PBox.there b1) 12 3 (by decide)
 replace hU2 : U1.setCells (v1.heap.size) 12 (#[.bool true, .int .i64 (-3), .int .i64 8] : Array Value).toList = U2 := hU2
 have HU2 := Lib.hid hU2
 clear hU2
 go_upto_region 4 with (first | (refine wpList_store_mid rfl 28 (.tmp 29) (.tmp 28) rfl (v1.heap.size) 12 #[.bool true, .int .i64 (-3), .int .i64 8] rfl rfl th2 (by kernel_rfl) (all_oneCell_toArray (edge_one _ _ _)) ?_; rw [HU2.out]))
 obtain ⟨U3, hU3, r3, j3, l3⟩ := alloc_l3 U2
 have b3 : PBox U3 (v1.heap.size) _ := (j3.block _ (by omega)).trans b2
 obtain ⟨U4, hU4, b4, hb4, hf4, l4, l4'⟩ := l_into b3 (some ⟨U2.heap.size, 0, none⟩) 3 3 [2, 4, 9]
 have k15 : U3.cell? ⟨v1.heap.size, 15, none⟩ = some (.slice p.A p.n p.c) := cell_of_row U3 (v1.heap.size) 15 _ _ _ b3
 have f15 : U3.frozen? ⟨v1.heap.size, 15, none⟩ = false := (PBox.cell b3).2 _
 go_upto_region 5 with fail
 try rw [hU3]
 try rw [hU4]
 clear hU3 hU4 k15 f15
 have hfU : ∀ b, b ≠ v1.heap.size → b < v7.heap.size → U4.heap[b]? = v7.heap[b]? := fun b h1 h2 => (hf4 b h1).trans ((j3.block b (by omega)).trans ((hf2 b h1).trans (hf1 b h1)))
 have jU : Below w.heap.size w U4 := hb4 _ _ ((hb2 _ _ (hb1 _ _ jW (by omega)) (by omega)).trans (j3.mono (by omega))) (by omega)
 have jPU : Below v1.heap.size v1 U4 := hb4 _ _ ((hb2 _ _ (hb1 _ _ jP (by omega)) (by omega)).trans (j3.mono (by omega))) (by omega)
 obtain ⟨Q, hQ⟩ : ∃ q : Pv, q = { { { p with M := { p.M with A := x7 } } with h := true, mn := -3, mx := 8 } with A := some ⟨U2.heap.size, 0, none⟩, n := 3, c := 3, xs := [2, 4, 9] } := ⟨_, rfl⟩
 rw [← hQ] at b4
 have bQ := b4
 have RQ : PRows U4 0 U4.heap.size Q := by
  have h0 := hRp.below jPU (Nat.le_refl _)
  rw [hQ]
  exact ⟨⟨h0.M.S.more (Nat.zero_le _) (by omega), h0.M.W.more (Nat.zero_le _) (by omega), h0.M.C.more (Nat.zero_le _) (by omega), (intsR I7 (w' := U4) (fun b h1 h2 => hfU b (by omega) h2)).more (Nat.zero_le _) (by omega)⟩, (intsR (three_row r3) (w' := U4) (fun b h1 h2 => hf4 b (by omega))).more (Nat.zero_le _) (by omega)⟩
 have PS : Hid (SevenP Q) := Lib.hid (by
  rw [hQ]
  exact ⟨fourR_is (P.out.1 0 (by decide)) (P.out.1 1 (by decide)) (P.out.1 2 (by decide)) H7.out, rfl, rfl, rfl, rfl⟩)
 have sQ : v1.heap.size < U4.heap.size := by omega
 clear b4 hQ hfU jPU hb1 hb2 hb4 hf1 hf2 hf4 th1 th2 HU1 HU2 b1 b2 b3 bz r3 j3 jP jW I7 hRp P H7
 have rP := PBox.range bQ
 go_wp2_with (first
  | (refine wpList_load_mid rfl 30 (.tmp 1) rfl (v1.heap.size) 0 rfl [.bool Q.M.S.s, .slice Q.M.S.A Q.M.S.n Q.M.S.c, .int .i64 Q.M.S.e, .bool Q.M.W.s, .slice Q.M.W.A Q.M.W.n Q.M.W.c, .int .i64 Q.M.W.e, .bool Q.M.C.s, .slice Q.M.C.A Q.M.C.n Q.M.C.c, .int .i64 Q.M.C.e, .bool Q.M.A.s, .slice Q.M.A.A Q.M.A.n Q.M.A.c, .int .i64 Q.M.A.e, .bool Q.h, .int .i64 Q.mn, .int .i64 Q.mx, .slice Q.A Q.n Q.c] _ rP Tryz.underlying30 rfl (by kernel_rfl) ?_))
 refine (Ask_any U4 Q RQ (tab_later hT jU) 0 0 Dn.zero Dn.zero 2 (s0 RQ PS.out)).mono ?_
 rintro e' v9 ⟨xt1, yt1, B1, rfl, ix, iy, j10, m1, m2, rx, ry⟩
 try clear hw
 clear ix iy rx ry m1 m2
 obtain ⟨u11, h14, bT1, j12, s13⟩ := alloc_t v9 xt1 yt1
 go_upto_region 6 with (first | (refine wpList_store_nw rfl 32 (.tmp 2) (.tmp 35) rfl _ #[.bool xt1.s, .slice xt1.A xt1.n xt1.c, .int .i64 xt1.e, .bool yt1.s, .slice yt1.A yt1.n yt1.c, .int .i64 yt1.e] rfl rfl (by kernel_rfl) rfl (all_oneCell_toArray (cells6D_one xt1 yt1)) ?_; rw [h14]))
 try clear h14
 clear rP
 have rP := PBox.range (box_later bQ (later j10 j12) sQ)
 go_wp2_with (first
  | (refine wpList_load_mid rfl 30 (.tmp 1) rfl (v1.heap.size) 0 rfl [.bool Q.M.S.s, .slice Q.M.S.A Q.M.S.n Q.M.S.c, .int .i64 Q.M.S.e, .bool Q.M.W.s, .slice Q.M.W.A Q.M.W.n Q.M.W.c, .int .i64 Q.M.W.e, .bool Q.M.C.s, .slice Q.M.C.A Q.M.C.n Q.M.C.c, .int .i64 Q.M.C.e, .bool Q.M.A.s, .slice Q.M.A.A Q.M.A.n Q.M.A.c, .int .i64 Q.M.A.e, .bool Q.h, .int .i64 Q.mn, .int .i64 Q.mx, .slice Q.A Q.n Q.c] _ rP Tryz.underlying30 rfl (by kernel_rfl) ?_))
 refine (Ask_any u11 Q (PRows.on RQ (later j10 j12)) (tab_later hT (later jU (later j10 j12))) 7 0 Dn.zero Dn.zero 2 (s7 RQ PS.out)).mono ?_
 rintro e' v15 ⟨xt2, yt2, B2, rfl, ix, iy, j16, m1, m2, rx, ry⟩
 try clear hw
 clear ix iy rx ry m1 m2
 obtain ⟨u17, h20, bT2, j18, s19⟩ := alloc_t v15 xt2 yt2
 go_upto_region 7 with (first | (refine wpList_store_nw rfl 32 (.tmp 4) (.tmp 40) rfl _ #[.bool xt2.s, .slice xt2.A xt2.n xt2.c, .int .i64 xt2.e, .bool yt2.s, .slice yt2.A yt2.n yt2.c, .int .i64 yt2.e] rfl rfl (by kernel_rfl) rfl (all_oneCell_toArray (cells6D_one xt2 yt2)) ?_; rw [h20]))
 try clear h20
 clear rP
 have rP := PBox.range (box_later bQ (later j10 (later j12 (later j16 j18))) sQ)
 go_wp2_with (first
  | (refine wpList_load_mid rfl 30 (.tmp 1) rfl (v1.heap.size) 0 rfl [.bool Q.M.S.s, .slice Q.M.S.A Q.M.S.n Q.M.S.c, .int .i64 Q.M.S.e, .bool Q.M.W.s, .slice Q.M.W.A Q.M.W.n Q.M.W.c, .int .i64 Q.M.W.e, .bool Q.M.C.s, .slice Q.M.C.A Q.M.C.n Q.M.C.c, .int .i64 Q.M.C.e, .bool Q.M.A.s, .slice Q.M.A.A Q.M.A.n Q.M.A.c, .int .i64 Q.M.A.e, .bool Q.h, .int .i64 Q.mn, .int .i64 Q.mx, .slice Q.A Q.n Q.c] _ rP Tryz.underlying30 rfl (by kernel_rfl) ?_))
 refine (Ask_any u17 Q (PRows.on RQ (later j10 (later j12 (later j16 j18)))) (tab_later hT (later jU (later j10 (later j12 (later j16 j18))))) 1 65 Dn.zero Dn.zero 2 (s65 RQ PS.out)).mono ?_
 rintro e' v21 ⟨xt3, yt3, B3, rfl, ix, iy, j22, m1, m2, rx, ry⟩
 try clear hw
 clear ix iy rx ry m1 m2
 obtain ⟨u23, h26, bT3, j24, s25⟩ := alloc_t v21 xt3 yt3
 go_upto_region 8 with (first | (refine wpList_store_nw rfl 32 (.tmp 6) (.tmp 45) rfl _ #[.bool xt3.s, .slice xt3.A xt3.n xt3.c, .int .i64 xt3.e, .bool yt3.s, .slice yt3.A yt3.n yt3.c, .int .i64 yt3.e] rfl rfl (by kernel_rfl) rfl (all_oneCell_toArray (cells6D_one xt3 yt3)) ?_; rw [h26]))
 try clear h26
 clear rP
 go_wp2_with fail
 refine (Ask_any u23 P8 ⟨⟨rowZ _ _ _, rowZ _ _ _, rowZ _ _ _, rowZ _ _ _⟩, Ints.nil_ ..⟩ (tab_later hT (later jU (later j10 (later j12 (later j16 (later j18 (later j22 j24))))))) 9 65 Dn.zero Dn.zero 8 p8).mono ?_
 rintro e' v27 ⟨xt4, yt4, B4, rfl, ix, iy, j28, m1, m2, rx, ry⟩
 try clear hw
 clear ix iy rx ry m1 m2
 obtain ⟨u29, h32, bT4, j30, s31⟩ := alloc_t v27 xt4 yt4
 go_upto_region 9 with (first | (refine wpList_store_nw rfl 32 (.tmp 8) (.tmp 51) rfl _ #[.bool xt4.s, .slice xt4.A xt4.n xt4.c, .int .i64 xt4.e, .bool yt4.s, .slice yt4.A yt4.n yt4.c, .int .i64 yt4.e] rfl rfl (by kernel_rfl) rfl (all_oneCell_toArray (cells6D_one xt4 yt4)) ?_; rw [h32]))
 try clear h32
 go_wp2_with fail
 refine (held_any u29).mono ?_
 rintro e' v33 ⟨q5, rfl, Pq, j34, Rq⟩
 try clear hw
 replace Pq := Lib.hid Pq
 replace Rq := Rq.more (Nat.zero_le _) (Nat.le_refl _)
 go_wp2_with fail
 refine (Ask_any v33 q5 Rq (tab_later hT (later jU (later j10 (later j12 (later j16 (later j18 (later j22 (later j24 (later j28 (later j30 j34)))))))))) 5 0 Dn.zero Dn.zero 6 (h5 Rq Pq.out)).mono ?_
 rintro e' v35 ⟨xt5, yt5, B5, rfl, ix, iy, j36, m1, m2, rx, ry⟩
 try clear hw
 clear ix iy rx ry m1 m2
 obtain ⟨u37, h40, bT5, j38, s39⟩ := alloc_t v35 xt5 yt5
 go_upto_region 10 with (first | (refine wpList_store_nw rfl 32 (.tmp 10) (.tmp 56) rfl _ #[.bool xt5.s, .slice xt5.A xt5.n xt5.c, .int .i64 xt5.e, .bool yt5.s, .slice yt5.A yt5.n yt5.c, .int .i64 yt5.e] rfl rfl (by kernel_rfl) rfl (all_oneCell_toArray (cells6D_one xt5 yt5)) ?_; rw [h40]))
 try clear h40
 clear Rq Pq
 go_wp2_with fail
 refine (held_any u37).mono ?_
 rintro e' v41 ⟨q6, rfl, Pq, j42, Rq⟩
 try clear hw
 replace Pq := Lib.hid Pq
 replace Rq := Rq.more (Nat.zero_le _) (Nat.le_refl _)
 go_wp2_with fail
 refine (Ask_any v41 q6 Rq (tab_later hT (later jU (later j10 (later j12 (later j16 (later j18 (later j22 (later j24 (later j28 (later j30 (later j34 (later j36 (later j38 j42))))))))))))) 6 0 Dn.zero Dn.zero 6 (h6 Rq Pq.out)).mono ?_
 rintro e' v43 ⟨xt6, yt6, B6, rfl, ix, iy, j44, m1, m2, rx, ry⟩
 try clear hw
 clear ix iy rx ry m1 m2
 obtain ⟨u45, h48, bT6, j46, s47⟩ := alloc_t v43 xt6 yt6
 go_upto_region 11 with (first | (refine wpList_store_nw rfl 32 (.tmp 12) (.tmp 61) rfl _ #[.bool xt6.s, .slice xt6.A xt6.n xt6.c, .int .i64 xt6.e, .bool yt6.s, .slice yt6.A yt6.n yt6.c, .int .i64 yt6.e] rfl rfl (by kernel_rfl) rfl (all_oneCell_toArray (cells6D_one xt6 yt6)) ?_; rw [h48]))
 try clear h48
 clear Rq Pq
 go_wp2_with fail
 refine (Of_any u45 (-1) (by decide) (by decide) true 1 rfl rfl).mono ?_
 rintro e' v49 ⟨O1, m1, rfl, j50, J1⟩
 try clear hw
 have D1 : DRow v49 0 v49.heap.size ⟨true, O1, m1, m1, 0, canon 4294967296 1⟩ := ints_all J1
 clear J1
 go_wp2_with fail
 refine (Ask_any v49 ⟨⟨ZDv, ZDv, ⟨true, O1, m1, m1, 0, canon 4294967296 1⟩, ZDv⟩, false, 0, 0, none, 0, 0, []⟩ ⟨⟨rowZ _ _ _, rowZ _ _ _, D1, rowZ _ _ _⟩, Ints.nil_ ..⟩ (tab_later hT (later jU (later j10 (later j12 (later j16 (later j18 (later j22 (later j24 (later j28 (later j30 (later j34 (later j36 (later j38 (later j42 (later j44 (later j46 j50)))))))))))))))) 2 0 Dn.zero Dn.zero 6 (neg1 D1 ⟨rfl, rfl, rfl⟩)).mono ?_
 rintro e' v51 ⟨xt7, yt7, B7, rfl, ix, iy, j52, m1, m2, rx, ry⟩
 try clear hw
 clear ix iy rx ry m1 m2
 obtain ⟨u53, h56, bT7, j54, s55⟩ := alloc_t v51 xt7 yt7
 go_upto_region 12 with (first | (refine wpList_store_nw rfl 32 (.tmp 14) (.tmp 68) rfl _ #[.bool xt7.s, .slice xt7.A xt7.n xt7.c, .int .i64 xt7.e, .bool yt7.s, .slice yt7.A yt7.n yt7.c, .int .i64 yt7.e] rfl rfl (by kernel_rfl) rfl (all_oneCell_toArray (cells6D_one xt7 yt7)) ?_; rw [h56]))
 try clear h56
 clear D1
 go_wp2_with fail
 refine (qPart_any u53 (ZNv 0) (rowsZN _ _ _ _) greatZ greatF0 0 14 partZ0).mono ?_
 rintro e' v57 ⟨qp8, rfl, tq, j58, Rq⟩
 try clear hw
 clear tq Rq
 obtain ⟨u59, h62, bp8, j60, s61⟩ := alloc_p v57 qp8
 replace h62 : v57.alloc (.cells #[.bool qp8.M.S.s, .slice qp8.M.S.A qp8.M.S.n qp8.M.S.c, .int .i64 qp8.M.S.e, .bool qp8.M.W.s, .slice qp8.M.W.A qp8.M.W.n qp8.M.W.c, .int .i64 qp8.M.W.e, .bool qp8.M.C.s, .slice qp8.M.C.A qp8.M.C.n qp8.M.C.c, .int .i64 qp8.M.C.e, .bool qp8.M.A.s, .slice qp8.M.A.A qp8.M.A.n qp8.M.A.c, .int .i64 qp8.M.A.e, .bool qp8.h, .int .i64 qp8.mn, .int .i64 qp8.mx, .slice qp8.A qp8.n qp8.c] 30) = u59 := h62
 go_upto_region 13 with (first | (refine wpList_store_nw rfl 30 (.tmp 16) (.tmp 73) rfl _ #[.bool qp8.M.S.s, .slice qp8.M.S.A qp8.M.S.n qp8.M.S.c, .int .i64 qp8.M.S.e, .bool qp8.M.W.s, .slice qp8.M.W.A qp8.M.W.n qp8.M.W.c, .int .i64 qp8.M.W.e, .bool qp8.M.C.s, .slice qp8.M.C.A qp8.M.C.n qp8.M.C.c, .int .i64 qp8.M.C.e, .bool qp8.M.A.s, .slice qp8.M.A.A qp8.M.A.n qp8.M.A.c, .int .i64 qp8.M.A.e, .bool qp8.h, .int .i64 qp8.mn, .int .i64 qp8.mx, .slice qp8.A qp8.n qp8.c] rfl rfl (by kernel_rfl) rfl (all_oneCell_toArray (cells16_one qp8)) ?_; rw [h62]))
 try clear h62
 go_wp2_with fail
 refine (new18_any u59).mono ?_
 rintro e' v63 ⟨rfl, j64⟩
 try clear hw
 obtain ⟨un, hun, bN, jn, sn⟩ := alloc_n 63 v63 N18
 replace hun : v63.alloc (.cells (cells33 N18).toArray 63) = un := hun
 have rN := NBox.range bN
 go_upto_region 14 with (first | (refine wpList_store_nw rfl 63 (.tmp 18) (.tmp 78) rfl _ (cells33 N18).toArray rfl rfl (by kernel_rfl) rfl (all_oneCell_toArray (cells33_one N18)) ?_; rw [hun]))
 try clear hun
 go_wp2_with (first | (refine wpList_load_mid rfl 63 (.tmp 18) rfl (v63.heap.size) 0 rfl (cells33 N18) _ rN Tryz.underlying63 rfl (by kernel_rfl) ?_; simp only [cells33]))
 refine (qPart_any un N18 (rows18 _ _ _) greatZ greatF0 0 6 part18a).mono ?_
 rintro e' v65 ⟨qp9, rfl, tq, j66, Rq⟩
 try clear hw
 clear tq Rq
 obtain ⟨u67, h70, bp9, j68, s69⟩ := alloc_p v65 qp9
 replace h70 : v65.alloc (.cells #[.bool qp9.M.S.s, .slice qp9.M.S.A qp9.M.S.n qp9.M.S.c, .int .i64 qp9.M.S.e, .bool qp9.M.W.s, .slice qp9.M.W.A qp9.M.W.n qp9.M.W.c, .int .i64 qp9.M.W.e, .bool qp9.M.C.s, .slice qp9.M.C.A qp9.M.C.n qp9.M.C.c, .int .i64 qp9.M.C.e, .bool qp9.M.A.s, .slice qp9.M.A.A qp9.M.A.n qp9.M.A.c, .int .i64 qp9.M.A.e, .bool qp9.h, .int .i64 qp9.mn, .int .i64 qp9.mx, .slice qp9.A qp9.n qp9.c] 30) = u67 := h70
 go_upto_region 15 with (first | (refine wpList_store_nw rfl 30 (.tmp 20) (.tmp 83) rfl _ #[.bool qp9.M.S.s, .slice qp9.M.S.A qp9.M.S.n qp9.M.S.c, .int .i64 qp9.M.S.e, .bool qp9.M.W.s, .slice qp9.M.W.A qp9.M.W.n qp9.M.W.c, .int .i64 qp9.M.W.e, .bool qp9.M.C.s, .slice qp9.M.C.A qp9.M.C.n qp9.M.C.c, .int .i64 qp9.M.C.e, .bool qp9.M.A.s, .slice qp9.M.A.A qp9.M.A.n qp9.M.A.c, .int .i64 qp9.M.A.e, .bool qp9.h, .int .i64 qp9.mn, .int .i64 qp9.mx, .slice qp9.A qp9.n qp9.c] rfl rfl (by kernel_rfl) rfl (all_oneCell_toArray (cells16_one qp9)) ?_; rw [h70]))
 try clear h70
 clear rN
 have rN := NBox.range (box_later bN (later j66 j68) sn)
 go_wp2_with (first | (refine wpList_load_mid rfl 63 (.tmp 18) rfl (v63.heap.size) 0 rfl (cells33 N18) _ rN Tryz.underlying63 rfl (by kernel_rfl) ?_; simp only [cells33]))
 refine (qPart_any u67 N18 (rows18 _ _ _) greatZ greatF0 65536 2 part18b).mono ?_
 rintro e' v71 ⟨qp10, rfl, tq, j72, Rq⟩
 try clear hw
 clear tq Rq
 obtain ⟨u73, h76, bp10, j74, s75⟩ := alloc_p v71 qp10
 replace h76 : v71.alloc (.cells #[.bool qp10.M.S.s, .slice qp10.M.S.A qp10.M.S.n qp10.M.S.c, .int .i64 qp10.M.S.e, .bool qp10.M.W.s, .slice qp10.M.W.A qp10.M.W.n qp10.M.W.c, .int .i64 qp10.M.W.e, .bool qp10.M.C.s, .slice qp10.M.C.A qp10.M.C.n qp10.M.C.c, .int .i64 qp10.M.C.e, .bool qp10.M.A.s, .slice qp10.M.A.A qp10.M.A.n qp10.M.A.c, .int .i64 qp10.M.A.e, .bool qp10.h, .int .i64 qp10.mn, .int .i64 qp10.mx, .slice qp10.A qp10.n qp10.c] 30) = u73 := h76
 go_upto_region 16 with (first | (refine wpList_store_nw rfl 30 (.tmp 22) (.tmp 88) rfl _ #[.bool qp10.M.S.s, .slice qp10.M.S.A qp10.M.S.n qp10.M.S.c, .int .i64 qp10.M.S.e, .bool qp10.M.W.s, .slice qp10.M.W.A qp10.M.W.n qp10.M.W.c, .int .i64 qp10.M.W.e, .bool qp10.M.C.s, .slice qp10.M.C.A qp10.M.C.n qp10.M.C.c, .int .i64 qp10.M.C.e, .bool qp10.M.A.s, .slice qp10.M.A.A qp10.M.A.n qp10.M.A.c, .int .i64 qp10.M.A.e, .bool qp10.h, .int .i64 qp10.mn, .int .i64 qp10.mx, .slice qp10.A qp10.n qp10.c] rfl rfl (by kernel_rfl) rfl (all_oneCell_toArray (cells16_one qp10)) ?_; rw [h76]))
 try clear h76
 clear rN bN
 try clear hw
 refine region_E (Keeps u73) [] (m := 72) (L := #[zF,zF,zF,zF,zF,zF,zF,zF,zF,zF,zF,zF,zF,zF,zF,zF,zF,zF,zF,zF,zF,zF,zF,zF,zF,zF,zF,zF,zF,zF,zF,zF,zF,zF,zF,zF,zF,zF,zF,zF,zF,zF,zF,zF,zF,zF,zF,zF,zF,zF,zF,zF,zF,zF,zF,zF,zF,zF,zF,zF,zF,zF,zF,zF,zF,zF,zF,zF,zF,zF,zF,zF]) (by kernel_rfl) (by rfl) (by rfl) ?_
 have j78 : Below u73.heap.size u73 u73.drew := (Below.refl _ _).drew
 generalize u73.drew = v77 at *
 refine zE 0 #[zT,zF,zF,zF,zF,zF,zF,zF,zF,zF,zF,zF,zF,zF,zF,zF,zF,zF,zF,zF,zF,zF,zF,zF,zF,zF,zF,zF,zF,zF,zF,zF,zF,zF,zF,zF,zF,zF,zF,zF,zF,zF,zF,zF,zF,zF,zF,zF,zF,zF,zF,zF,zF,zF,zF,zF,zF,zF,zF,zF,zF,zF,zF,zF,zF,zF,zF,zF,zF,zF,zF,zF] ?_ rfl ?hy1 ?rest1
 case hy1 => intro w; go_simp; (try with_reducible rfl)
 try simp only [Act.put, zp]
 refine stepK (i := 1) (L := #[zT,zT,zF,zF,zF,zF,zF,zF,zF,zF,zF,zF,zF,zF,zF,zF,zF,zF,zF,zF,zF,zF,zF,zF,zF,zF,zF,zF,zF,zF,zF,zF,zF,zF,zF,zF,zF,zF,zF,zF,zF,zF,zF,zF,zF,zF,zF,zF,zF,zF,zF,zF,zF,zF,zF,zF,zF,zF,zF,zF,zF,zF,zF,zF,zF,zF,zF,zF,zF,zF,zF,zF]) rfl (by rfl) (by kernel_rfl) (by rfl) (fun K hK => ?_)
 go_simp
 go_at_call 22
 refine (alive25_any v77 (tab_later hT (later jU (later j10 (later j12 (later j16 (later j18 (later j22 (later j24 (later j28 (later j30 (later j34 (later j36 (later j38 (later j42 (later j44 (later j46 (later j50 (later j52 (later j54 (later j58 (later j60 (later j64 (later jn (later j66 (later j68 (later j72 (later j74 j78)))))))))))))))))))))))))))).mono ?_
 rintro e' v79 ⟨rfl, j80⟩
 refine hK _ _ ⟨fun _ _ => fun p hp => Below.block (later j78 j80) p hp, ?_⟩
 clear hK K
 try simp only []
 refine zE 2 #[zT,zT,zT,zF,zF,zF,zF,zF,zF,zF,zF,zF,zF,zF,zF,zF,zF,zF,zF,zF,zF,zF,zF,zF,zF,zF,zF,zF,zF,zF,zF,zF,zF,zF,zF,zF,zF,zF,zF,zF,zF,zF,zF,zF,zF,zF,zF,zF,zF,zF,zF,zF,zF,zF,zF,zF,zF,zF,zF,zF,zF,zF,zF,zF,zF,zF,zF,zF,zF,zF,zF,zF] ?_ rfl ?hy3 ?rest3
 case hy3 => intro w; go_simp; (try with_reducible rfl)
 try simp only [Act.put, zp]
 refine zE 3 #[zT,zT,zT,zT,zF,zF,zF,zF,zF,zF,zF,zF,zF,zF,zF,zF,zF,zF,zF,zF,zF,zF,zF,zF,zF,zF,zF,zF,zF,zF,zF,zF,zF,zF,zF,zF,zF,zF,zF,zF,zF,zF,zF,zF,zF,zF,zF,zF,zF,zF,zF,zF,zF,zF,zF,zF,zF,zF,zF,zF,zF,zF,zF,zF,zF,zF,zF,zF,zF,zF,zF,zF] ?_ rfl ?hy4 ?rest4
 case hy4 => intro w; go_simp; (try with_reducible rfl)
 try simp only [Act.put, zp]
 refine zE 4 #[zT,zT,zT,zT,zT,zF,zF,zF,zF,zF,zF,zF,zF,zF,zF,zF,zF,zF,zF,zF,zF,zF,zF,zF,zF,zF,zF,zF,zF,zF,zF,zF,zF,zF,zF,zF,zF,zF,zF,zF,zF,zF,zF,zF,zF,zF,zF,zF,zF,zF,zF,zF,zF,zF,zF,zF,zF,zF,zF,zF,zF,zF,zF,zF,zF,zF,zF,zF,zF,zF,zF,zF] ?_ rfl ?hy5 ?rest5
 case hy5 => intro w; go_simp; (try with_reducible rfl)
 try simp only [Act.put, zp]
 refine zE 5 #[zT,zT,zT,zT,zT,zT,zF,zF,zF,zF,zF,zF,zF,zF,zF,zF,zF,zF,zF,zF,zF,zF,zF,zF,zF,zF,zF,zF,zF,zF,zF,zF,zF,zF,zF,zF,zF,zF,zF,zF,zF,zF,zF,zF,zF,zF,zF,zF,zF,zF,zF,zF,zF,zF,zF,zF,zF,zF,zF,zF,zF,zF,zF,zF,zF,zF,zF,zF,zF,zF,zF,zF] ?_ rfl ?hy6 ?rest6
 case hy6 => intro w; go_simp; (try with_reducible rfl)
 try simp only [Act.put, zp]
 refine zE 6 #[zT,zT,zT,zT,zT,zT,zT,zF,zF,zF,zF,zF,zF,zF,zF,zF,zF,zF,zF,zF,zF,zF,zF,zF,zF,zF,zF,zF,zF,zF,zF,zF,zF,zF,zF,zF,zF,zF,zF,zF,zF,zF,zF,zF,zF,zF,zF,zF,zF,zF,zF,zF,zF,zF,zF,zF,zF,zF,zF,zF,zF,zF,zF,zF,zF,zF,zF,zF,zF,zF,zF,zF] ?_ rfl ?hy7 ?rest7
 case hy7 => intro w; go_simp; (try with_reducible rfl)
 try simp only [Act.put, zp]
 refine zE 7 #[zT,zT,zT,zT,zT,zT,zT,zT,zF,zF,zF,zF,zF,zF,zF,zF,zF,zF,zF,zF,zF,zF,zF,zF,zF,zF,zF,zF,zF,zF,zF,zF,zF,zF,zF,zF,zF,zF,zF,zF,zF,zF,zF,zF,zF,zF,zF,zF,zF,zF,zF,zF,zF,zF,zF,zF,zF,zF,zF,zF,zF,zF,zF,zF,zF,zF,zF,zF,zF,zF,zF,zF] ?_ rfl ?hy8 ?rest8
 case hy8 => intro w; go_simp; (try with_reducible rfl)
 try simp only [Act.put, zp]
 refine zE 8 #[zT,zT,zT,zT,zT,zT,zT,zT,zT,zF,zF,zF,zF,zF,zF,zF,zF,zF,zF,zF,zF,zF,zF,zF,zF,zF,zF,zF,zF,zF,zF,zF,zF,zF,zF,zF,zF,zF,zF,zF,zF,zF,zF,zF,zF,zF,zF,zF,zF,zF,zF,zF,zF,zF,zF,zF,zF,zF,zF,zF,zF,zF,zF,zF,zF,zF,zF,zF,zF,zF,zF,zF] ?_ rfl ?hy9 ?rest9
 case hy9 => intro w; go_simp; (try with_reducible rfl)
 try simp only [Act.put, zp]
 refine zE 9 #[zT,zT,zT,zT,zT,zT,zT,zT,zT,zT,zF,zF,zF,zF,zF,zF,zF,zF,zF,zF,zF,zF,zF,zF,zF,zF,zF,zF,zF,zF,zF,zF,zF,zF,zF,zF,zF,zF,zF,zF,zF,zF,zF,zF,zF,zF,zF,zF,zF,zF,zF,zF,zF,zF,zF,zF,zF,zF,zF,zF,zF,zF,zF,zF,zF,zF,zF,zF,zF,zF,zF,zF] ?_ rfl ?hy10 ?rest10
 case hy10 => intro w; go_simp; (try with_reducible rfl)
 try simp only [Act.put, zp]
 refine zE 10 #[zT,zT,zT,zT,zT,zT,zT,zT,zT,zT,zT,zF,zF,zF,zF,zF,zF,zF,zF,zF,zF,zF,zF,zF,zF,zF,zF,zF,zF,zF,zF,zF,zF,zF,zF,zF,zF,zF,zF,zF,zF,zF,zF,zF,zF,zF,zF,zF,zF,zF,zF,zF,zF,zF,zF,zF,zF,zF,zF,zF,zF,zF,zF,zF,zF,zF,zF,zF,zF,zF,zF,zF] ?_ rfl ?hy11 ?rest11
 case hy11 => intro w; go_simp; (try with_reducible rfl)
 try simp only [Act.put, zp]
 refine zE 11 #[zT,zT,zT,zT,zT,zT,zT,zT,zT,zT,zT,zT,zF,zF,zF,zF,zF,zF,zF,zF,zF,zF,zF,zF,zF,zF,zF,zF,zF,zF,zF,zF,zF,zF,zF,zF,zF,zF,zF,zF,zF,zF,zF,zF,zF,zF,zF,zF,zF,zF,zF,zF,zF,zF,zF,zF,zF,zF,zF,zF,zF,zF,zF,zF,zF,zF,zF,zF,zF,zF,zF,zF] ?_ rfl ?hy12 ?rest12
 case hy12 => intro w; go_simp; (try with_reducible rfl)
 try simp only [Act.put, zp]
 refine zE 12 #[zT,zT,zT,zT,zT,zT,zT,zT,zT,zT,zT,zT,zT,zF,zF,zF,zF,zF,zF,zF,zF,zF,zF,zF,zF,zF,zF,zF,zF,zF,zF,zF,zF,zF,zF,zF,zF,zF,zF,zF,zF,zF,zF,zF,zF,zF,zF,zF,zF,zF,zF,zF,zF,zF,zF,zF,zF,zF,zF,zF,zF,zF,zF,zF,zF,zF,zF,zF,zF,zF,zF,zF] ?_ rfl ?hy13 ?rest13
 case hy13 => intro w; go_simp; (try with_reducible rfl)
 try simp only [Act.put, zp]
 refine zE 13 #[zT,zT,zT,zT,zT,zT,zT,zT,zT,zT,zT,zT,zT,zT,zF,zF,zF,zF,zF,zF,zF,zF,zF,zF,zF,zF,zF,zF,zF,zF,zF,zF,zF,zF,zF,zF,zF,zF,zF,zF,zF,zF,zF,zF,zF,zF,zF,zF,zF,zF,zF,zF,zF,zF,zF,zF,zF,zF,zF,zF,zF,zF,zF,zF,zF,zF,zF,zF,zF,zF,zF,zF] ?_ rfl ?hy14 ?rest14
 case hy14 => intro w; go_simp; (try with_reducible rfl)
 try simp only [Act.put, zp]
 refine zE 14 #[zT,zT,zT,zT,zT,zT,zT,zT,zT,zT,zT,zT,zT,zT,zT,zF,zF,zF,zF,zF,zF,zF,zF,zF,zF,zF,zF,zF,zF,zF,zF,zF,zF,zF,zF,zF,zF,zF,zF,zF,zF,zF,zF,zF,zF,zF,zF,zF,zF,zF,zF,zF,zF,zF,zF,zF,zF,zF,zF,zF,zF,zF,zF,zF,zF,zF,zF,zF,zF,zF,zF,zF] ?_ rfl ?hy15 ?rest15
 case hy15 => intro w; go_simp; (try with_reducible rfl)
 try simp only [Act.put, zp]
 refine zE 15 #[zT,zT,zT,zT,zT,zT,zT,zT,zT,zT,zT,zT,zT,zT,zT,zT,zF,zF,zF,zF,zF,zF,zF,zF,zF,zF,zF,zF,zF,zF,zF,zF,zF,zF,zF,zF,zF,zF,zF,zF,zF,zF,zF,zF,zF,zF,zF,zF,zF,zF,zF,zF,zF,zF,zF,zF,zF,zF,zF,zF,zF,zF,zF,zF,zF,zF,zF,zF,zF,zF,zF,zF] ?_ rfl ?hy16 ?rest16
 case hy16 => intro w; go_simp; (try with_reducible rfl)
 try simp only [Act.put, zp]
 refine zE 16 #[zT,zT,zT,zT,zT,zT,zT,zT,zT,zT,zT,zT,zT,zT,zT,zT,zT,zF,zF,zF,zF,zF,zF,zF,zF,zF,zF,zF,zF,zF,zF,zF,zF,zF,zF,zF,zF,zF,zF,zF,zF,zF,zF,zF,zF,zF,zF,zF,zF,zF,zF,zF,zF,zF,zF,zF,zF,zF,zF,zF,zF,zF,zF,zF,zF,zF,zF,zF,zF,zF,zF,zF] ?_ rfl ?hy17 ?rest17
 case hy17 => intro w; go_simp; (try with_reducible rfl)
 try simp only [Act.put, zp]
 refine zE 17 #[zT,zT,zT,zT,zT,zT,zT,zT,zT,zT,zT,zT,zT,zT,zT,zT,zT,zT,zF,zF,zF,zF,zF,zF,zF,zF,zF,zF,zF,zF,zF,zF,zF,zF,zF,zF,zF,zF,zF,zF,zF,zF,zF,zF,zF,zF,zF,zF,zF,zF,zF,zF,zF,zF,zF,zF,zF,zF,zF,zF,zF,zF,zF,zF,zF,zF,zF,zF,zF,zF,zF,zF] ?_ rfl ?hy18 ?rest18
 case hy18 => intro w; go_simp; (try with_reducible rfl)
 try simp only [Act.put, zp]
 refine zE 18 #[zT,zT,zT,zT,zT,zT,zT,zT,zT,zT,zT,zT,zT,zT,zT,zT,zT,zT,zT,zF,zF,zF,zF,zF,zF,zF,zF,zF,zF,zF,zF,zF,zF,zF,zF,zF,zF,zF,zF,zF,zF,zF,zF,zF,zF,zF,zF,zF,zF,zF,zF,zF,zF,zF,zF,zF,zF,zF,zF,zF,zF,zF,zF,zF,zF,zF,zF,zF,zF,zF,zF,zF] ?_ rfl ?hy19 ?rest19
 case hy19 => intro w; go_simp; (try with_reducible rfl)
 try simp only [Act.put, zp]
 refine zE 19 #[zT,zT,zT,zT,zT,zT,zT,zT,zT,zT,zT,zT,zT,zT,zT,zT,zT,zT,zT,zT,zF,zF,zF,zF,zF,zF,zF,zF,zF,zF,zF,zF,zF,zF,zF,zF,zF,zF,zF,zF,zF,zF,zF,zF,zF,zF,zF,zF,zF,zF,zF,zF,zF,zF,zF,zF,zF,zF,zF,zF,zF,zF,zF,zF,zF,zF,zF,zF,zF,zF,zF,zF] ?_ rfl ?hy20 ?rest20
 case hy20 => intro w; go_simp; (try with_reducible rfl)
 try simp only [Act.put, zp]
 refine zE 20 #[zT,zT,zT,zT,zT,zT,zT,zT,zT,zT,zT,zT,zT,zT,zT,zT,zT,zT,zT,zT,zT,zF,zF,zF,zF,zF,zF,zF,zF,zF,zF,zF,zF,zF,zF,zF,zF,zF,zF,zF,zF,zF,zF,zF,zF,zF,zF,zF,zF,zF,zF,zF,zF,zF,zF,zF,zF,zF,zF,zF,zF,zF,zF,zF,zF,zF,zF,zF,zF,zF,zF,zF] ?_ rfl ?hy21 ?rest21
 case hy21 => intro w; go_simp; (try with_reducible rfl)
 try simp only [Act.put, zp]
 refine zE 21 #[zT,zT,zT,zT,zT,zT,zT,zT,zT,zT,zT,zT,zT,zT,zT,zT,zT,zT,zT,zT,zT,zT,zF,zF,zF,zF,zF,zF,zF,zF,zF,zF,zF,zF,zF,zF,zF,zF,zF,zF,zF,zF,zF,zF,zF,zF,zF,zF,zF,zF,zF,zF,zF,zF,zF,zF,zF,zF,zF,zF,zF,zF,zF,zF,zF,zF,zF,zF,zF,zF,zF,zF] ?_ rfl ?hy22 ?rest22
 case hy22 => intro w; go_simp; (try with_reducible rfl)
 try simp only [Act.put, zp]
 refine zE 22 #[zT,zT,zT,zT,zT,zT,zT,zT,zT,zT,zT,zT,zT,zT,zT,zT,zT,zT,zT,zT,zT,zT,zT,zF,zF,zF,zF,zF,zF,zF,zF,zF,zF,zF,zF,zF,zF,zF,zF,zF,zF,zF,zF,zF,zF,zF,zF,zF,zF,zF,zF,zF,zF,zF,zF,zF,zF,zF,zF,zF,zF,zF,zF,zF,zF,zF,zF,zF,zF,zF,zF,zF] ?_ rfl ?hy23 ?rest23
 case hy23 => intro w; go_simp; (try with_reducible rfl)
 try simp only [Act.put, zp]
 refine zE 23 #[zT,zT,zT,zT,zT,zT,zT,zT,zT,zT,zT,zT,zT,zT,zT,zT,zT,zT,zT,zT,zT,zT,zT,zT,zF,zF,zF,zF,zF,zF,zF,zF,zF,zF,zF,zF,zF,zF,zF,zF,zF,zF,zF,zF,zF,zF,zF,zF,zF,zF,zF,zF,zF,zF,zF,zF,zF,zF,zF,zF,zF,zF,zF,zF,zF,zF,zF,zF,zF,zF,zF,zF] ?_ rfl ?hy24 ?rest24
 case hy24 => intro w; go_simp; (try with_reducible rfl)
 try simp only [Act.put, zp]
 refine zE 24 #[zT,zT,zT,zT,zT,zT,zT,zT,zT,zT,zT,zT,zT,zT,zT,zT,zT,zT,zT,zT,zT,zT,zT,zT,zT,zF,zF,zF,zF,zF,zF,zF,zF,zF,zF,zF,zF,zF,zF,zF,zF,zF,zF,zF,zF,zF,zF,zF,zF,zF,zF,zF,zF,zF,zF,zF,zF,zF,zF,zF,zF,zF,zF,zF,zF,zF,zF,zF,zF,zF,zF,zF] ?_ rfl ?hy25 ?rest25
 case hy25 => intro w; go_simp; (try with_reducible rfl)
 try simp only [Act.put, zp]
 refine zE 25 #[zT,zT,zT,zT,zT,zT,zT,zT,zT,zT,zT,zT,zT,zT,zT,zT,zT,zT,zT,zT,zT,zT,zT,zT,zT,zT,zF,zF,zF,zF,zF,zF,zF,zF,zF,zF,zF,zF,zF,zF,zF,zF,zF,zF,zF,zF,zF,zF,zF,zF,zF,zF,zF,zF,zF,zF,zF,zF,zF,zF,zF,zF,zF,zF,zF,zF,zF,zF,zF,zF,zF,zF] ?_ rfl ?hy26 ?rest26
 case hy26 => intro w; go_simp; (try with_reducible rfl)
 try simp only [Act.put, zp]
 refine zE 26 #[zT,zT,zT,zT,zT,zT,zT,zT,zT,zT,zT,zT,zT,zT,zT,zT,zT,zT,zT,zT,zT,zT,zT,zT,zT,zT,zT,zF,zF,zF,zF,zF,zF,zF,zF,zF,zF,zF,zF,zF,zF,zF,zF,zF,zF,zF,zF,zF,zF,zF,zF,zF,zF,zF,zF,zF,zF,zF,zF,zF,zF,zF,zF,zF,zF,zF,zF,zF,zF,zF,zF,zF] ?_ rfl ?hy27 ?rest27
 case hy27 => intro w; go_simp; (try with_reducible rfl)
 try simp only [Act.put, zp]
 refine zE 27 #[zT,zT,zT,zT,zT,zT,zT,zT,zT,zT,zT,zT,zT,zT,zT,zT,zT,zT,zT,zT,zT,zT,zT,zT,zT,zT,zT,zT,zF,zF,zF,zF,zF,zF,zF,zF,zF,zF,zF,zF,zF,zF,zF,zF,zF,zF,zF,zF,zF,zF,zF,zF,zF,zF,zF,zF,zF,zF,zF,zF,zF,zF,zF,zF,zF,zF,zF,zF,zF,zF,zF,zF] ?_ rfl ?hy28 ?rest28
 case hy28 => intro w; go_simp; (try with_reducible rfl)
 try simp only [Act.put, zp]
 refine zE 28 #[zT,zT,zT,zT,zT,zT,zT,zT,zT,zT,zT,zT,zT,zT,zT,zT,zT,zT,zT,zT,zT,zT,zT,zT,zT,zT,zT,zT,zT,zF,zF,zF,zF,zF,zF,zF,zF,zF,zF,zF,zF,zF,zF,zF,zF,zF,zF,zF,zF,zF,zF,zF,zF,zF,zF,zF,zF,zF,zF,zF,zF,zF,zF,zF,zF,zF,zF,zF,zF,zF,zF,zF] ?_ rfl ?hy29 ?rest29
 case hy29 => intro w; go_simp; (try with_reducible rfl)
 try simp only [Act.put, zp]
 refine zE 29 #[zT,zT,zT,zT,zT,zT,zT,zT,zT,zT,zT,zT,zT,zT,zT,zT,zT,zT,zT,zT,zT,zT,zT,zT,zT,zT,zT,zT,zT,zT,zF,zF,zF,zF,zF,zF,zF,zF,zF,zF,zF,zF,zF,zF,zF,zF,zF,zF,zF,zF,zF,zF,zF,zF,zF,zF,zF,zF,zF,zF,zF,zF,zF,zF,zF,zF,zF,zF,zF,zF,zF,zF] ?_ rfl ?hy30 ?rest30
 case hy30 => intro w; go_simp; (try with_reducible rfl)
 try simp only [Act.put, zp]
 refine zE 30 #[zT,zT,zT,zT,zT,zT,zT,zT,zT,zT,zT,zT,zT,zT,zT,zT,zT,zT,zT,zT,zT,zT,zT,zT,zT,zT,zT,zT,zT,zT,zT,zF,zF,zF,zF,zF,zF,zF,zF,zF,zF,zF,zF,zF,zF,zF,zF,zF,zF,zF,zF,zF,zF,zF,zF,zF,zF,zF,zF,zF,zF,zF,zF,zF,zF,zF,zF,zF,zF,zF,zF,zF] ?_ rfl ?hy31 ?rest31
 case hy31 => intro w; go_simp; (try with_reducible rfl)
 try simp only [Act.put, zp]
 refine zE 31 #[zT,zT,zT,zT,zT,zT,zT,zT,zT,zT,zT,zT,zT,zT,zT,zT,zT,zT,zT,zT,zT,zT,zT,zT,zT,zT,zT,zT,zT,zT,zT,zT,zF,zF,zF,zF,zF,zF,zF,zF,zF,zF,zF,zF,zF,zF,zF,zF,zF,zF,zF,zF,zF,zF,zF,zF,zF,zF,zF,zF,zF,zF,zF,zF,zF,zF,zF,zF,zF,zF,zF,zF] ?_ rfl ?hy32 ?rest32
 case hy32 => intro w; go_simp; (try with_reducible rfl)
 try simp only [Act.put, zp]
 refine zE 32 #[zT,zT,zT,zT,zT,zT,zT,zT,zT,zT,zT,zT,zT,zT,zT,zT,zT,zT,zT,zT,zT,zT,zT,zT,zT,zT,zT,zT,zT,zT,zT,zT,zT,zF,zF,zF,zF,zF,zF,zF,zF,zF,zF,zF,zF,zF,zF,zF,zF,zF,zF,zF,zF,zF,zF,zF,zF,zF,zF,zF,zF,zF,zF,zF,zF,zF,zF,zF,zF,zF,zF,zF] ?_ rfl ?hy33 ?rest33
 case hy33 => intro w; go_simp; (try with_reducible rfl)
 try simp only [Act.put, zp]
 refine zE 33 #[zT,zT,zT,zT,zT,zT,zT,zT,zT,zT,zT,zT,zT,zT,zT,zT,zT,zT,zT,zT,zT,zT,zT,zT,zT,zT,zT,zT,zT,zT,zT,zT,zT,zT,zF,zF,zF,zF,zF,zF,zF,zF,zF,zF,zF,zF,zF,zF,zF,zF,zF,zF,zF,zF,zF,zF,zF,zF,zF,zF,zF,zF,zF,zF,zF,zF,zF,zF,zF,zF,zF,zF] ?_ rfl ?hy34 ?rest34
 case hy34 => intro w; go_simp; (try with_reducible rfl)
 try simp only [Act.put, zp]
 refine zE 34 #[zT,zT,zT,zT,zT,zT,zT,zT,zT,zT,zT,zT,zT,zT,zT,zT,zT,zT,zT,zT,zT,zT,zT,zT,zT,zT,zT,zT,zT,zT,zT,zT,zT,zT,zT,zF,zF,zF,zF,zF,zF,zF,zF,zF,zF,zF,zF,zF,zF,zF,zF,zF,zF,zF,zF,zF,zF,zF,zF,zF,zF,zF,zF,zF,zF,zF,zF,zF,zF,zF,zF,zF] ?_ rfl ?hy35 ?rest35
 case hy35 => intro w; go_simp; (try with_reducible rfl)
 try simp only [Act.put, zp]
 refine zE 35 #[zT,zT,zT,zT,zT,zT,zT,zT,zT,zT,zT,zT,zT,zT,zT,zT,zT,zT,zT,zT,zT,zT,zT,zT,zT,zT,zT,zT,zT,zT,zT,zT,zT,zT,zT,zT,zF,zF,zF,zF,zF,zF,zF,zF,zF,zF,zF,zF,zF,zF,zF,zF,zF,zF,zF,zF,zF,zF,zF,zF,zF,zF,zF,zF,zF,zF,zF,zF,zF,zF,zF,zF] ?_ rfl ?hy36 ?rest36
 case hy36 => intro w; go_simp; (try with_reducible rfl)
 try simp only [Act.put, zp]
 refine zE 36 #[zT,zT,zT,zT,zT,zT,zT,zT,zT,zT,zT,zT,zT,zT,zT,zT,zT,zT,zT,zT,zT,zT,zT,zT,zT,zT,zT,zT,zT,zT,zT,zT,zT,zT,zT,zT,zT,zF,zF,zF,zF,zF,zF,zF,zF,zF,zF,zF,zF,zF,zF,zF,zF,zF,zF,zF,zF,zF,zF,zF,zF,zF,zF,zF,zF,zF,zF,zF,zF,zF,zF,zF] ?_ rfl ?hy37 ?rest37
 case hy37 => intro w; go_simp; (try with_reducible rfl)
 try simp only [Act.put, zp]
 refine zE 37 #[zT,zT,zT,zT,zT,zT,zT,zT,zT,zT,zT,zT,zT,zT,zT,zT,zT,zT,zT,zT,zT,zT,zT,zT,zT,zT,zT,zT,zT,zT,zT,zT,zT,zT,zT,zT,zT,zT,zF,zF,zF,zF,zF,zF,zF,zF,zF,zF,zF,zF,zF,zF,zF,zF,zF,zF,zF,zF,zF,zF,zF,zF,zF,zF,zF,zF,zF,zF,zF,zF,zF,zF] ?_ rfl ?hy38 ?rest38
 case hy38 => intro w; go_simp; (try with_reducible rfl)
 try simp only [Act.put, zp]
 refine zE 38 #[zT,zT,zT,zT,zT,zT,zT,zT,zT,zT,zT,zT,zT,zT,zT,zT,zT,zT,zT,zT,zT,zT,zT,zT,zT,zT,zT,zT,zT,zT,zT,zT,zT,zT,zT,zT,zT,zT,zT,zF,zF,zF,zF,zF,zF,zF,zF,zF,zF,zF,zF,zF,zF,zF,zF,zF,zF,zF,zF,zF,zF,zF,zF,zF,zF,zF,zF,zF,zF,zF,zF,zF] ?_ rfl ?hy39 ?rest39
 case hy39 => intro w; go_simp; (try with_reducible rfl)
 try simp only [Act.put, zp]
 refine zE 39 #[zT,zT,zT,zT,zT,zT,zT,zT,zT,zT,zT,zT,zT,zT,zT,zT,zT,zT,zT,zT,zT,zT,zT,zT,zT,zT,zT,zT,zT,zT,zT,zT,zT,zT,zT,zT,zT,zT,zT,zT,zF,zF,zF,zF,zF,zF,zF,zF,zF,zF,zF,zF,zF,zF,zF,zF,zF,zF,zF,zF,zF,zF,zF,zF,zF,zF,zF,zF,zF,zF,zF,zF] ?_ rfl ?hy40 ?rest40
 case hy40 => intro w; go_simp; (try with_reducible rfl)
 try simp only [Act.put, zp]
 refine zE 40 #[zT,zT,zT,zT,zT,zT,zT,zT,zT,zT,zT,zT,zT,zT,zT,zT,zT,zT,zT,zT,zT,zT,zT,zT,zT,zT,zT,zT,zT,zT,zT,zT,zT,zT,zT,zT,zT,zT,zT,zT,zT,zF,zF,zF,zF,zF,zF,zF,zF,zF,zF,zF,zF,zF,zF,zF,zF,zF,zF,zF,zF,zF,zF,zF,zF,zF,zF,zF,zF,zF,zF,zF] ?_ rfl ?hy41 ?rest41
 case hy41 => intro w; go_simp; (try with_reducible rfl)
 try simp only [Act.put, zp]
 refine zE 41 #[zT,zT,zT,zT,zT,zT,zT,zT,zT,zT,zT,zT,zT,zT,zT,zT,zT,zT,zT,zT,zT,zT,zT,zT,zT,zT,zT,zT,zT,zT,zT,zT,zT,zT,zT,zT,zT,zT,zT,zT,zT,zT,zF,zF,zF,zF,zF,zF,zF,zF,zF,zF,zF,zF,zF,zF,zF,zF,zF,zF,zF,zF,zF,zF,zF,zF,zF,zF,zF,zF,zF,zF] ?_ rfl ?hy42 ?rest42
 case hy42 => intro w; go_simp; (try with_reducible rfl)
 try simp only [Act.put, zp]
 refine zE 42 #[zT,zT,zT,zT,zT,zT,zT,zT,zT,zT,zT,zT,zT,zT,zT,zT,zT,zT,zT,zT,zT,zT,zT,zT,zT,zT,zT,zT,zT,zT,zT,zT,zT,zT,zT,zT,zT,zT,zT,zT,zT,zT,zT,zF,zF,zF,zF,zF,zF,zF,zF,zF,zF,zF,zF,zF,zF,zF,zF,zF,zF,zF,zF,zF,zF,zF,zF,zF,zF,zF,zF,zF] ?_ rfl ?hy43 ?rest43
 case hy43 => intro w; go_simp; (try with_reducible rfl)
 try simp only [Act.put, zp]
 refine zE 43 #[zT,zT,zT,zT,zT,zT,zT,zT,zT,zT,zT,zT,zT,zT,zT,zT,zT,zT,zT,zT,zT,zT,zT,zT,zT,zT,zT,zT,zT,zT,zT,zT,zT,zT,zT,zT,zT,zT,zT,zT,zT,zT,zT,zT,zF,zF,zF,zF,zF,zF,zF,zF,zF,zF,zF,zF,zF,zF,zF,zF,zF,zF,zF,zF,zF,zF,zF,zF,zF,zF,zF,zF] ?_ rfl ?hy44 ?rest44
 case hy44 => intro w; go_simp; (try with_reducible rfl)
 try simp only [Act.put, zp]
 refine zE 44 #[zT,zT,zT,zT,zT,zT,zT,zT,zT,zT,zT,zT,zT,zT,zT,zT,zT,zT,zT,zT,zT,zT,zT,zT,zT,zT,zT,zT,zT,zT,zT,zT,zT,zT,zT,zT,zT,zT,zT,zT,zT,zT,zT,zT,zT,zF,zF,zF,zF,zF,zF,zF,zF,zF,zF,zF,zF,zF,zF,zF,zF,zF,zF,zF,zF,zF,zF,zF,zF,zF,zF,zF] ?_ rfl ?hy45 ?rest45
 case hy45 => intro w; go_simp; (try with_reducible rfl)
 try simp only [Act.put, zp]
 refine zE 45 #[zT,zT,zT,zT,zT,zT,zT,zT,zT,zT,zT,zT,zT,zT,zT,zT,zT,zT,zT,zT,zT,zT,zT,zT,zT,zT,zT,zT,zT,zT,zT,zT,zT,zT,zT,zT,zT,zT,zT,zT,zT,zT,zT,zT,zT,zT,zF,zF,zF,zF,zF,zF,zF,zF,zF,zF,zF,zF,zF,zF,zF,zF,zF,zF,zF,zF,zF,zF,zF,zF,zF,zF] ?_ rfl ?hy46 ?rest46
 case hy46 => intro w; go_simp; (try with_reducible rfl)
 try simp only [Act.put, zp]
 refine zE 46 #[zT,zT,zT,zT,zT,zT,zT,zT,zT,zT,zT,zT,zT,zT,zT,zT,zT,zT,zT,zT,zT,zT,zT,zT,zT,zT,zT,zT,zT,zT,zT,zT,zT,zT,zT,zT,zT,zT,zT,zT,zT,zT,zT,zT,zT,zT,zT,zF,zF,zF,zF,zF,zF,zF,zF,zF,zF,zF,zF,zF,zF,zF,zF,zF,zF,zF,zF,zF,zF,zF,zF,zF] ?_ rfl ?hy47 ?rest47
 case hy47 => intro w; go_simp; (try with_reducible rfl)
 try simp only [Act.put, zp]
 refine zE 47 #[zT,zT,zT,zT,zT,zT,zT,zT,zT,zT,zT,zT,zT,zT,zT,zT,zT,zT,zT,zT,zT,zT,zT,zT,zT,zT,zT,zT,zT,zT,zT,zT,zT,zT,zT,zT,zT,zT,zT,zT,zT,zT,zT,zT,zT,zT,zT,zT,zF,zF,zF,zF,zF,zF,zF,zF,zF,zF,zF,zF,zF,zF,zF,zF,zF,zF,zF,zF,zF,zF,zF,zF] ?_ rfl ?hy48 ?rest48
 case hy48 => intro w; go_simp; (try with_reducible rfl)
 try simp only [Act.put, zp]
 have kpy81 : Keeps u73 v79 := fun p hp => Below.block (later j78 j80) p hp
 refine readE (i := 48) (L := #[zT,zT,zT,zT,zT,zT,zT,zT,zT,zT,zT,zT,zT,zT,zT,zT,zT,zT,zT,zT,zT,zT,zT,zT,zT,zT,zT,zT,zT,zT,zT,zT,zT,zT,zT,zT,zT,zT,zT,zT,zT,zT,zT,zT,zT,zT,zT,zT,zT,zF,zF,zF,zF,zF,zF,zF,zF,zF,zF,zF,zF,zF,zF,zF,zF,zF,zF,zF,zF,zF,zF,zF]) (v := .agg #[.bool Q.M.S.s, .slice Q.M.S.A Q.M.S.n Q.M.S.c, .int .i64 Q.M.S.e, .bool Q.M.W.s, .slice Q.M.W.A Q.M.W.n Q.M.W.c, .int .i64 Q.M.W.e, .bool Q.M.C.s, .slice Q.M.C.A Q.M.C.n Q.M.C.c, .int .i64 Q.M.C.e, .bool Q.M.A.s, .slice Q.M.A.A Q.M.A.n Q.M.A.c, .int .i64 Q.M.A.e, .bool Q.h, .int .i64 Q.mn, .int .i64 Q.mx, .slice Q.A Q.n Q.c]) rfl (by rfl) (by kernel_rfl) (by kernel_rfl) (by kernel_rfl) (fun _ _ _ h => h) (by assumption) (by rfl) ?y81 ?z82
 case y81 =>
  intro w' h1
  exact run_load_op 30 (.tmp 1) rfl (v1.heap.size) 0 rfl (cells16 Q) _ (PBox.range ((h1 _ (Nat.lt_of_lt_of_le sQ (Below.size (later j10 (later j12 (later j16 (later j18 (later j22 (later j24 (later j28 (later j30 (later j34 (later j36 (later j38 (later j42 (later j44 (later j46 (later j50 (later j52 (later j54 (later j58 (later j60 (later j64 (later jn (later j66 (later j68 (later j72 j74))))))))))))))))))))))))))).trans (box_later bQ (later j10 (later j12 (later j16 (later j18 (later j22 (later j24 (later j28 (later j30 (later j34 (later j36 (later j38 (later j42 (later j44 (later j46 (later j50 (later j52 (later j54 (later j58 (later j60 (later j64 (later jn (later j66 (later j68 (later j72 j74)))))))))))))))))))))))) sQ))) Tryz.underlying30 rfl (by kernel_rfl)
 try simp only [Act.put, zp]
 refine stepK (i := 49) (L := #[zT,zT,zT,zT,zT,zT,zT,zT,zT,zT,zT,zT,zT,zT,zT,zT,zT,zT,zT,zT,zT,zT,zT,zT,zT,zT,zT,zT,zT,zT,zT,zT,zT,zT,zT,zT,zT,zT,zT,zT,zT,zT,zT,zT,zT,zT,zT,zT,zT,zT,zF,zF,zF,zF,zF,zF,zF,zF,zF,zF,zF,zF,zF,zF,zF,zF,zF,zF,zF,zF,zF,zF]) rfl (by rfl) (by kernel_rfl) (by rfl) (fun K hK => ?_)
 go_simp
 go_at_call 19
 refine (Of_any v79 (1) (by decide) (by decide) false 1 rfl rfl).mono ?_
 rintro e' v83 ⟨O11, m11, rfl, j84, J11⟩
 have D11 : DRow v83 0 v83.heap.size ⟨false, O11, m11, m11, 0, canon 4294967296 1⟩ := ints_all J11
 clear J11
 refine hK _ _ ⟨fun _ _ => fun p hp => Below.block (later j78 (later j80 j84)) p hp, ?_⟩
 clear hK K
 try simp only []
 refine stepK (i := 50) (L := #[zT,zT,zT,zT,zT,zT,zT,zT,zT,zT,zT,zT,zT,zT,zT,zT,zT,zT,zT,zT,zT,zT,zT,zT,zT,zT,zT,zT,zT,zT,zT,zT,zT,zT,zT,zT,zT,zT,zT,zT,zT,zT,zT,zT,zT,zT,zT,zT,zT,zT,zT,zF,zF,zF,zF,zF,zF,zF,zF,zF,zF,zF,zF,zF,zF,zF,zF,zF,zF,zF,zF,zF]) rfl (by rfl) (by kernel_rfl) (by rfl) (fun K hK => ?_)
 go_simp
 go_at_call 19
 refine (Of_any v83 (2) (by decide) (by decide) false 2 rfl rfl).mono ?_
 rintro e' v85 ⟨O12, m12, rfl, j86, J12⟩
 have D12 : DRow v85 0 v85.heap.size ⟨false, O12, m12, m12, 0, canon 4294967296 2⟩ := ints_all J12
 clear J12
 refine hK _ _ ⟨fun _ _ => fun p hp => Below.block (later j78 (later j80 (later j84 j86))) p hp, ?_⟩
 clear hK K
 try simp only []
 refine stepK (i := 51) (L := #[zT,zT,zT,zT,zT,zT,zT,zT,zT,zT,zT,zT,zT,zT,zT,zT,zT,zT,zT,zT,zT,zT,zT,zT,zT,zT,zT,zT,zT,zT,zT,zT,zT,zT,zT,zT,zT,zT,zT,zT,zT,zT,zT,zT,zT,zT,zT,zT,zT,zT,zT,zT,zF,zF,zF,zF,zF,zF,zF,zF,zF,zF,zF,zF,zF,zF,zF,zF,zF,zF,zF,zF]) rfl (by rfl) (by kernel_rfl) (by rfl) (fun K hK => ?_)
 go_simp
 go_at_call 23
 refine (told_any v85 Q (PRows.on RQ (later j10 (later j12 (later j16 (later j18 (later j22 (later j24 (later j28 (later j30 (later j34 (later j36 (later j38 (later j42 (later j44 (later j46 (later j50 (later j52 (later j54 (later j58 (later j60 (later j64 (later jn (later j66 (later j68 (later j72 (later j74 (later j78 (later j80 (later j84 j86))))))))))))))))))))))))))))) (tab_later hT (later jU (later j10 (later j12 (later j16 (later j18 (later j22 (later j24 (later j28 (later j30 (later j34 (later j36 (later j38 (later j42 (later j44 (later j46 (later j50 (later j52 (later j54 (later j58 (later j60 (later j64 (later jn (later j66 (later j68 (later j72 (later j74 (later j78 (later j80 (later j84 j86)))))))))))))))))))))))))))))) 4 0 ⟨false, O11, m11, m11, 0, canon 4294967296 1⟩ ⟨false, O12, m12, m12, 0, canon 4294967296 2⟩ (ints_on D11 j86) D12 true (told_yes (se0 RQ PS.out) ⟨rfl, rfl, rfl⟩ ⟨rfl, rfl, rfl⟩)).mono ?_
 rintro e' v87 ⟨rfl, j88⟩
 refine hK _ _ ⟨fun _ _ => fun p hp => Below.block (later j78 (later j80 (later j84 (later j86 j88)))) p hp, ?_⟩
 clear hK K
 try simp only []
 refine zE 52 #[zT,zT,zT,zT,zT,zT,zT,zT,zT,zT,zT,zT,zT,zT,zT,zT,zT,zT,zT,zT,zT,zT,zT,zT,zT,zT,zT,zT,zT,zT,zT,zT,zT,zT,zT,zT,zT,zT,zT,zT,zT,zT,zT,zT,zT,zT,zT,zT,zT,zT,zT,zT,zT,zF,zF,zF,zF,zF,zF,zF,zF,zF,zF,zF,zF,zF,zF,zF,zF,zF,zF,zF] ?_ rfl ?hy53 ?rest53
 case hy53 => intro w; go_simp; (try with_reducible rfl)
 try simp only [Act.put, zp]
 refine zE 53 #[zT,zT,zT,zT,zT,zT,zT,zT,zT,zT,zT,zT,zT,zT,zT,zT,zT,zT,zT,zT,zT,zT,zT,zT,zT,zT,zT,zT,zT,zT,zT,zT,zT,zT,zT,zT,zT,zT,zT,zT,zT,zT,zT,zT,zT,zT,zT,zT,zT,zT,zT,zT,zT,zT,zF,zF,zF,zF,zF,zF,zF,zF,zF,zF,zF,zF,zF,zF,zF,zF,zF,zF] ?_ rfl ?hy54 ?rest54
 case hy54 => intro w; go_simp; (try with_reducible rfl)
 try simp only [Act.put, zp]
 have kpy89 : Keeps u73 v87 := fun p hp => Below.block (later j78 (later j80 (later j84 (later j86 j88)))) p hp
 refine readE (i := 54) (L := #[zT,zT,zT,zT,zT,zT,zT,zT,zT,zT,zT,zT,zT,zT,zT,zT,zT,zT,zT,zT,zT,zT,zT,zT,zT,zT,zT,zT,zT,zT,zT,zT,zT,zT,zT,zT,zT,zT,zT,zT,zT,zT,zT,zT,zT,zT,zT,zT,zT,zT,zT,zT,zT,zT,zT,zF,zF,zF,zF,zF,zF,zF,zF,zF,zF,zF,zF,zF,zF,zF,zF,zF]) (v := .agg #[.bool Q.M.S.s, .slice Q.M.S.A Q.M.S.n Q.M.S.c, .int .i64 Q.M.S.e, .bool Q.M.W.s, .slice Q.M.W.A Q.M.W.n Q.M.W.c, .int .i64 Q.M.W.e, .bool Q.M.C.s, .slice Q.M.C.A Q.M.C.n Q.M.C.c, .int .i64 Q.M.C.e, .bool Q.M.A.s, .slice Q.M.A.A Q.M.A.n Q.M.A.c, .int .i64 Q.M.A.e, .bool Q.h, .int .i64 Q.mn, .int .i64 Q.mx, .slice Q.A Q.n Q.c]) rfl (by rfl) (by kernel_rfl) (by kernel_rfl) (by kernel_rfl) (fun _ _ _ h => h) (by assumption) (by rfl) ?y89 ?z90
 case y89 =>
  intro w' h1
  exact run_load_op 30 (.tmp 1) rfl (v1.heap.size) 0 rfl (cells16 Q) _ (PBox.range ((h1 _ (Nat.lt_of_lt_of_le sQ (Below.size (later j10 (later j12 (later j16 (later j18 (later j22 (later j24 (later j28 (later j30 (later j34 (later j36 (later j38 (later j42 (later j44 (later j46 (later j50 (later j52 (later j54 (later j58 (later j60 (later j64 (later jn (later j66 (later j68 (later j72 j74))))))))))))))))))))))))))).trans (box_later bQ (later j10 (later j12 (later j16 (later j18 (later j22 (later j24 (later j28 (later j30 (later j34 (later j36 (later j38 (later j42 (later j44 (later j46 (later j50 (later j52 (later j54 (later j58 (later j60 (later j64 (later jn (later j66 (later j68 (later j72 j74)))))))))))))))))))))))) sQ))) Tryz.underlying30 rfl (by kernel_rfl)
 try simp only [Act.put, zp]
 refine stepK (i := 55) (L := #[zT,zT,zT,zT,zT,zT,zT,zT,zT,zT,zT,zT,zT,zT,zT,zT,zT,zT,zT,zT,zT,zT,zT,zT,zT,zT,zT,zT,zT,zT,zT,zT,zT,zT,zT,zT,zT,zT,zT,zT,zT,zT,zT,zT,zT,zT,zT,zT,zT,zT,zT,zT,zT,zT,zT,zT,zF,zF,zF,zF,zF,zF,zF,zF,zF,zF,zF,zF,zF,zF,zF,zF]) rfl (by rfl) (by kernel_rfl) (by rfl) (fun K hK => ?_)
 go_simp
 go_at_call 18
 refine (over_any v87 7 2 (by decide) (by decide)).mono ?_
 rintro e' v91 ⟨X13, rfl, h1, h2, h3, h4, j92, J13⟩
 have H13 := Lib.hid (is_over (m := 7) (e := 2) h1 h2 h3 (by decide) (by decide))
 clear h1 h2 h3 h4
 have D13 : DRow v91 0 v91.heap.size X13 := ints_all J13
 clear J13
 refine hK _ _ ⟨fun _ _ => fun p hp => Below.block (later j78 (later j80 (later j84 (later j86 (later j88 j92))))) p hp, ?_⟩
 clear hK K
 try simp only []
 refine stepK (i := 56) (L := #[zT,zT,zT,zT,zT,zT,zT,zT,zT,zT,zT,zT,zT,zT,zT,zT,zT,zT,zT,zT,zT,zT,zT,zT,zT,zT,zT,zT,zT,zT,zT,zT,zT,zT,zT,zT,zT,zT,zT,zT,zT,zT,zT,zT,zT,zT,zT,zT,zT,zT,zT,zT,zT,zT,zT,zT,zT,zF,zF,zF,zF,zF,zF,zF,zF,zF,zF,zF,zF,zF,zF,zF]) rfl (by rfl) (by kernel_rfl) (by rfl) (fun K hK => ?_)
 go_simp
 go_at_call 18
 refine (over_any v91 7 2 (by decide) (by decide)).mono ?_
 rintro e' v93 ⟨X14, rfl, h1, h2, h3, h4, j94, J14⟩
 have H14 := Lib.hid (is_over (m := 7) (e := 2) h1 h2 h3 (by decide) (by decide))
 clear h1 h2 h3 h4
 have D14 : DRow v93 0 v93.heap.size X14 := ints_all J14
 clear J14
 refine hK _ _ ⟨fun _ _ => fun p hp => Below.block (later j78 (later j80 (later j84 (later j86 (later j88 (later j92 j94)))))) p hp, ?_⟩
 clear hK K
 try simp only []
 refine stepK (i := 57) (L := #[zT,zT,zT,zT,zT,zT,zT,zT,zT,zT,zT,zT,zT,zT,zT,zT,zT,zT,zT,zT,zT,zT,zT,zT,zT,zT,zT,zT,zT,zT,zT,zT,zT,zT,zT,zT,zT,zT,zT,zT,zT,zT,zT,zT,zT,zT,zT,zT,zT,zT,zT,zT,zT,zT,zT,zT,zT,zT,zF,zF,zF,zF,zF,zF,zF,zF,zF,zF,zF,zF,zF,zF]) rfl (by rfl) (by kernel_rfl) (by rfl) (fun K hK => ?_)
 go_simp
 go_at_call 23
 refine (told_any v93 Q (PRows.on RQ (later j10 (later j12 (later j16 (later j18 (later j22 (later j24 (later j28 (later j30 (later j34 (later j36 (later j38 (later j42 (later j44 (later j46 (later j50 (later j52 (later j54 (later j58 (later j60 (later j64 (later jn (later j66 (later j68 (later j72 (later j74 (later j78 (later j80 (later j84 (later j86 (later j88 (later j92 j94)))))))))))))))))))))))))))))))) (tab_later hT (later jU (later j10 (later j12 (later j16 (later j18 (later j22 (later j24 (later j28 (later j30 (later j34 (later j36 (later j38 (later j42 (later j44 (later j46 (later j50 (later j52 (later j54 (later j58 (later j60 (later j64 (later jn (later j66 (later j68 (later j72 (later j74 (later j78 (later j80 (later j84 (later j86 (later j88 (later j92 j94))))))))))))))))))))))))))))))))) 4 2 X13 X14 (ints_on D13 j94) D14 true (told_yes (se2 RQ PS.out) H13.out H14.out)).mono ?_
 rintro e' v95 ⟨rfl, j96⟩
 refine hK _ _ ⟨fun _ _ => fun p hp => Below.block (later j78 (later j80 (later j84 (later j86 (later j88 (later j92 (later j94 j96))))))) p hp, ?_⟩
 clear hK K
 try simp only []
 refine zE 58 #[zT,zT,zT,zT,zT,zT,zT,zT,zT,zT,zT,zT,zT,zT,zT,zT,zT,zT,zT,zT,zT,zT,zT,zT,zT,zT,zT,zT,zT,zT,zT,zT,zT,zT,zT,zT,zT,zT,zT,zT,zT,zT,zT,zT,zT,zT,zT,zT,zT,zT,zT,zT,zT,zT,zT,zT,zT,zT,zT,zF,zF,zF,zF,zF,zF,zF,zF,zF,zF,zF,zF,zF] ?_ rfl ?hy59 ?rest59
 case hy59 => intro w; go_simp; (try with_reducible rfl)
 try simp only [Act.put, zp]
 refine zE 59 #[zT,zT,zT,zT,zT,zT,zT,zT,zT,zT,zT,zT,zT,zT,zT,zT,zT,zT,zT,zT,zT,zT,zT,zT,zT,zT,zT,zT,zT,zT,zT,zT,zT,zT,zT,zT,zT,zT,zT,zT,zT,zT,zT,zT,zT,zT,zT,zT,zT,zT,zT,zT,zT,zT,zT,zT,zT,zT,zT,zT,zF,zF,zF,zF,zF,zF,zF,zF,zF,zF,zF,zF] ?_ rfl ?hy60 ?rest60
 case hy60 => intro w; go_simp; (try with_reducible rfl)
 try simp only [Act.put, zp]
 have kpy97 : Keeps u73 v95 := fun p hp => Below.block (later j78 (later j80 (later j84 (later j86 (later j88 (later j92 (later j94 j96))))))) p hp
 refine readE (i := 60) (L := #[zT,zT,zT,zT,zT,zT,zT,zT,zT,zT,zT,zT,zT,zT,zT,zT,zT,zT,zT,zT,zT,zT,zT,zT,zT,zT,zT,zT,zT,zT,zT,zT,zT,zT,zT,zT,zT,zT,zT,zT,zT,zT,zT,zT,zT,zT,zT,zT,zT,zT,zT,zT,zT,zT,zT,zT,zT,zT,zT,zT,zT,zF,zF,zF,zF,zF,zF,zF,zF,zF,zF,zF]) (v := .agg #[.bool Q.M.S.s, .slice Q.M.S.A Q.M.S.n Q.M.S.c, .int .i64 Q.M.S.e, .bool Q.M.W.s, .slice Q.M.W.A Q.M.W.n Q.M.W.c, .int .i64 Q.M.W.e, .bool Q.M.C.s, .slice Q.M.C.A Q.M.C.n Q.M.C.c, .int .i64 Q.M.C.e, .bool Q.M.A.s, .slice Q.M.A.A Q.M.A.n Q.M.A.c, .int .i64 Q.M.A.e, .bool Q.h, .int .i64 Q.mn, .int .i64 Q.mx, .slice Q.A Q.n Q.c]) rfl (by rfl) (by kernel_rfl) (by kernel_rfl) (by kernel_rfl) (fun _ _ _ h => h) (by assumption) (by rfl) ?y97 ?z98
 case y97 =>
  intro w' h1
  exact run_load_op 30 (.tmp 1) rfl (v1.heap.size) 0 rfl (cells16 Q) _ (PBox.range ((h1 _ (Nat.lt_of_lt_of_le sQ (Below.size (later j10 (later j12 (later j16 (later j18 (later j22 (later j24 (later j28 (later j30 (later j34 (later j36 (later j38 (later j42 (later j44 (later j46 (later j50 (later j52 (later j54 (later j58 (later j60 (later j64 (later jn (later j66 (later j68 (later j72 j74))))))))))))))))))))))))))).trans (box_later bQ (later j10 (later j12 (later j16 (later j18 (later j22 (later j24 (later j28 (later j30 (later j34 (later j36 (later j38 (later j42 (later j44 (later j46 (later j50 (later j52 (later j54 (later j58 (later j60 (later j64 (later jn (later j66 (later j68 (later j72 j74)))))))))))))))))))))))) sQ))) Tryz.underlying30 rfl (by kernel_rfl)
 try simp only [Act.put, zp]
 refine stepK (i := 61) (L := #[zT,zT,zT,zT,zT,zT,zT,zT,zT,zT,zT,zT,zT,zT,zT,zT,zT,zT,zT,zT,zT,zT,zT,zT,zT,zT,zT,zT,zT,zT,zT,zT,zT,zT,zT,zT,zT,zT,zT,zT,zT,zT,zT,zT,zT,zT,zT,zT,zT,zT,zT,zT,zT,zT,zT,zT,zT,zT,zT,zT,zT,zT,zF,zF,zF,zF,zF,zF,zF,zF,zF,zF]) rfl (by rfl) (by kernel_rfl) (by rfl) (fun K hK => ?_)
 go_simp
 go_at_call 19
 refine (Of_any v95 (-3) (by decide) (by decide) true 3 rfl rfl).mono ?_
 rintro e' v99 ⟨O15, m15, rfl, j100, J15⟩
 have D15 : DRow v99 0 v99.heap.size ⟨true, O15, m15, m15, 0, canon 4294967296 3⟩ := ints_all J15
 clear J15
 refine hK _ _ ⟨fun _ _ => fun p hp => Below.block (later j78 (later j80 (later j84 (later j86 (later j88 (later j92 (later j94 (later j96 j100)))))))) p hp, ?_⟩
 clear hK K
 try simp only []
 refine stepK (i := 62) (L := #[zT,zT,zT,zT,zT,zT,zT,zT,zT,zT,zT,zT,zT,zT,zT,zT,zT,zT,zT,zT,zT,zT,zT,zT,zT,zT,zT,zT,zT,zT,zT,zT,zT,zT,zT,zT,zT,zT,zT,zT,zT,zT,zT,zT,zT,zT,zT,zT,zT,zT,zT,zT,zT,zT,zT,zT,zT,zT,zT,zT,zT,zT,zT,zF,zF,zF,zF,zF,zF,zF,zF,zF]) rfl (by rfl) (by kernel_rfl) (by rfl) (fun K hK => ?_)
 go_simp
 go_at_call 19
 refine (Of_any v99 (8) (by decide) (by decide) false 8 rfl rfl).mono ?_
 rintro e' v101 ⟨O16, m16, rfl, j102, J16⟩
 have D16 : DRow v101 0 v101.heap.size ⟨false, O16, m16, m16, 0, canon 4294967296 8⟩ := ints_all J16
 clear J16
 refine hK _ _ ⟨fun _ _ => fun p hp => Below.block (later j78 (later j80 (later j84 (later j86 (later j88 (later j92 (later j94 (later j96 (later j100 j102))))))))) p hp, ?_⟩
 clear hK K
 try simp only []
 refine stepK (i := 63) (L := #[zT,zT,zT,zT,zT,zT,zT,zT,zT,zT,zT,zT,zT,zT,zT,zT,zT,zT,zT,zT,zT,zT,zT,zT,zT,zT,zT,zT,zT,zT,zT,zT,zT,zT,zT,zT,zT,zT,zT,zT,zT,zT,zT,zT,zT,zT,zT,zT,zT,zT,zT,zT,zT,zT,zT,zT,zT,zT,zT,zT,zT,zT,zT,zT,zF,zF,zF,zF,zF,zF,zF,zF]) rfl (by rfl) (by kernel_rfl) (by rfl) (fun K hK => ?_)
 go_simp
 go_at_call 23
 refine (told_any v101 Q (PRows.on RQ (later j10 (later j12 (later j16 (later j18 (later j22 (later j24 (later j28 (later j30 (later j34 (later j36 (later j38 (later j42 (later j44 (later j46 (later j50 (later j52 (later j54 (later j58 (later j60 (later j64 (later jn (later j66 (later j68 (later j72 (later j74 (later j78 (later j80 (later j84 (later j86 (later j88 (later j92 (later j94 (later j96 (later j100 j102))))))))))))))))))))))))))))))))))) (tab_later hT (later jU (later j10 (later j12 (later j16 (later j18 (later j22 (later j24 (later j28 (later j30 (later j34 (later j36 (later j38 (later j42 (later j44 (later j46 (later j50 (later j52 (later j54 (later j58 (later j60 (later j64 (later jn (later j66 (later j68 (later j72 (later j74 (later j78 (later j80 (later j84 (later j86 (later j88 (later j92 (later j94 (later j96 (later j100 j102)))))))))))))))))))))))))))))))))))) 5 0 ⟨true, O15, m15, m15, 0, canon 4294967296 3⟩ ⟨false, O16, m16, m16, 0, canon 4294967296 8⟩ (ints_on D15 j102) D16 true (told_yes (sends RQ PS.out) ⟨rfl, rfl, rfl⟩ ⟨rfl, rfl, rfl⟩)).mono ?_
 rintro e' v103 ⟨rfl, j104⟩
 refine hK _ _ ⟨fun _ _ => fun p hp => Below.block (later j78 (later j80 (later j84 (later j86 (later j88 (later j92 (later j94 (later j96 (later j100 (later j102 j104)))))))))) p hp, ?_⟩
 clear hK K
 try simp only []
 refine zE 64 #[zT,zT,zT,zT,zT,zT,zT,zT,zT,zT,zT,zT,zT,zT,zT,zT,zT,zT,zT,zT,zT,zT,zT,zT,zT,zT,zT,zT,zT,zT,zT,zT,zT,zT,zT,zT,zT,zT,zT,zT,zT,zT,zT,zT,zT,zT,zT,zT,zT,zT,zT,zT,zT,zT,zT,zT,zT,zT,zT,zT,zT,zT,zT,zT,zT,zF,zF,zF,zF,zF,zF,zF] ?_ rfl ?hy65 ?rest65
 case hy65 => intro w; go_simp; (try with_reducible rfl)
 try simp only [Act.put, zp]
 refine zE 65 #[zT,zT,zT,zT,zT,zT,zT,zT,zT,zT,zT,zT,zT,zT,zT,zT,zT,zT,zT,zT,zT,zT,zT,zT,zT,zT,zT,zT,zT,zT,zT,zT,zT,zT,zT,zT,zT,zT,zT,zT,zT,zT,zT,zT,zT,zT,zT,zT,zT,zT,zT,zT,zT,zT,zT,zT,zT,zT,zT,zT,zT,zT,zT,zT,zT,zT,zF,zF,zF,zF,zF,zF] ?_ rfl ?hy66 ?rest66
 case hy66 => intro w; go_simp; (try with_reducible rfl)
 try simp only [Act.put, zp]
 have kpy105 : Keeps u73 v103 := fun p hp => Below.block (later j78 (later j80 (later j84 (later j86 (later j88 (later j92 (later j94 (later j96 (later j100 (later j102 j104)))))))))) p hp
 refine readE (i := 66) (L := #[zT,zT,zT,zT,zT,zT,zT,zT,zT,zT,zT,zT,zT,zT,zT,zT,zT,zT,zT,zT,zT,zT,zT,zT,zT,zT,zT,zT,zT,zT,zT,zT,zT,zT,zT,zT,zT,zT,zT,zT,zT,zT,zT,zT,zT,zT,zT,zT,zT,zT,zT,zT,zT,zT,zT,zT,zT,zT,zT,zT,zT,zT,zT,zT,zT,zT,zT,zF,zF,zF,zF,zF]) (v := .agg #[.bool Q.M.S.s, .slice Q.M.S.A Q.M.S.n Q.M.S.c, .int .i64 Q.M.S.e, .bool Q.M.W.s, .slice Q.M.W.A Q.M.W.n Q.M.W.c, .int .i64 Q.M.W.e, .bool Q.M.C.s, .slice Q.M.C.A Q.M.C.n Q.M.C.c, .int .i64 Q.M.C.e, .bool Q.M.A.s, .slice Q.M.A.A Q.M.A.n Q.M.A.c, .int .i64 Q.M.A.e, .bool Q.h, .int .i64 Q.mn, .int .i64 Q.mx, .slice Q.A Q.n Q.c]) rfl (by rfl) (by kernel_rfl) (by kernel_rfl) (by kernel_rfl) (fun _ _ _ h => h) (by assumption) (by rfl) ?y105 ?z106
 case y105 =>
  intro w' h1
  exact run_load_op 30 (.tmp 1) rfl (v1.heap.size) 0 rfl (cells16 Q) _ (PBox.range ((h1 _ (Nat.lt_of_lt_of_le sQ (Below.size (later j10 (later j12 (later j16 (later j18 (later j22 (later j24 (later j28 (later j30 (later j34 (later j36 (later j38 (later j42 (later j44 (later j46 (later j50 (later j52 (later j54 (later j58 (later j60 (later j64 (later jn (later j66 (later j68 (later j72 j74))))))))))))))))))))))))))).trans (box_later bQ (later j10 (later j12 (later j16 (later j18 (later j22 (later j24 (later j28 (later j30 (later j34 (later j36 (later j38 (later j42 (later j44 (later j46 (later j50 (later j52 (later j54 (later j58 (later j60 (later j64 (later jn (later j66 (later j68 (later j72 j74)))))))))))))))))))))))) sQ))) Tryz.underlying30 rfl (by kernel_rfl)
 try simp only [Act.put, zp]
 refine stepK (i := 67) (L := #[zT,zT,zT,zT,zT,zT,zT,zT,zT,zT,zT,zT,zT,zT,zT,zT,zT,zT,zT,zT,zT,zT,zT,zT,zT,zT,zT,zT,zT,zT,zT,zT,zT,zT,zT,zT,zT,zT,zT,zT,zT,zT,zT,zT,zT,zT,zT,zT,zT,zT,zT,zT,zT,zT,zT,zT,zT,zT,zT,zT,zT,zT,zT,zT,zT,zT,zT,zT,zF,zF,zF,zF]) rfl (by rfl) (by kernel_rfl) (by rfl) (fun K hK => ?_)
 go_simp
 go_at_call 18
 refine (over_any v103 3 2 (by decide) (by decide)).mono ?_
 rintro e' v107 ⟨X17, rfl, h1, h2, h3, h4, j108, J17⟩
 have H17 := Lib.hid (is_over (m := 3) (e := 2) h1 h2 h3 (by decide) (by decide))
 clear h1 h2 h3 h4
 have D17 : DRow v107 0 v107.heap.size X17 := ints_all J17
 clear J17
 refine hK _ _ ⟨fun _ _ => fun p hp => Below.block (later j78 (later j80 (later j84 (later j86 (later j88 (later j92 (later j94 (later j96 (later j100 (later j102 (later j104 j108))))))))))) p hp, ?_⟩
 clear hK K
 try simp only []
 refine stepK (i := 68) (L := #[zT,zT,zT,zT,zT,zT,zT,zT,zT,zT,zT,zT,zT,zT,zT,zT,zT,zT,zT,zT,zT,zT,zT,zT,zT,zT,zT,zT,zT,zT,zT,zT,zT,zT,zT,zT,zT,zT,zT,zT,zT,zT,zT,zT,zT,zT,zT,zT,zT,zT,zT,zT,zT,zT,zT,zT,zT,zT,zT,zT,zT,zT,zT,zT,zT,zT,zT,zT,zT,zF,zF,zF]) rfl (by rfl) (by kernel_rfl) (by rfl) (fun K hK => ?_)
 go_simp
 go_at_call 18
 refine (over_any v107 3 2 (by decide) (by decide)).mono ?_
 rintro e' v109 ⟨X18, rfl, h1, h2, h3, h4, j110, J18⟩
 have H18 := Lib.hid (is_over (m := 3) (e := 2) h1 h2 h3 (by decide) (by decide))
 clear h1 h2 h3 h4
 have D18 : DRow v109 0 v109.heap.size X18 := ints_all J18
 clear J18
 refine hK _ _ ⟨fun _ _ => fun p hp => Below.block (later j78 (later j80 (later j84 (later j86 (later j88 (later j92 (later j94 (later j96 (later j100 (later j102 (later j104 (later j108 j110)))))))))))) p hp, ?_⟩
 clear hK K
 try simp only []
 refine stepK (i := 69) (L := #[zT,zT,zT,zT,zT,zT,zT,zT,zT,zT,zT,zT,zT,zT,zT,zT,zT,zT,zT,zT,zT,zT,zT,zT,zT,zT,zT,zT,zT,zT,zT,zT,zT,zT,zT,zT,zT,zT,zT,zT,zT,zT,zT,zT,zT,zT,zT,zT,zT,zT,zT,zT,zT,zT,zT,zT,zT,zT,zT,zT,zT,zT,zT,zT,zT,zT,zT,zT,zT,zT,zF,zF]) rfl (by rfl) (by kernel_rfl) (by rfl) (fun K hK => ?_)
 go_simp
 go_at_call 23
 refine (told_any v109 Q (PRows.on RQ (later j10 (later j12 (later j16 (later j18 (later j22 (later j24 (later j28 (later j30 (later j34 (later j36 (later j38 (later j42 (later j44 (later j46 (later j50 (later j52 (later j54 (later j58 (later j60 (later j64 (later jn (later j66 (later j68 (later j72 (later j74 (later j78 (later j80 (later j84 (later j86 (later j88 (later j92 (later j94 (later j96 (later j100 (later j102 (later j104 (later j108 j110)))))))))))))))))))))))))))))))))))))) (tab_later hT (later jU (later j10 (later j12 (later j16 (later j18 (later j22 (later j24 (later j28 (later j30 (later j34 (later j36 (later j38 (later j42 (later j44 (later j46 (later j50 (later j52 (later j54 (later j58 (later j60 (later j64 (later jn (later j66 (later j68 (later j72 (later j74 (later j78 (later j80 (later j84 (later j86 (later j88 (later j92 (later j94 (later j96 (later j100 (later j102 (later j104 (later j108 j110))))))))))))))))))))))))))))))))))))))) 6 0 X17 X18 (ints_on D17 j110) D18 true (told_yes (sguess RQ PS.out) H17.out H18.out)).mono ?_
 rintro e' v111 ⟨rfl, j112⟩
 refine hK _ _ ⟨fun _ _ => fun p hp => Below.block (later j78 (later j80 (later j84 (later j86 (later j88 (later j92 (later j94 (later j96 (later j100 (later j102 (later j104 (later j108 (later j110 j112))))))))))))) p hp, ?_⟩
 clear hK K
 try simp only []
 refine zE 70 #[zT,zT,zT,zT,zT,zT,zT,zT,zT,zT,zT,zT,zT,zT,zT,zT,zT,zT,zT,zT,zT,zT,zT,zT,zT,zT,zT,zT,zT,zT,zT,zT,zT,zT,zT,zT,zT,zT,zT,zT,zT,zT,zT,zT,zT,zT,zT,zT,zT,zT,zT,zT,zT,zT,zT,zT,zT,zT,zT,zT,zT,zT,zT,zT,zT,zT,zT,zT,zT,zT,zT,zF] ?_ rfl ?hy71 ?rest71
 case hy71 => intro w; go_simp; (try with_reducible rfl)
 try simp only [Act.put, zp]
 refine zE 71 #[zT,zT,zT,zT,zT,zT,zT,zT,zT,zT,zT,zT,zT,zT,zT,zT,zT,zT,zT,zT,zT,zT,zT,zT,zT,zT,zT,zT,zT,zT,zT,zT,zT,zT,zT,zT,zT,zT,zT,zT,zT,zT,zT,zT,zT,zT,zT,zT,zT,zT,zT,zT,zT,zT,zT,zT,zT,zT,zT,zT,zT,zT,zT,zT,zT,zT,zT,zT,zT,zT,zT,zT] ?_ rfl ?hy72 ?rest72
 case hy72 => intro w; go_simp; (try with_reducible rfl)
 try simp only [Act.put, zp]
 refine doneE (by kernel_rfl) ?_ _
 go_wp2
 go_ret
 exact ⟨rfl, (later jU (later j10 (later j12 (later j16 (later j18 (later j22 (later j24 (later j28 (later j30 (later j34 (later j36 (later j38 (later j42 (later j44 (later j46 (later j50 (later j52 (later j54 (later j58 (later j60 (later j64 (later jn (later j66 (later j68 (later j72 (later j74 (later j78 (later j80 (later j84 (later j86 (later j88 (later j92 (later j94 (later j96 (later j100 (later j102 (later j104 (later j108 (later j110 j112)))))))))))))))))))))))))))))))))))))))⟩
end No
end Go.Proofs.YtmbppgjhdcmckaaGreatDoor