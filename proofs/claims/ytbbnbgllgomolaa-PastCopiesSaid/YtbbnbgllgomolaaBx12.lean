/- The law PastCopies: a walk (printed by a program of mine). -/
/- Parts, and lists of frozen parts, among the arguments. -/
import Derived.Deep.CutRange
import Derived.Test.YtbbnbgllgomolaaBx11
import Derived.Test.YtbbnbgllgomolaaBx08
import Derived.Test.YtbbnbgllgomolaaBx07
import Derived.Test.YtbbnbgllgomolaaBx09
namespace Go.Proofs.Ytbbnbgllgomolaa
open Go.RowKit
namespace Ma
open Dp Dy
set_option maxHeartbeats 102400000 in
set_option maxRecDepth 100000 in
theorem pcopies_walk (w : World) (A0 : Option Addr) (n0 c0 : Nat) (fs : List Fv) (La : LFs w 0 w.heap.size A0 n0 fs) (A1 : Option Addr) (n1 c1 : Nat) (os : List Fv) (Lo : LFs w 0 w.heap.size A1 n1 os) (p : Pv) (hRp : PRows w 0 w.heap.size p) (r : Pv) (hRr : PRows w 0 w.heap.size r) :
  Calls Try.prog 3 #[.slice A0 n0 c0, .slice A1 n1 c1, .agg #[.bool p.M.S.s, .slice p.M.S.A p.M.S.n p.M.S.c, .int .i64 p.M.S.e, .bool p.M.W.s, .slice p.M.W.A p.M.W.n p.M.W.c, .int .i64 p.M.W.e, .bool p.M.C.s, .slice p.M.C.A p.M.C.n p.M.C.c, .int .i64 p.M.C.e, .bool p.M.A.s, .slice p.M.A.A p.M.A.n p.M.A.c, .int .i64 p.M.A.e, .bool p.h, .int .i64 p.mn, .int .i64 p.mx, .slice p.A p.n p.c], .agg #[.bool r.M.S.s, .slice r.M.S.A r.M.S.n r.M.S.c, .int .i64 r.M.S.e, .bool r.M.W.s, .slice r.M.W.A r.M.W.n r.M.W.c, .int .i64 r.M.W.e, .bool r.M.C.s, .slice r.M.C.A r.M.C.n r.M.C.c, .int .i64 r.M.C.e, .bool r.M.A.s, .slice r.M.A.A r.M.A.n r.M.A.c, .int .i64 r.M.A.e, .bool r.h, .int .i64 r.mn, .int .i64 r.mx, .slice r.A r.n r.c]] w fun e w' => e = .returned (.bool true) ∧ Below w.heap.size w w' := by
 generalize hw : (w.alloc (.cells #[.bool p.M.S.s, .slice p.M.S.A p.M.S.n p.M.S.c, .int .i64 p.M.S.e, .bool p.M.W.s, .slice p.M.W.A p.M.W.n p.M.W.c, .int .i64 p.M.W.e, .bool p.M.C.s, .slice p.M.C.A p.M.C.n p.M.C.c, .int .i64 p.M.C.e, .bool p.M.A.s, .slice p.M.A.A p.M.A.n p.M.A.c, .int .i64 p.M.A.e, .bool p.h, .int .i64 p.mn, .int .i64 p.mx, .slice p.A p.n p.c] 31)).alloc (.cells #[.bool r.M.S.s, .slice r.M.S.A r.M.S.n r.M.S.c, .int .i64 r.M.S.e, .bool r.M.W.s, .slice r.M.W.A r.M.W.n r.M.W.c, .int .i64 r.M.W.e, .bool r.M.C.s, .slice r.M.C.A r.M.C.n r.M.C.c, .int .i64 r.M.C.e, .bool r.M.A.s, .slice r.M.A.A r.M.A.n r.M.A.c, .int .i64 r.M.A.e, .bool r.h, .int .i64 r.mn, .int .i64 r.mx, .slice r.A r.n r.c] 31) = w1
 obtain ⟨bp, br, j1, lo1, hi1⟩ := boxes2 w _ _ hw
 replace bp : PBox w1 w.heap.size p := bp
 replace br : PBox w1 (w.heap.size + 1) r := br
 replace j1 : Below w.heap.size w w1 := j1
 have S1 : w.heap.size < w1.heap.size := by omega
 have S2 : w.heap.size + 1 < w1.heap.size := by omega
 obtain ⟨g1, hg1⟩ : ∃ g, greatF n0 fs = g := ⟨_, rfl⟩
 obtain ⟨g2, hg2⟩ : ∃ g, greatF n1 os = g := ⟨_, rfl⟩
 obtain ⟨g3, hg3⟩ : ∃ g, greatP p = g := ⟨_, rfl⟩
 obtain ⟨g4, hg4⟩ : ∃ g, greatP r = g := ⟨_, rfl⟩
 obtain ⟨d1, hd1⟩ : ∃ d, sameF fs os = d := ⟨_, rfl⟩
 obtain ⟨d2, hd2⟩ : ∃ d, sameP p r = d := ⟨_, rfl⟩
 have G1 := Lib.hid hg1
 have G2 := Lib.hid hg2
 have G3 := Lib.hid hg3
 have G4 := Lib.hid hg4
 have D1 := Lib.hid hd1
 have D2 := Lib.hid hd2
 clear hg1 hg2 hg3 hg4 hd1 hd2
 go_enter Try.func3, Try.ntmps3
 go_wp2_with fail
 refine (GreatF_any w1 A0 n0 c0 fs (LFs.on La j1) g1 G1.out).mono ?_
 rintro e' v1 ⟨rfl, j2⟩
 try clear hw
 cases g1
 rotate_left
 · skip
   go_wp2
   go_ret
   exact ⟨rfl, (later j1 j2)⟩
 · skip
   go_wp2_with fail
   refine (GreatF_any v1 A1 n1 c1 os (LFs.on Lo (later j1 j2)) g2 G2.out).mono ?_
   rintro e' v3 ⟨rfl, j4⟩
   try clear hw
   cases g2
   rotate_left
   · skip
     go_wp2
     go_ret
     exact ⟨rfl, (later j1 (later j2 j4))⟩
   · skip
     have rg_ : v3.rangeAt (w.heap.size) 0 [.bool p.M.S.s, .slice p.M.S.A p.M.S.n p.M.S.c, .int .i64 p.M.S.e, .bool p.M.W.s, .slice p.M.W.A p.M.W.n p.M.W.c, .int .i64 p.M.W.e, .bool p.M.C.s, .slice p.M.C.A p.M.C.n p.M.C.c, .int .i64 p.M.C.e, .bool p.M.A.s, .slice p.M.A.A p.M.A.n p.M.A.c, .int .i64 p.M.A.e, .bool p.h, .int .i64 p.mn, .int .i64 p.mx, .slice p.A p.n p.c] := PBox.range (box_later bp (later j2 j4) S1)
     go_wp2_with (first
      | (refine wpList_load_midG (by rfl) 31 (.tmp 6) rfl (w.heap.size) 0 rfl [.bool p.M.S.s, .slice p.M.S.A p.M.S.n p.M.S.c, .int .i64 p.M.S.e, .bool p.M.W.s, .slice p.M.W.A p.M.W.n p.M.W.c, .int .i64 p.M.W.e, .bool p.M.C.s, .slice p.M.C.A p.M.C.n p.M.C.c, .int .i64 p.M.C.e, .bool p.M.A.s, .slice p.M.A.A p.M.A.n p.M.A.c, .int .i64 p.M.A.e, .bool p.h, .int .i64 p.mn, .int .i64 p.mx, .slice p.A p.n p.c] _ rg_ Try.underlying31 rfl (by kernel_rfl) ?_))
     refine (GreatPart_any v3 p (PRows.on hRp (later j1 (later j2 j4))) g3 G3.out).mono ?_
     rintro e' v5 ⟨rfl, j6⟩
     try clear hw
     clear rg_
     cases g3
     rotate_left
     · skip
       go_wp2
       go_ret
       exact ⟨rfl, (later j1 (later j2 (later j4 j6)))⟩
     · skip
       have rg_ : v5.rangeAt (w.heap.size + 1) 0 [.bool r.M.S.s, .slice r.M.S.A r.M.S.n r.M.S.c, .int .i64 r.M.S.e, .bool r.M.W.s, .slice r.M.W.A r.M.W.n r.M.W.c, .int .i64 r.M.W.e, .bool r.M.C.s, .slice r.M.C.A r.M.C.n r.M.C.c, .int .i64 r.M.C.e, .bool r.M.A.s, .slice r.M.A.A r.M.A.n r.M.A.c, .int .i64 r.M.A.e, .bool r.h, .int .i64 r.mn, .int .i64 r.mx, .slice r.A r.n r.c] := PBox.range (box_later br (later j2 (later j4 j6)) S2)
       go_wp2_with (first
        | (refine wpList_load_midG (by rfl) 31 (.tmp 7) rfl (w.heap.size + 1) 0 rfl [.bool r.M.S.s, .slice r.M.S.A r.M.S.n r.M.S.c, .int .i64 r.M.S.e, .bool r.M.W.s, .slice r.M.W.A r.M.W.n r.M.W.c, .int .i64 r.M.W.e, .bool r.M.C.s, .slice r.M.C.A r.M.C.n r.M.C.c, .int .i64 r.M.C.e, .bool r.M.A.s, .slice r.M.A.A r.M.A.n r.M.A.c, .int .i64 r.M.A.e, .bool r.h, .int .i64 r.mn, .int .i64 r.mx, .slice r.A r.n r.c] _ rg_ Try.underlying31 rfl (by kernel_rfl) ?_))
       refine (GreatPart_any v5 r (PRows.on hRr (later j1 (later j2 (later j4 j6)))) g4 G4.out).mono ?_
       rintro e' v7 ⟨rfl, j8⟩
       try clear hw
       clear rg_
       cases g4
       rotate_left
       · skip
         go_wp2
         go_ret
         exact ⟨rfl, (later j1 (later j2 (later j4 (later j6 j8))))⟩
       · skip
         have SL := Lib.hid (small_list La G1.out)
         have SP := Lib.hid (small_part hRp G3.out)
         have n28 := (greatF_not G1.out).1
         clear G1 G2 G3 G4
         go_upto_region 3 with fail
         try clear hw
         go_cut [9, 10] from 14 to 31 (fun sa_ sb_ wx => ∃ (A_1 : Option Addr) (c_1 : Nat) (gs_1 : List Fv) (q_1 : Pv) (g_1 : Nat), sa_ = .slice A_1 n0 c_1 ∧ sb_ = .pointer (some ⟨g_1, 0, none⟩) ∧ Below v7.heap.size v7 wx ∧ g_1 < wx.heap.size ∧ PBox wx g_1 q_1 ∧ Hid (TwinF fs gs_1) ∧ Hid (TwinP p q_1) ∧ LFs wx 0 wx.heap.size A_1 n0 gs_1 ∧ PRows wx v7.heap.size wx.heap.size q_1)
         case first =>
          try clear hw
          refine region_E (Keeps v7) [] (m := 7) (L := #[zF,zF,zF,zF,zF,zF,zF]) (by kernel_rfl) (by rfl) (by rfl) ?_
          have j10 : Below v7.heap.size v7 v7.drew := (Below.refl _ _).drew
          generalize v7.drew = v9 at *
          refine zE 0 #[zT,zF,zF,zF,zF,zF,zF] ?_ rfl ?hy1 ?rest1
          case hy1 => intro w; go_simp; (try with_reducible rfl)
          try simp only [Act.put, zp]
          have kpy11 : Keeps v7 v9 := fun p hp => Below.block j10 p hp
          refine readE (i := 2) (L := #[zT,zF,zT,zF,zF,zF,zF]) (v := .agg #[.bool p.M.S.s, .slice p.M.S.A p.M.S.n p.M.S.c, .int .i64 p.M.S.e, .bool p.M.W.s, .slice p.M.W.A p.M.W.n p.M.W.c, .int .i64 p.M.W.e, .bool p.M.C.s, .slice p.M.C.A p.M.C.n p.M.C.c, .int .i64 p.M.C.e, .bool p.M.A.s, .slice p.M.A.A p.M.A.n p.M.A.c, .int .i64 p.M.A.e, .bool p.h, .int .i64 p.mn, .int .i64 p.mx, .slice p.A p.n p.c]) rfl (by rfl) (by kernel_rfl) (by kernel_rfl) (by kernel_rfl) (fun _ _ _ h => h) (by assumption) (by rfl) ?y11 ?z12
          case y11 =>
           intro w' h1
           exact run_load_op 31 (.tmp 6) rfl (w.heap.size) 0 rfl (cells16 p) _ (PBox.range ((h1 _ (Nat.lt_of_lt_of_le S1 (Below.size (later j2 (later j4 (later j6 j8)))))).trans (box_later bp (later j2 (later j4 (later j6 j8))) S1))) Try.underlying31 rfl (by kernel_rfl)
          try simp only [Act.put, zp]
          refine E_of_C (fun (A : Act) a' w' => ∃ (v1_ v2_ : Value) (A_1 : Option Addr) (c_1 : Nat) (gs_1 : List Fv) (q_1 : Pv) (g_1 lo_ hi_ : Nat), a' = (((((A.put (some 28) (v1_)).put (some 30) (v2_)).put (some 29) (.slice A_1 n0 c_1)).put (some 31) (.agg #[.bool q_1.M.S.s, .slice q_1.M.S.A q_1.M.S.n q_1.M.S.c, .int .i64 q_1.M.S.e, .bool q_1.M.W.s, .slice q_1.M.W.A q_1.M.W.n q_1.M.W.c, .int .i64 q_1.M.W.e, .bool q_1.M.C.s, .slice q_1.M.C.A q_1.M.C.n q_1.M.C.c, .int .i64 q_1.M.C.e, .bool q_1.M.A.s, .slice q_1.M.A.A q_1.M.A.n q_1.M.A.c, .int .i64 q_1.M.A.e, .bool q_1.h, .int .i64 q_1.mn, .int .i64 q_1.mx, .slice q_1.A q_1.n q_1.c])).put (some 10) (.pointer (some ⟨g_1, 0, none⟩))) ∧ v7.heap.size ≤ lo_ ∧ v7.heap.size ≤ g_1 ∧ lo_ ≤ hi_ ∧ hi_ ≤ w'.heap.size ∧ (g_1 < lo_ ∨ hi_ ≤ g_1) ∧ PBox w' g_1 ZPv ∧ Below v7.heap.size v7 w' ∧ Hid (TwinF fs gs_1) ∧ Hid (TwinP p q_1) ∧ OwnF w' lo_ (.slice A_1 n0 c_1) n0 gs_1 ∧ Hid (∀ f ∈ gs_1, PRows w' lo_ hi_ f.P) ∧ Hid (∀ k, (Value.slice A_1 n0 c_1).ownBlock = some k → lo_ ≤ k ∧ k < hi_) ∧ PRows w' v7.heap.size w'.heap.size q_1 ∧ offP q_1 g_1) #[zT,zT,zT,zT,zT,zF,zF] 2 ?leaf ?tree
          case tree =>
           have zv9 : v7.heap.size ≤ v9.heap.size := Below.size j10
           refine stepC2 (i := 1) (j := 4) (Li := #[zT,zT,zT,zF,zF,zF,zF]) (Lj := #[zT,zF,zT,zF,zT,zF,zF]) rfl rfl (by rfl) (by rfl) (by kernel_rfl) (by rfl) (by rfl) (fun K hK => ?o1_1) (fun K hK => ?o1_4)
           case o1_1 =>
            go_simp
            go_at_call 14
            refine (RTwinF_any v9 A0 n0 c0 fs (LFs.on La (later j1 (later j2 (later j4 (later j6 (later j8 j10)))))) n28 SL.out).mono ?_
            rintro e' v13 ⟨A1, c1, gs, rfl, tf, j14, O1, r1⟩
            replace tf := Lib.hid tf
            have zv13 : v9.heap.size ≤ v13.heap.size := Below.size j14
            refine hK _ _ ⟨fun _ _ => fun p hp => Below.block (later j10 j14) p hp, ?_⟩
            clear hK K
            try simp only [Act.put, zp]
            refine stepC2 (i := 3) (j := 4) (Li := #[zT,zT,zT,zT,zF,zF,zF]) (Lj := #[zT,zT,zT,zF,zT,zF,zF]) rfl rfl (by rfl) (by rfl) (by kernel_rfl) (by rfl) (by rfl) (fun K hK => ?o2_3) (fun K hK => ?o2_4)
            case o2_3 =>
             go_simp
             go_at_call 15
             refine (RTwinPart_any v13 p (PRows.on hRp (later j1 (later j2 (later j4 (later j6 (later j8 (later j10 j14))))))) SP.out.1 SP.out.2).mono ?_
             rintro e' v15 ⟨q, rfl, tp, j16, Rq⟩
             replace tp := Lib.hid tp
             have zv15 : v13.heap.size ≤ v15.heap.size := Below.size j16
             refine hK _ _ ⟨fun _ _ => fun p hp => Below.block (later j10 (later j14 j16)) p hp, ?_⟩
             clear hK K
             try simp only [Act.put, zp]
             refine stepC (i := 4) (L := #[zT,zT,zT,zT,zT,zF,zF]) rfl (by rfl) (by kernel_rfl) (by rfl) (fun K hK => ?_)
             go_simp
             obtain ⟨v17, hc_, bz, j18, s19⟩ := alloc_zp v15
             rw [hc_]
             clear hc_
             have zv17 : v15.heap.size ≤ v17.heap.size := Below.size j18
             refine hK _ _ ⟨fun _ _ => fun p hp => Below.block (later j10 (later j14 (later j16 j18))) p hp, ?_⟩
             clear hK K
             try simp only [Act.put, zp]
             exact leafC ⟨_, _, A1, c1, gs, q, v15.heap.size, v9.heap.size, v13.heap.size, rfl, by omega, by omega, by omega, by omega, by omega, bz, (later j10 (later j14 (later j16 j18))), tf, tp, (OwnF.on O1 (later j16 j18)), Lib.hid (fun f hf => (r1 f hf).below (later j16 j18) (Nat.le_refl _)), Lib.hid (fun k hk => O1.own.lt k hk), PRows.more (Rq.below j18 (Nat.le_refl _)) (by omega) (by omega), offP_of Rq (by omega)⟩
            case o2_4 =>
             go_simp
             obtain ⟨v20, hc_, bz, j21, s22⟩ := alloc_zp v13
             rw [hc_]
             clear hc_
             have zv20 : v13.heap.size ≤ v20.heap.size := Below.size j21
             refine hK _ _ ⟨fun _ _ => fun p hp => Below.block (later j10 (later j14 j21)) p hp, ?_⟩
             clear hK K
             try simp only [Act.put, zp]
             refine stepC (i := 3) (L := #[zT,zT,zT,zT,zT,zF,zF]) rfl (by rfl) (by kernel_rfl) (by rfl) (fun K hK => ?_)
             go_simp
             go_at_call 15
             refine (RTwinPart_any v20 p (PRows.on hRp (later j1 (later j2 (later j4 (later j6 (later j8 (later j10 (later j14 j21)))))))) SP.out.1 SP.out.2).mono ?_
             rintro e' v23 ⟨q, rfl, tp, j24, Rq⟩
             replace tp := Lib.hid tp
             have zv23 : v20.heap.size ≤ v23.heap.size := Below.size j24
             refine hK _ _ ⟨fun _ _ => fun p hp => Below.block (later j10 (later j14 (later j21 j24))) p hp, ?_⟩
             clear hK K
             try simp only [Act.put, zp]
             exact leafC ⟨_, _, A1, c1, gs, q, v13.heap.size, v9.heap.size, v13.heap.size, rfl, by omega, by omega, by omega, by omega, by omega, (box_later bz j24 s22), (later j10 (later j14 (later j21 j24))), tf, tp, (OwnF.on O1 (later j21 j24)), Lib.hid (fun f hf => (r1 f hf).below (later j21 j24) (Nat.le_refl _)), Lib.hid (fun k hk => O1.own.lt k hk), PRows.more Rq (by omega) (by omega), offP_of Rq (by omega)⟩
           case o1_4 =>
            go_simp
            obtain ⟨v25, hc_, bz, j26, s27⟩ := alloc_zp v9
            rw [hc_]
            clear hc_
            have zv25 : v9.heap.size ≤ v25.heap.size := Below.size j26
            refine hK _ _ ⟨fun _ _ => fun p hp => Below.block (later j10 j26) p hp, ?_⟩
            clear hK K
            try simp only [Act.put, zp]
            refine stepC (i := 1) (L := #[zT,zT,zT,zF,zT,zF,zF]) rfl (by rfl) (by kernel_rfl) (by rfl) (fun K hK => ?_)
            go_simp
            go_at_call 14
            refine (RTwinF_any v25 A0 n0 c0 fs (LFs.on La (later j1 (later j2 (later j4 (later j6 (later j8 (later j10 j26))))))) n28 SL.out).mono ?_
            rintro e' v28 ⟨A1, c1, gs, rfl, tf, j29, O1, r1⟩
            replace tf := Lib.hid tf
            have zv28 : v25.heap.size ≤ v28.heap.size := Below.size j29
            refine hK _ _ ⟨fun _ _ => fun p hp => Below.block (later j10 (later j26 j29)) p hp, ?_⟩
            clear hK K
            try simp only [Act.put, zp]
            refine stepC (i := 3) (L := #[zT,zT,zT,zT,zT,zF,zF]) rfl (by rfl) (by kernel_rfl) (by rfl) (fun K hK => ?_)
            go_simp
            go_at_call 15
            refine (RTwinPart_any v28 p (PRows.on hRp (later j1 (later j2 (later j4 (later j6 (later j8 (later j10 (later j26 j29)))))))) SP.out.1 SP.out.2).mono ?_
            rintro e' v30 ⟨q, rfl, tp, j31, Rq⟩
            replace tp := Lib.hid tp
            have zv30 : v28.heap.size ≤ v30.heap.size := Below.size j31
            refine hK _ _ ⟨fun _ _ => fun p hp => Below.block (later j10 (later j26 (later j29 j31))) p hp, ?_⟩
            clear hK K
            try simp only [Act.put, zp]
            exact leafC ⟨_, _, A1, c1, gs, q, v9.heap.size, v25.heap.size, v28.heap.size, rfl, by omega, by omega, by omega, by omega, by omega, (box_later bz (later j29 j31) s27), (later j10 (later j26 (later j29 j31))), tf, tp, (OwnF.on O1 j31), Lib.hid (fun f hf => (r1 f hf).below j31 (Nat.le_refl _)), Lib.hid (fun k hk => O1.own.lt k hk), PRows.more Rq (by omega) (by omega), offP_of Rq (by omega)⟩
          case leaf =>
           rintro a' w' ⟨v1_, v2_, A_1, c_1, gs_1, q_1, g_1, lo1, hi1, rfl, l1_, l2_, l61, l3_, l41, bz, bw1, tf1, tp1, O1_, r1_, k1, Rq_, of_⟩
           try simp only [Act.put, zp]
           have lt4 := lt_of_heap bz
           have kp_ : Keeps v7 w' := fun p hp => Below.block bw1 p hp
           refine zE 5 #[zT,zT,zT,zT,zT,zT,zF] ?_ rfl ?hy7 ?rest7
           case hy7 => intro w; go_simp; (try with_reducible rfl)
           try simp only [Act.put, zp]
           obtain ⟨U1, hc_, bq_1, hb_, hf_, l5, l5'⟩ := part_into bz q_1
           refine stepK (i := 6) (L := #[zT,zT,zT,zT,zT,zT,zT]) rfl (by rfl) (by kernel_rfl) (by rfl) (fun K hK => ?_)
           refine wp_store_mid 31 (.tmp 10) (.tmp 31) rfl g_1 0 #[.bool q_1.M.S.s, .slice q_1.M.S.A q_1.M.S.n q_1.M.S.c, .int .i64 q_1.M.S.e, .bool q_1.M.W.s, .slice q_1.M.W.A q_1.M.W.n q_1.M.W.c, .int .i64 q_1.M.W.e, .bool q_1.M.C.s, .slice q_1.M.C.A q_1.M.C.n q_1.M.C.c, .int .i64 q_1.M.C.e, .bool q_1.M.A.s, .slice q_1.M.A.A q_1.M.A.n q_1.M.A.c, .int .i64 q_1.M.A.e, .bool q_1.h, .int .i64 q_1.mn, .int .i64 q_1.mx, .slice q_1.A q_1.n q_1.c] rfl rfl bz.there (by kernel_rfl) (all_oneCell_toArray (cells16_one q_1)) ?_
           rw [show w'.setCells g_1 0 (#[.bool q_1.M.S.s, .slice q_1.M.S.A q_1.M.S.n q_1.M.S.c, .int .i64 q_1.M.S.e, .bool q_1.M.W.s, .slice q_1.M.W.A q_1.M.W.n q_1.M.W.c, .int .i64 q_1.M.W.e, .bool q_1.M.C.s, .slice q_1.M.C.A q_1.M.C.n q_1.M.C.c, .int .i64 q_1.M.C.e, .bool q_1.M.A.s, .slice q_1.M.A.A q_1.M.A.n q_1.M.A.c, .int .i64 q_1.M.A.e, .bool q_1.h, .int .i64 q_1.mn, .int .i64 q_1.mx, .slice q_1.A q_1.n q_1.c] : Array Value).toList = U1 from hc_]
           clear hc_
           replace kp_ : Keeps v7 U1 := fun p hp => (hf_ p (by omega)).trans (kp_ p hp)
           replace bw1 := hb_ _ _ bw1 (by omega)
           refine hK _ _ ⟨fun _ _ => kp_, ?_⟩
           clear hK K kp_
           try simp only [Act.put]
           refine doneE (by kernel_rfl) ?_ _
           have sq_1 : g_1 < U1.heap.size := lt_of_heap bq_1
           have gb_ : (Value.slice A_1 n0 c_1).ownBlock ≠ some g_1 := fun e => by
            have := k1.out _ e
            omega
           have O1 : OwnF U1 lo1 (.slice A_1 n0 c_1) n0 gs_1 := O1_.far hb_ hf_ l5' gb_ (fun f hf => offP_of (r1_.out f hf) l41)
           have r1 : Hid (∀ f ∈ gs_1, PRows U1 lo1 hi1 f.P) := Lib.hid (copied r1_.out l41 hf_)
           have hRq_10 := (prows_far Rq_ of_ hf_).more (Nat.le_refl _) (by omega : w'.heap.size ≤ U1.heap.size)
           have hRq_1 := hRq_10.more (Nat.zero_le _) (Nat.le_refl _)
           have L1 := O1.lfs
           have lo1_ : v7.heap.size ≤ lo1 := l1_
           have hi1_ : hi1 ≤ U1.heap.size := by omega
           have lg1_ : v7.heap.size ≤ g_1 := l2_
           clear O1_ r1_ Rq_ of_ bz hb_ hf_ l5 l5' gb_ l1_ l2_ l3_ lt4
           go_wp2_with fail
           go_meet
           exact ⟨A_1, c_1, gs_1, q_1, g_1, rfl, rfl, bw1, sq_1, bq_1, tf1, tp1, L1, hRq_10⟩
         case rest =>
          obtain ⟨A_1, c_1, gs_1, q_1, g_1, rfl, rfl, bw1, sq_1, bq_1, tf1, tp1, L1, hRq_10⟩ := hcut
          obtain ⟨U1, hwc⟩ : ∃ W : World, W = wc := ⟨_, rfl⟩
          subst hwc
          have hRq_1 := hRq_10.more (Nat.zero_le _) (Nat.le_refl _)
          have SL1 := Lib.hid (twinF_small tf1.out SL.out)
          have SP1 := Lib.hid (twinP_small tp1.out SP.out)
          go_upto_region 4 with fail
          try clear hw
          go_cut [11, 12] from 32 to 35 (fun sa_ sb_ wx => ∃ (A_2 : Option Addr) (c_2 : Nat) (gs_2 : List Fv) (q_2 : Pv) (g_2 lo2 hi2 : Nat), sa_ = .slice A_2 n0 c_2 ∧ sb_ = .pointer (some ⟨g_2, 0, none⟩) ∧ Below U1.heap.size U1 wx ∧ g_2 < wx.heap.size ∧ PBox wx g_2 q_2 ∧ Hid (TwinF gs_1 gs_2) ∧ Hid (TwinP q_1 q_2) ∧ LFs wx 0 wx.heap.size A_2 n0 gs_2 ∧ PRows wx U1.heap.size wx.heap.size q_2 ∧ OwnF wx lo2 (.slice A_2 n0 c_2) n0 gs_2 ∧ Hid (∀ f ∈ gs_2, PRows wx lo2 hi2 f.P) ∧ Hid (∀ k, (Value.slice A_2 n0 c_2).ownBlock = some k → lo2 ≤ k ∧ k < hi2) ∧ U1.heap.size ≤ lo2 ∧ lo2 ≤ hi2 ∧ hi2 ≤ wx.heap.size ∧ U1.heap.size ≤ g_2 ∧ (g_2 < lo2 ∨ hi2 ≤ g_2))
          case first =>
           try clear hw
           refine region_E (Keeps U1) [] (m := 7) (L := #[zF,zF,zF,zF,zF,zF,zF]) (by kernel_rfl) (by rfl) (by rfl) ?_
           have j33 : Below U1.heap.size U1 U1.drew := (Below.refl _ _).drew
           generalize U1.drew = v32 at *
           refine zE 0 #[zT,zF,zF,zF,zF,zF,zF] ?_ rfl ?hy9 ?rest9
           case hy9 => intro w; go_simp; (try with_reducible rfl)
           try simp only [Act.put, zp]
           have kpy34 : Keeps U1 v32 := fun p hp => Below.block j33 p hp
           refine readE (i := 2) (L := #[zT,zF,zT,zF,zF,zF,zF]) (v := .agg #[.bool q_1.M.S.s, .slice q_1.M.S.A q_1.M.S.n q_1.M.S.c, .int .i64 q_1.M.S.e, .bool q_1.M.W.s, .slice q_1.M.W.A q_1.M.W.n q_1.M.W.c, .int .i64 q_1.M.W.e, .bool q_1.M.C.s, .slice q_1.M.C.A q_1.M.C.n q_1.M.C.c, .int .i64 q_1.M.C.e, .bool q_1.M.A.s, .slice q_1.M.A.A q_1.M.A.n q_1.M.A.c, .int .i64 q_1.M.A.e, .bool q_1.h, .int .i64 q_1.mn, .int .i64 q_1.mx, .slice q_1.A q_1.n q_1.c]) rfl (by rfl) (by kernel_rfl) (by kernel_rfl) (by kernel_rfl) (fun _ _ _ h => h) (by assumption) (by rfl) ?y34 ?z35
           case y34 =>
            intro w' h1
            exact run_load_op 31 (.tmp 10) rfl (g_1) 0 rfl (cells16 q_1) _ (PBox.range ((h1 _ sq_1).trans bq_1)) Try.underlying31 rfl (by kernel_rfl)
           try simp only [Act.put, zp]
           refine E_of_C (fun (A : Act) a' w' => ∃ (v1_ v2_ : Value) (A_2 : Option Addr) (c_2 : Nat) (gs_2 : List Fv) (q_2 : Pv) (g_2 lo_ hi_ : Nat), a' = (((((A.put (some 32) (v1_)).put (some 34) (v2_)).put (some 33) (.slice A_2 n0 c_2)).put (some 35) (.agg #[.bool q_2.M.S.s, .slice q_2.M.S.A q_2.M.S.n q_2.M.S.c, .int .i64 q_2.M.S.e, .bool q_2.M.W.s, .slice q_2.M.W.A q_2.M.W.n q_2.M.W.c, .int .i64 q_2.M.W.e, .bool q_2.M.C.s, .slice q_2.M.C.A q_2.M.C.n q_2.M.C.c, .int .i64 q_2.M.C.e, .bool q_2.M.A.s, .slice q_2.M.A.A q_2.M.A.n q_2.M.A.c, .int .i64 q_2.M.A.e, .bool q_2.h, .int .i64 q_2.mn, .int .i64 q_2.mx, .slice q_2.A q_2.n q_2.c])).put (some 12) (.pointer (some ⟨g_2, 0, none⟩))) ∧ U1.heap.size ≤ lo_ ∧ U1.heap.size ≤ g_2 ∧ lo_ ≤ hi_ ∧ hi_ ≤ w'.heap.size ∧ (g_2 < lo_ ∨ hi_ ≤ g_2) ∧ PBox w' g_2 ZPv ∧ Below U1.heap.size U1 w' ∧ Hid (TwinF gs_1 gs_2) ∧ Hid (TwinP q_1 q_2) ∧ OwnF w' lo_ (.slice A_2 n0 c_2) n0 gs_2 ∧ Hid (∀ f ∈ gs_2, PRows w' lo_ hi_ f.P) ∧ Hid (∀ k, (Value.slice A_2 n0 c_2).ownBlock = some k → lo_ ≤ k ∧ k < hi_) ∧ PRows w' U1.heap.size w'.heap.size q_2 ∧ offP q_2 g_2) #[zT,zT,zT,zT,zT,zF,zF] 2 ?leaf ?tree
           case tree =>
            have zv32 : U1.heap.size ≤ v32.heap.size := Below.size j33
            refine stepC2 (i := 1) (j := 4) (Li := #[zT,zT,zT,zF,zF,zF,zF]) (Lj := #[zT,zF,zT,zF,zT,zF,zF]) rfl rfl (by rfl) (by rfl) (by kernel_rfl) (by rfl) (by rfl) (fun K hK => ?o1_1) (fun K hK => ?o1_4)
            case o1_1 =>
             go_simp
             go_at_call 16
             refine (TwinF_any v32 A_1 n0 c_1 gs_1 (LFs.on L1 j33) n28 SL1.out).mono ?_
             rintro e' v36 ⟨A1, c1, gs, rfl, tf, j37, O1, r1⟩
             replace tf := Lib.hid tf
             have zv36 : v32.heap.size ≤ v36.heap.size := Below.size j37
             refine hK _ _ ⟨fun _ _ => fun p hp => Below.block (later j33 j37) p hp, ?_⟩
             clear hK K
             try simp only [Act.put, zp]
             refine stepC2 (i := 3) (j := 4) (Li := #[zT,zT,zT,zT,zF,zF,zF]) (Lj := #[zT,zT,zT,zF,zT,zF,zF]) rfl rfl (by rfl) (by rfl) (by kernel_rfl) (by rfl) (by rfl) (fun K hK => ?o2_3) (fun K hK => ?o2_4)
             case o2_3 =>
              go_simp
              go_at_call 17
              refine (TwinPart_any v36 q_1 (PRows.on hRq_1 (later j33 j37)) SP1.out.1 SP1.out.2).mono ?_
              rintro e' v38 ⟨q, rfl, tp, j39, Rq⟩
              replace tp := Lib.hid tp
              have zv38 : v36.heap.size ≤ v38.heap.size := Below.size j39
              refine hK _ _ ⟨fun _ _ => fun p hp => Below.block (later j33 (later j37 j39)) p hp, ?_⟩
              clear hK K
              try simp only [Act.put, zp]
              refine stepC (i := 4) (L := #[zT,zT,zT,zT,zT,zF,zF]) rfl (by rfl) (by kernel_rfl) (by rfl) (fun K hK => ?_)
              go_simp
              obtain ⟨v40, hc_, bz, j41, s42⟩ := alloc_zp v38
              rw [hc_]
              clear hc_
              have zv40 : v38.heap.size ≤ v40.heap.size := Below.size j41
              refine hK _ _ ⟨fun _ _ => fun p hp => Below.block (later j33 (later j37 (later j39 j41))) p hp, ?_⟩
              clear hK K
              try simp only [Act.put, zp]
              exact leafC ⟨_, _, A1, c1, gs, q, v38.heap.size, v32.heap.size, v36.heap.size, rfl, by omega, by omega, by omega, by omega, by omega, bz, (later j33 (later j37 (later j39 j41))), tf, tp, (OwnF.on O1 (later j39 j41)), Lib.hid (fun f hf => (r1 f hf).below (later j39 j41) (Nat.le_refl _)), Lib.hid (fun k hk => O1.own.lt k hk), PRows.more (Rq.below j41 (Nat.le_refl _)) (by omega) (by omega), offP_of Rq (by omega)⟩
             case o2_4 =>
              go_simp
              obtain ⟨v43, hc_, bz, j44, s45⟩ := alloc_zp v36
              rw [hc_]
              clear hc_
              have zv43 : v36.heap.size ≤ v43.heap.size := Below.size j44
              refine hK _ _ ⟨fun _ _ => fun p hp => Below.block (later j33 (later j37 j44)) p hp, ?_⟩
              clear hK K
              try simp only [Act.put, zp]
              refine stepC (i := 3) (L := #[zT,zT,zT,zT,zT,zF,zF]) rfl (by rfl) (by kernel_rfl) (by rfl) (fun K hK => ?_)
              go_simp
              go_at_call 17
              refine (TwinPart_any v43 q_1 (PRows.on hRq_1 (later j33 (later j37 j44))) SP1.out.1 SP1.out.2).mono ?_
              rintro e' v46 ⟨q, rfl, tp, j47, Rq⟩
              replace tp := Lib.hid tp
              have zv46 : v43.heap.size ≤ v46.heap.size := Below.size j47
              refine hK _ _ ⟨fun _ _ => fun p hp => Below.block (later j33 (later j37 (later j44 j47))) p hp, ?_⟩
              clear hK K
              try simp only [Act.put, zp]
              exact leafC ⟨_, _, A1, c1, gs, q, v36.heap.size, v32.heap.size, v36.heap.size, rfl, by omega, by omega, by omega, by omega, by omega, (box_later bz j47 s45), (later j33 (later j37 (later j44 j47))), tf, tp, (OwnF.on O1 (later j44 j47)), Lib.hid (fun f hf => (r1 f hf).below (later j44 j47) (Nat.le_refl _)), Lib.hid (fun k hk => O1.own.lt k hk), PRows.more Rq (by omega) (by omega), offP_of Rq (by omega)⟩
            case o1_4 =>
             go_simp
             obtain ⟨v48, hc_, bz, j49, s50⟩ := alloc_zp v32
             rw [hc_]
             clear hc_
             have zv48 : v32.heap.size ≤ v48.heap.size := Below.size j49
             refine hK _ _ ⟨fun _ _ => fun p hp => Below.block (later j33 j49) p hp, ?_⟩
             clear hK K
             try simp only [Act.put, zp]
             refine stepC (i := 1) (L := #[zT,zT,zT,zF,zT,zF,zF]) rfl (by rfl) (by kernel_rfl) (by rfl) (fun K hK => ?_)
             go_simp
             go_at_call 16
             refine (TwinF_any v48 A_1 n0 c_1 gs_1 (LFs.on L1 (later j33 j49)) n28 SL1.out).mono ?_
             rintro e' v51 ⟨A1, c1, gs, rfl, tf, j52, O1, r1⟩
             replace tf := Lib.hid tf
             have zv51 : v48.heap.size ≤ v51.heap.size := Below.size j52
             refine hK _ _ ⟨fun _ _ => fun p hp => Below.block (later j33 (later j49 j52)) p hp, ?_⟩
             clear hK K
             try simp only [Act.put, zp]
             refine stepC (i := 3) (L := #[zT,zT,zT,zT,zT,zF,zF]) rfl (by rfl) (by kernel_rfl) (by rfl) (fun K hK => ?_)
             go_simp
             go_at_call 17
             refine (TwinPart_any v51 q_1 (PRows.on hRq_1 (later j33 (later j49 j52))) SP1.out.1 SP1.out.2).mono ?_
             rintro e' v53 ⟨q, rfl, tp, j54, Rq⟩
             replace tp := Lib.hid tp
             have zv53 : v51.heap.size ≤ v53.heap.size := Below.size j54
             refine hK _ _ ⟨fun _ _ => fun p hp => Below.block (later j33 (later j49 (later j52 j54))) p hp, ?_⟩
             clear hK K
             try simp only [Act.put, zp]
             exact leafC ⟨_, _, A1, c1, gs, q, v32.heap.size, v48.heap.size, v51.heap.size, rfl, by omega, by omega, by omega, by omega, by omega, (box_later bz (later j52 j54) s50), (later j33 (later j49 (later j52 j54))), tf, tp, (OwnF.on O1 j54), Lib.hid (fun f hf => (r1 f hf).below j54 (Nat.le_refl _)), Lib.hid (fun k hk => O1.own.lt k hk), PRows.more Rq (by omega) (by omega), offP_of Rq (by omega)⟩
           case leaf =>
            rintro a' w' ⟨v1_, v2_, A_2, c_2, gs_2, q_2, g_2, lo2, hi2, rfl, l1_, l2_, l62, l3_, l42, bz, bw2, tf2, tp2, O1_, r1_, k2, Rq_, of_⟩
            try simp only [Act.put, zp]
            have lt4 := lt_of_heap bz
            have kp_ : Keeps U1 w' := fun p hp => Below.block bw2 p hp
            refine zE 5 #[zT,zT,zT,zT,zT,zT,zF] ?_ rfl ?hy15 ?rest15
            case hy15 => intro w; go_simp; (try with_reducible rfl)
            try simp only [Act.put, zp]
            obtain ⟨U2, hc_, bq_2, hb_, hf_, l5, l5'⟩ := part_into bz q_2
            refine stepK (i := 6) (L := #[zT,zT,zT,zT,zT,zT,zT]) rfl (by rfl) (by kernel_rfl) (by rfl) (fun K hK => ?_)
            refine wp_store_mid 31 (.tmp 12) (.tmp 35) rfl g_2 0 #[.bool q_2.M.S.s, .slice q_2.M.S.A q_2.M.S.n q_2.M.S.c, .int .i64 q_2.M.S.e, .bool q_2.M.W.s, .slice q_2.M.W.A q_2.M.W.n q_2.M.W.c, .int .i64 q_2.M.W.e, .bool q_2.M.C.s, .slice q_2.M.C.A q_2.M.C.n q_2.M.C.c, .int .i64 q_2.M.C.e, .bool q_2.M.A.s, .slice q_2.M.A.A q_2.M.A.n q_2.M.A.c, .int .i64 q_2.M.A.e, .bool q_2.h, .int .i64 q_2.mn, .int .i64 q_2.mx, .slice q_2.A q_2.n q_2.c] rfl rfl bz.there (by kernel_rfl) (all_oneCell_toArray (cells16_one q_2)) ?_
            rw [show w'.setCells g_2 0 (#[.bool q_2.M.S.s, .slice q_2.M.S.A q_2.M.S.n q_2.M.S.c, .int .i64 q_2.M.S.e, .bool q_2.M.W.s, .slice q_2.M.W.A q_2.M.W.n q_2.M.W.c, .int .i64 q_2.M.W.e, .bool q_2.M.C.s, .slice q_2.M.C.A q_2.M.C.n q_2.M.C.c, .int .i64 q_2.M.C.e, .bool q_2.M.A.s, .slice q_2.M.A.A q_2.M.A.n q_2.M.A.c, .int .i64 q_2.M.A.e, .bool q_2.h, .int .i64 q_2.mn, .int .i64 q_2.mx, .slice q_2.A q_2.n q_2.c] : Array Value).toList = U2 from hc_]
            clear hc_
            replace kp_ : Keeps U1 U2 := fun p hp => (hf_ p (by omega)).trans (kp_ p hp)
            replace bw2 := hb_ _ _ bw2 (by omega)
            refine hK _ _ ⟨fun _ _ => kp_, ?_⟩
            clear hK K kp_
            try simp only [Act.put]
            refine doneE (by kernel_rfl) ?_ _
            have sq_2 : g_2 < U2.heap.size := lt_of_heap bq_2
            have gb_ : (Value.slice A_2 n0 c_2).ownBlock ≠ some g_2 := fun e => by
             have := k2.out _ e
             omega
            have O2 : OwnF U2 lo2 (.slice A_2 n0 c_2) n0 gs_2 := O1_.far hb_ hf_ l5' gb_ (fun f hf => offP_of (r1_.out f hf) l42)
            have r2 : Hid (∀ f ∈ gs_2, PRows U2 lo2 hi2 f.P) := Lib.hid (copied r1_.out l42 hf_)
            have hRq_20 := (prows_far Rq_ of_ hf_).more (Nat.le_refl _) (by omega : w'.heap.size ≤ U2.heap.size)
            have hRq_2 := hRq_20.more (Nat.zero_le _) (Nat.le_refl _)
            have L2 := O2.lfs
            have lo2_ : U1.heap.size ≤ lo2 := l1_
            have hi2_ : hi2 ≤ U2.heap.size := by omega
            have lg2_ : U1.heap.size ≤ g_2 := l2_
            clear O1_ r1_ Rq_ of_ bz hb_ hf_ l5 l5' gb_ l1_ l2_ l3_ lt4
            go_wp2_with fail
            go_meet
            exact ⟨A_2, c_2, gs_2, q_2, g_2, lo2, hi2, rfl, rfl, bw2, sq_2, bq_2, tf2, tp2, L2, hRq_20, O2, r2, k2, lo2_, l62, hi2_, lg2_, l42⟩
          case rest =>
           obtain ⟨A_2, c_2, gs_2, q_2, g_2, lo2, hi2, rfl, rfl, bw2, sq_2, bq_2, tf2, tp2, L2, hRq_20, O2, r2, k2, lo2_, l62, hi2_, lg2_, l42⟩ := hcut
           obtain ⟨U2, hwc⟩ : ∃ W : World, W = wc := ⟨_, rfl⟩
           subst hwc
           have hRq_2 := hRq_20.more (Nat.zero_le _) (Nat.le_refl _)
           have SL2 := Lib.hid (twinF_small tf2.out SL1.out)
           have SP2 := Lib.hid (twinP_small tp2.out SP1.out)
           have e1 := Lib.hid ((sameF_at (hs := fs) (twinF_trans tf1.out tf2.out)).trans (sameF_refl fs))
           have e2 := Lib.hid ((twinP_left (r := p) (twinP_trans tp1.out tp2.out)).trans (sameP_refl p))
           have e3 := Lib.hid ((sameF_at (hs := os) tf1.out).trans D1.out)
           have e4 := Lib.hid ((twinP_left (r := r) tp1.out).trans D2.out)
           have e5 := Lib.hid (twinF_same tf1.out)
           have e6 := Lib.hid (twinP_same tp1.out)
           have ed1 : (d1 == d1) = true := beq_self_eq_true _
           have ed2 : (d2 == d2) = true := beq_self_eq_true _
           go_upto_region 5 with fail
           go_cut [13] from 36 to 71 (fun s_ wx => s_ = .bool true ∧ Below U2.heap.size U2 wx)
           case first =>
            try clear hw
            refine region_E (Keeps U2) [] (m := 37) (L := #[zF,zF,zF,zF,zF,zF,zF,zF,zF,zF,zF,zF,zF,zF,zF,zF,zF,zF,zF,zF,zF,zF,zF,zF,zF,zF,zF,zF,zF,zF,zF,zF,zF,zF,zF,zF,zF]) (by kernel_rfl) (by rfl) (by rfl) ?_
            have j56 : Below U2.heap.size U2 U2.drew := (Below.refl _ _).drew
            generalize U2.drew = v55 at *
            refine zE 0 #[zT,zF,zF,zF,zF,zF,zF,zF,zF,zF,zF,zF,zF,zF,zF,zF,zF,zF,zF,zF,zF,zF,zF,zF,zF,zF,zF,zF,zF,zF,zF,zF,zF,zF,zF,zF,zF] ?_ rfl ?hy17 ?rest17
            case hy17 => intro w; go_simp; (try with_reducible rfl)
            try simp only [Act.put, zp]
            refine zE 1 #[zT,zT,zF,zF,zF,zF,zF,zF,zF,zF,zF,zF,zF,zF,zF,zF,zF,zF,zF,zF,zF,zF,zF,zF,zF,zF,zF,zF,zF,zF,zF,zF,zF,zF,zF,zF,zF] ?_ rfl ?hy18 ?rest18
            case hy18 => intro w; go_simp; (try with_reducible rfl)
            try simp only [Act.put, zp]
            refine stepK (i := 2) (L := #[zT,zT,zT,zF,zF,zF,zF,zF,zF,zF,zF,zF,zF,zF,zF,zF,zF,zF,zF,zF,zF,zF,zF,zF,zF,zF,zF,zF,zF,zF,zF,zF,zF,zF,zF,zF,zF]) rfl (by rfl) (by kernel_rfl) (by rfl) (fun K hK => ?_)
            go_simp
            go_at_call 18
            refine (RSameF_any v55 A_2 A0 n0 c_2 n0 c0 gs_2 fs (LFs.on L2 j56) (LFs.on La (later j1 (later j2 (later j4 (later j6 (later j8 (later bw1 (later bw2 j56)))))))) true e1.out).mono ?_
            rintro e' v57 ⟨rfl, j58⟩
            refine hK _ _ ⟨fun _ _ => fun p hp => Below.block (later j56 j58) p hp, ?_⟩
            clear hK K
            try simp only []
            refine zE 3 #[zT,zT,zT,zT,zF,zF,zF,zF,zF,zF,zF,zF,zF,zF,zF,zF,zF,zF,zF,zF,zF,zF,zF,zF,zF,zF,zF,zF,zF,zF,zF,zF,zF,zF,zF,zF,zF] ?_ rfl ?hy20 ?rest20
            case hy20 => intro w; go_simp; (try with_reducible rfl)
            try simp only [Act.put, zp]
            have kpy59 : Keeps U2 v57 := fun p hp => Below.block (later j56 j58) p hp
            refine readE (i := 4) (L := #[zT,zT,zT,zT,zT,zF,zF,zF,zF,zF,zF,zF,zF,zF,zF,zF,zF,zF,zF,zF,zF,zF,zF,zF,zF,zF,zF,zF,zF,zF,zF,zF,zF,zF,zF,zF,zF]) (v := .agg #[.bool q_2.M.S.s, .slice q_2.M.S.A q_2.M.S.n q_2.M.S.c, .int .i64 q_2.M.S.e, .bool q_2.M.W.s, .slice q_2.M.W.A q_2.M.W.n q_2.M.W.c, .int .i64 q_2.M.W.e, .bool q_2.M.C.s, .slice q_2.M.C.A q_2.M.C.n q_2.M.C.c, .int .i64 q_2.M.C.e, .bool q_2.M.A.s, .slice q_2.M.A.A q_2.M.A.n q_2.M.A.c, .int .i64 q_2.M.A.e, .bool q_2.h, .int .i64 q_2.mn, .int .i64 q_2.mx, .slice q_2.A q_2.n q_2.c]) rfl (by rfl) (by kernel_rfl) (by kernel_rfl) (by kernel_rfl) (fun _ _ _ h => h) (by assumption) (by rfl) ?y59 ?z60
            case y59 =>
             intro w' h1
             exact run_load_op 31 (.tmp 12) rfl (g_2) 0 rfl (cells16 q_2) _ (PBox.range ((h1 _ sq_2).trans bq_2)) Try.underlying31 rfl (by kernel_rfl)
            try simp only [Act.put, zp]
            have kpy61 : Keeps U2 v57 := fun p hp => Below.block (later j56 j58) p hp
            refine readE (i := 5) (L := #[zT,zT,zT,zT,zT,zT,zF,zF,zF,zF,zF,zF,zF,zF,zF,zF,zF,zF,zF,zF,zF,zF,zF,zF,zF,zF,zF,zF,zF,zF,zF,zF,zF,zF,zF,zF,zF]) (v := .agg #[.bool p.M.S.s, .slice p.M.S.A p.M.S.n p.M.S.c, .int .i64 p.M.S.e, .bool p.M.W.s, .slice p.M.W.A p.M.W.n p.M.W.c, .int .i64 p.M.W.e, .bool p.M.C.s, .slice p.M.C.A p.M.C.n p.M.C.c, .int .i64 p.M.C.e, .bool p.M.A.s, .slice p.M.A.A p.M.A.n p.M.A.c, .int .i64 p.M.A.e, .bool p.h, .int .i64 p.mn, .int .i64 p.mx, .slice p.A p.n p.c]) rfl (by rfl) (by kernel_rfl) (by kernel_rfl) (by kernel_rfl) (fun _ _ _ h => h) (by assumption) (by rfl) ?y61 ?z62
            case y61 =>
             intro w' h1
             exact run_load_op 31 (.tmp 6) rfl (w.heap.size) 0 rfl (cells16 p) _ (PBox.range ((h1 _ (Nat.lt_of_lt_of_le S1 (Below.size (later j2 (later j4 (later j6 (later j8 (later bw1 bw2)))))))).trans (box_later bp (later j2 (later j4 (later j6 (later j8 (later bw1 bw2))))) S1))) Try.underlying31 rfl (by kernel_rfl)
            try simp only [Act.put, zp]
            refine stepK (i := 6) (L := #[zT,zT,zT,zT,zT,zT,zT,zF,zF,zF,zF,zF,zF,zF,zF,zF,zF,zF,zF,zF,zF,zF,zF,zF,zF,zF,zF,zF,zF,zF,zF,zF,zF,zF,zF,zF,zF]) rfl (by rfl) (by kernel_rfl) (by rfl) (fun K hK => ?_)
            go_simp
            go_at_call 19
            refine (RSamePart_any v57 q_2 p (PRows.on hRq_2 (later j56 j58)) (PRows.on hRp (later j1 (later j2 (later j4 (later j6 (later j8 (later bw1 (later bw2 (later j56 j58))))))))) true e2.out).mono ?_
            rintro e' v63 ⟨rfl, j64⟩
            refine hK _ _ ⟨fun _ _ => fun p hp => Below.block (later j56 (later j58 j64)) p hp, ?_⟩
            clear hK K
            try simp only []
            refine zE 7 #[zT,zT,zT,zT,zT,zT,zT,zT,zF,zF,zF,zF,zF,zF,zF,zF,zF,zF,zF,zF,zF,zF,zF,zF,zF,zF,zF,zF,zF,zF,zF,zF,zF,zF,zF,zF,zF] ?_ rfl ?hy24 ?rest24
            case hy24 => intro w; go_simp; (try with_reducible rfl)
            try simp only [Act.put, zp]
            refine zE 8 #[zT,zT,zT,zT,zT,zT,zT,zT,zT,zF,zF,zF,zF,zF,zF,zF,zF,zF,zF,zF,zF,zF,zF,zF,zF,zF,zF,zF,zF,zF,zF,zF,zF,zF,zF,zF,zF] ?_ rfl ?hy25 ?rest25
            case hy25 => intro w; go_simp; (try with_reducible rfl)
            try simp only [Act.put, zp]
            refine zE 9 #[zT,zT,zT,zT,zT,zT,zT,zT,zT,zT,zF,zF,zF,zF,zF,zF,zF,zF,zF,zF,zF,zF,zF,zF,zF,zF,zF,zF,zF,zF,zF,zF,zF,zF,zF,zF,zF] ?_ rfl ?hy26 ?rest26
            case hy26 => intro w; go_simp; (try with_reducible rfl)
            try simp only [Act.put, zp]
            refine zE 10 #[zT,zT,zT,zT,zT,zT,zT,zT,zT,zT,zT,zF,zF,zF,zF,zF,zF,zF,zF,zF,zF,zF,zF,zF,zF,zF,zF,zF,zF,zF,zF,zF,zF,zF,zF,zF,zF] ?_ rfl ?hy27 ?rest27
            case hy27 => intro w; go_simp; (try with_reducible rfl)
            try simp only [Act.put, zp]
            refine zE 12 #[zT,zT,zT,zT,zT,zT,zT,zT,zT,zT,zT,zF,zT,zF,zF,zF,zF,zF,zF,zF,zF,zF,zF,zF,zF,zF,zF,zF,zF,zF,zF,zF,zF,zF,zF,zF,zF] ?_ rfl ?hy28 ?rest28
            case hy28 => intro w; go_simp; (try with_reducible rfl)
            try simp only [Act.put, zp]
            refine zE 13 #[zT,zT,zT,zT,zT,zT,zT,zT,zT,zT,zT,zF,zT,zT,zF,zF,zF,zF,zF,zF,zF,zF,zF,zF,zF,zF,zF,zF,zF,zF,zF,zF,zF,zF,zF,zF,zF] ?_ rfl ?hy29 ?rest29
            case hy29 => intro w; go_simp; (try with_reducible rfl)
            try simp only [Act.put, zp]
            refine stepK (i := 11) (L := #[zT,zT,zT,zT,zT,zT,zT,zT,zT,zT,zT,zT,zT,zT,zF,zF,zF,zF,zF,zF,zF,zF,zF,zF,zF,zF,zF,zF,zF,zF,zF,zF,zF,zF,zF,zF,zF]) rfl (by rfl) (by kernel_rfl) (by rfl) (fun K hK => ?_)
            go_simp
            go_at_call 20
            refine (SameF_any v63 A_1 A1 n0 c_1 n1 c1 gs_1 os (LFs.on L1 (later bw2 (later j56 (later j58 j64)))) (LFs.on Lo (later j1 (later j2 (later j4 (later j6 (later j8 (later bw1 (later bw2 (later j56 (later j58 j64)))))))))) d1 e3.out).mono ?_
            rintro e' v65 ⟨rfl, j66⟩
            refine hK _ _ ⟨fun _ _ => fun p hp => Below.block (later j56 (later j58 (later j64 j66))) p hp, ?_⟩
            clear hK K
            try simp only []
            refine stepK (i := 14) (L := #[zT,zT,zT,zT,zT,zT,zT,zT,zT,zT,zT,zT,zT,zT,zT,zF,zF,zF,zF,zF,zF,zF,zF,zF,zF,zF,zF,zF,zF,zF,zF,zF,zF,zF,zF,zF,zF]) rfl (by rfl) (by kernel_rfl) (by rfl) (fun K hK => ?_)
            go_simp
            go_at_call 18
            refine (RSameF_any v65 A0 A1 n0 c0 n1 c1 fs os (LFs.on La (later j1 (later j2 (later j4 (later j6 (later j8 (later bw1 (later bw2 (later j56 (later j58 (later j64 j66))))))))))) (LFs.on Lo (later j1 (later j2 (later j4 (later j6 (later j8 (later bw1 (later bw2 (later j56 (later j58 (later j64 j66))))))))))) d1 D1.out).mono ?_
            rintro e' v67 ⟨rfl, j68⟩
            refine hK _ _ ⟨fun _ _ => fun p hp => Below.block (later j56 (later j58 (later j64 (later j66 j68)))) p hp, ?_⟩
            clear hK K
            try simp only []
            refine zE 15 #[zT,zT,zT,zT,zT,zT,zT,zT,zT,zT,zT,zT,zT,zT,zT,zT,zF,zF,zF,zF,zF,zF,zF,zF,zF,zF,zF,zF,zF,zF,zF,zF,zF,zF,zF,zF,zF] ?_ rfl ?hy32 ?rest32
            case hy32 => intro w; go_simp; (try with_reducible rfl)
            try simp only [Act.put, zp]
            refine zE 16 #[zT,zT,zT,zT,zT,zT,zT,zT,zT,zT,zT,zT,zT,zT,zT,zT,zT,zF,zF,zF,zF,zF,zF,zF,zF,zF,zF,zF,zF,zF,zF,zF,zF,zF,zF,zF,zF] ?_ rfl ?hy33 ?rest33
            case hy33 => intro w; go_simp; (try with_reducible rfl)
            try simp only [Act.put, zp]
            refine zE 17 #[zT,zT,zT,zT,zT,zT,zT,zT,zT,zT,zT,zT,zT,zT,zT,zT,zT,zT,zF,zF,zF,zF,zF,zF,zF,zF,zF,zF,zF,zF,zF,zF,zF,zF,zF,zF,zF] ?_ rfl ?hy34 ?rest34
            case hy34 => intro w; go_simp; (try with_reducible rfl)
            try simp only [Act.put, zp]
            have kpy69 : Keeps U2 v67 := fun p hp => Below.block (later j56 (later j58 (later j64 (later j66 j68)))) p hp
            refine readE (i := 18) (L := #[zT,zT,zT,zT,zT,zT,zT,zT,zT,zT,zT,zT,zT,zT,zT,zT,zT,zT,zT,zF,zF,zF,zF,zF,zF,zF,zF,zF,zF,zF,zF,zF,zF,zF,zF,zF,zF]) (v := .agg #[.bool q_1.M.S.s, .slice q_1.M.S.A q_1.M.S.n q_1.M.S.c, .int .i64 q_1.M.S.e, .bool q_1.M.W.s, .slice q_1.M.W.A q_1.M.W.n q_1.M.W.c, .int .i64 q_1.M.W.e, .bool q_1.M.C.s, .slice q_1.M.C.A q_1.M.C.n q_1.M.C.c, .int .i64 q_1.M.C.e, .bool q_1.M.A.s, .slice q_1.M.A.A q_1.M.A.n q_1.M.A.c, .int .i64 q_1.M.A.e, .bool q_1.h, .int .i64 q_1.mn, .int .i64 q_1.mx, .slice q_1.A q_1.n q_1.c]) rfl (by rfl) (by kernel_rfl) (by kernel_rfl) (by kernel_rfl) (fun _ _ _ h => h) (by assumption) (by rfl) ?y69 ?z70
            case y69 =>
             intro w' h1
             exact run_load_op 31 (.tmp 10) rfl (g_1) 0 rfl (cells16 q_1) _ (PBox.range ((h1 _ (Nat.lt_of_lt_of_le sq_1 (Below.size bw2))).trans (box_later bq_1 bw2 sq_1))) Try.underlying31 rfl (by kernel_rfl)
            try simp only [Act.put, zp]
            have kpy71 : Keeps U2 v67 := fun p hp => Below.block (later j56 (later j58 (later j64 (later j66 j68)))) p hp
            refine readE (i := 19) (L := #[zT,zT,zT,zT,zT,zT,zT,zT,zT,zT,zT,zT,zT,zT,zT,zT,zT,zT,zT,zT,zF,zF,zF,zF,zF,zF,zF,zF,zF,zF,zF,zF,zF,zF,zF,zF,zF]) (v := .agg #[.bool r.M.S.s, .slice r.M.S.A r.M.S.n r.M.S.c, .int .i64 r.M.S.e, .bool r.M.W.s, .slice r.M.W.A r.M.W.n r.M.W.c, .int .i64 r.M.W.e, .bool r.M.C.s, .slice r.M.C.A r.M.C.n r.M.C.c, .int .i64 r.M.C.e, .bool r.M.A.s, .slice r.M.A.A r.M.A.n r.M.A.c, .int .i64 r.M.A.e, .bool r.h, .int .i64 r.mn, .int .i64 r.mx, .slice r.A r.n r.c]) rfl (by rfl) (by kernel_rfl) (by kernel_rfl) (by kernel_rfl) (fun _ _ _ h => h) (by assumption) (by rfl) ?y71 ?z72
            case y71 =>
             intro w' h1
             exact run_load_op 31 (.tmp 7) rfl (w.heap.size + 1) 0 rfl (cells16 r) _ (PBox.range ((h1 _ (Nat.lt_of_lt_of_le S2 (Below.size (later j2 (later j4 (later j6 (later j8 (later bw1 bw2)))))))).trans (box_later br (later j2 (later j4 (later j6 (later j8 (later bw1 bw2))))) S2))) Try.underlying31 rfl (by kernel_rfl)
            try simp only [Act.put, zp]
            have kpy73 : Keeps U2 v67 := fun p hp => Below.block (later j56 (later j58 (later j64 (later j66 j68)))) p hp
            refine readE (i := 21) (L := #[zT,zT,zT,zT,zT,zT,zT,zT,zT,zT,zT,zT,zT,zT,zT,zT,zT,zT,zT,zT,zF,zT,zF,zF,zF,zF,zF,zF,zF,zF,zF,zF,zF,zF,zF,zF,zF]) (v := .agg #[.bool p.M.S.s, .slice p.M.S.A p.M.S.n p.M.S.c, .int .i64 p.M.S.e, .bool p.M.W.s, .slice p.M.W.A p.M.W.n p.M.W.c, .int .i64 p.M.W.e, .bool p.M.C.s, .slice p.M.C.A p.M.C.n p.M.C.c, .int .i64 p.M.C.e, .bool p.M.A.s, .slice p.M.A.A p.M.A.n p.M.A.c, .int .i64 p.M.A.e, .bool p.h, .int .i64 p.mn, .int .i64 p.mx, .slice p.A p.n p.c]) rfl (by rfl) (by kernel_rfl) (by kernel_rfl) (by kernel_rfl) (fun _ _ _ h => h) (by assumption) (by rfl) ?y73 ?z74
            case y73 =>
             intro w' h1
             exact run_load_op 31 (.tmp 6) rfl (w.heap.size) 0 rfl (cells16 p) _ (PBox.range ((h1 _ (Nat.lt_of_lt_of_le S1 (Below.size (later j2 (later j4 (later j6 (later j8 (later bw1 bw2)))))))).trans (box_later bp (later j2 (later j4 (later j6 (later j8 (later bw1 bw2))))) S1))) Try.underlying31 rfl (by kernel_rfl)
            try simp only [Act.put, zp]
            have kpy75 : Keeps U2 v67 := fun p hp => Below.block (later j56 (later j58 (later j64 (later j66 j68)))) p hp
            refine readE (i := 22) (L := #[zT,zT,zT,zT,zT,zT,zT,zT,zT,zT,zT,zT,zT,zT,zT,zT,zT,zT,zT,zT,zF,zT,zT,zF,zF,zF,zF,zF,zF,zF,zF,zF,zF,zF,zF,zF,zF]) (v := .agg #[.bool r.M.S.s, .slice r.M.S.A r.M.S.n r.M.S.c, .int .i64 r.M.S.e, .bool r.M.W.s, .slice r.M.W.A r.M.W.n r.M.W.c, .int .i64 r.M.W.e, .bool r.M.C.s, .slice r.M.C.A r.M.C.n r.M.C.c, .int .i64 r.M.C.e, .bool r.M.A.s, .slice r.M.A.A r.M.A.n r.M.A.c, .int .i64 r.M.A.e, .bool r.h, .int .i64 r.mn, .int .i64 r.mx, .slice r.A r.n r.c]) rfl (by rfl) (by kernel_rfl) (by kernel_rfl) (by kernel_rfl) (fun _ _ _ h => h) (by assumption) (by rfl) ?y75 ?z76
            case y75 =>
             intro w' h1
             exact run_load_op 31 (.tmp 7) rfl (w.heap.size + 1) 0 rfl (cells16 r) _ (PBox.range ((h1 _ (Nat.lt_of_lt_of_le S2 (Below.size (later j2 (later j4 (later j6 (later j8 (later bw1 bw2)))))))).trans (box_later br (later j2 (later j4 (later j6 (later j8 (later bw1 bw2))))) S2))) Try.underlying31 rfl (by kernel_rfl)
            try simp only [Act.put, zp]
            refine stepK (i := 20) (L := #[zT,zT,zT,zT,zT,zT,zT,zT,zT,zT,zT,zT,zT,zT,zT,zT,zT,zT,zT,zT,zT,zT,zT,zF,zF,zF,zF,zF,zF,zF,zF,zF,zF,zF,zF,zF,zF]) rfl (by rfl) (by kernel_rfl) (by rfl) (fun K hK => ?_)
            go_simp
            go_at_call 21
            refine (SamePart_any v67 q_1 r (PRows.on hRq_1 (later bw2 (later j56 (later j58 (later j64 (later j66 j68)))))) (PRows.on hRr (later j1 (later j2 (later j4 (later j6 (later j8 (later bw1 (later bw2 (later j56 (later j58 (later j64 (later j66 j68)))))))))))) d2 e4.out).mono ?_
            rintro e' v77 ⟨rfl, j78⟩
            refine hK _ _ ⟨fun _ _ => fun p hp => Below.block (later j56 (later j58 (later j64 (later j66 (later j68 j78))))) p hp, ?_⟩
            clear hK K
            try simp only []
            refine stepK (i := 23) (L := #[zT,zT,zT,zT,zT,zT,zT,zT,zT,zT,zT,zT,zT,zT,zT,zT,zT,zT,zT,zT,zT,zT,zT,zT,zF,zF,zF,zF,zF,zF,zF,zF,zF,zF,zF,zF,zF]) rfl (by rfl) (by kernel_rfl) (by rfl) (fun K hK => ?_)
            go_simp
            go_at_call 19
            refine (RSamePart_any v77 p r (PRows.on hRp (later j1 (later j2 (later j4 (later j6 (later j8 (later bw1 (later bw2 (later j56 (later j58 (later j64 (later j66 (later j68 j78))))))))))))) (PRows.on hRr (later j1 (later j2 (later j4 (later j6 (later j8 (later bw1 (later bw2 (later j56 (later j58 (later j64 (later j66 (later j68 j78))))))))))))) d2 D2.out).mono ?_
            rintro e' v79 ⟨rfl, j80⟩
            refine hK _ _ ⟨fun _ _ => fun p hp => Below.block (later j56 (later j58 (later j64 (later j66 (later j68 (later j78 j80)))))) p hp, ?_⟩
            clear hK K
            try simp only []
            refine zE 24 #[zT,zT,zT,zT,zT,zT,zT,zT,zT,zT,zT,zT,zT,zT,zT,zT,zT,zT,zT,zT,zT,zT,zT,zT,zT,zF,zF,zF,zF,zF,zF,zF,zF,zF,zF,zF,zF] ?_ rfl ?hy41 ?rest41
            case hy41 => intro w; go_simp; (try with_reducible rfl)
            try simp only [Act.put, zp]
            refine zE 25 #[zT,zT,zT,zT,zT,zT,zT,zT,zT,zT,zT,zT,zT,zT,zT,zT,zT,zT,zT,zT,zT,zT,zT,zT,zT,zT,zF,zF,zF,zF,zF,zF,zF,zF,zF,zF,zF] ?_ rfl ?hy42 ?rest42
            case hy42 => intro w; go_simp; (try with_reducible rfl)
            try simp only [Act.put, zp]
            refine zE 26 #[zT,zT,zT,zT,zT,zT,zT,zT,zT,zT,zT,zT,zT,zT,zT,zT,zT,zT,zT,zT,zT,zT,zT,zT,zT,zT,zT,zF,zF,zF,zF,zF,zF,zF,zF,zF,zF] ?_ rfl ?hy43 ?rest43
            case hy43 => intro w; go_simp; (try with_reducible rfl)
            try simp only [Act.put, zp]
            refine zE 27 #[zT,zT,zT,zT,zT,zT,zT,zT,zT,zT,zT,zT,zT,zT,zT,zT,zT,zT,zT,zT,zT,zT,zT,zT,zT,zT,zT,zT,zF,zF,zF,zF,zF,zF,zF,zF,zF] ?_ rfl ?hy44 ?rest44
            case hy44 => intro w; go_simp; (try with_reducible rfl)
            try simp only [Act.put, zp]
            refine zE 28 #[zT,zT,zT,zT,zT,zT,zT,zT,zT,zT,zT,zT,zT,zT,zT,zT,zT,zT,zT,zT,zT,zT,zT,zT,zT,zT,zT,zT,zT,zF,zF,zF,zF,zF,zF,zF,zF] ?_ rfl ?hy45 ?rest45
            case hy45 => intro w; go_simp; (try with_reducible rfl)
            try simp only [Act.put, zp]
            refine stepK (i := 29) (L := #[zT,zT,zT,zT,zT,zT,zT,zT,zT,zT,zT,zT,zT,zT,zT,zT,zT,zT,zT,zT,zT,zT,zT,zT,zT,zT,zT,zT,zT,zT,zF,zF,zF,zF,zF,zF,zF]) rfl (by rfl) (by kernel_rfl) (by rfl) (fun K hK => ?_)
            go_simp
            go_at_call 20
            refine (SameF_any v79 A_1 A0 n0 c_1 n0 c0 gs_1 fs (LFs.on L1 (later bw2 (later j56 (later j58 (later j64 (later j66 (later j68 (later j78 j80)))))))) (LFs.on La (later j1 (later j2 (later j4 (later j6 (later j8 (later bw1 (later bw2 (later j56 (later j58 (later j64 (later j66 (later j68 (later j78 j80)))))))))))))) true e5.out).mono ?_
            rintro e' v81 ⟨rfl, j82⟩
            refine hK _ _ ⟨fun _ _ => fun p hp => Below.block (later j56 (later j58 (later j64 (later j66 (later j68 (later j78 (later j80 j82))))))) p hp, ?_⟩
            clear hK K
            try simp only []
            refine zE 30 #[zT,zT,zT,zT,zT,zT,zT,zT,zT,zT,zT,zT,zT,zT,zT,zT,zT,zT,zT,zT,zT,zT,zT,zT,zT,zT,zT,zT,zT,zT,zT,zF,zF,zF,zF,zF,zF] ?_ rfl ?hy47 ?rest47
            case hy47 => intro w; go_simp; (try with_reducible rfl)
            try simp only [Act.put, zp]
            refine zE 31 #[zT,zT,zT,zT,zT,zT,zT,zT,zT,zT,zT,zT,zT,zT,zT,zT,zT,zT,zT,zT,zT,zT,zT,zT,zT,zT,zT,zT,zT,zT,zT,zT,zF,zF,zF,zF,zF] ?_ rfl ?hy48 ?rest48
            case hy48 => intro w; go_simp; (try with_reducible rfl)
            try simp only [Act.put, zp]
            have kpy83 : Keeps U2 v81 := fun p hp => Below.block (later j56 (later j58 (later j64 (later j66 (later j68 (later j78 (later j80 j82))))))) p hp
            refine readE (i := 32) (L := #[zT,zT,zT,zT,zT,zT,zT,zT,zT,zT,zT,zT,zT,zT,zT,zT,zT,zT,zT,zT,zT,zT,zT,zT,zT,zT,zT,zT,zT,zT,zT,zT,zT,zF,zF,zF,zF]) (v := .agg #[.bool q_1.M.S.s, .slice q_1.M.S.A q_1.M.S.n q_1.M.S.c, .int .i64 q_1.M.S.e, .bool q_1.M.W.s, .slice q_1.M.W.A q_1.M.W.n q_1.M.W.c, .int .i64 q_1.M.W.e, .bool q_1.M.C.s, .slice q_1.M.C.A q_1.M.C.n q_1.M.C.c, .int .i64 q_1.M.C.e, .bool q_1.M.A.s, .slice q_1.M.A.A q_1.M.A.n q_1.M.A.c, .int .i64 q_1.M.A.e, .bool q_1.h, .int .i64 q_1.mn, .int .i64 q_1.mx, .slice q_1.A q_1.n q_1.c]) rfl (by rfl) (by kernel_rfl) (by kernel_rfl) (by kernel_rfl) (fun _ _ _ h => h) (by assumption) (by rfl) ?y83 ?z84
            case y83 =>
             intro w' h1
             exact run_load_op 31 (.tmp 10) rfl (g_1) 0 rfl (cells16 q_1) _ (PBox.range ((h1 _ (Nat.lt_of_lt_of_le sq_1 (Below.size bw2))).trans (box_later bq_1 bw2 sq_1))) Try.underlying31 rfl (by kernel_rfl)
            try simp only [Act.put, zp]
            have kpy85 : Keeps U2 v81 := fun p hp => Below.block (later j56 (later j58 (later j64 (later j66 (later j68 (later j78 (later j80 j82))))))) p hp
            refine readE (i := 33) (L := #[zT,zT,zT,zT,zT,zT,zT,zT,zT,zT,zT,zT,zT,zT,zT,zT,zT,zT,zT,zT,zT,zT,zT,zT,zT,zT,zT,zT,zT,zT,zT,zT,zT,zT,zF,zF,zF]) (v := .agg #[.bool p.M.S.s, .slice p.M.S.A p.M.S.n p.M.S.c, .int .i64 p.M.S.e, .bool p.M.W.s, .slice p.M.W.A p.M.W.n p.M.W.c, .int .i64 p.M.W.e, .bool p.M.C.s, .slice p.M.C.A p.M.C.n p.M.C.c, .int .i64 p.M.C.e, .bool p.M.A.s, .slice p.M.A.A p.M.A.n p.M.A.c, .int .i64 p.M.A.e, .bool p.h, .int .i64 p.mn, .int .i64 p.mx, .slice p.A p.n p.c]) rfl (by rfl) (by kernel_rfl) (by kernel_rfl) (by kernel_rfl) (fun _ _ _ h => h) (by assumption) (by rfl) ?y85 ?z86
            case y85 =>
             intro w' h1
             exact run_load_op 31 (.tmp 6) rfl (w.heap.size) 0 rfl (cells16 p) _ (PBox.range ((h1 _ (Nat.lt_of_lt_of_le S1 (Below.size (later j2 (later j4 (later j6 (later j8 (later bw1 bw2)))))))).trans (box_later bp (later j2 (later j4 (later j6 (later j8 (later bw1 bw2))))) S1))) Try.underlying31 rfl (by kernel_rfl)
            try simp only [Act.put, zp]
            refine stepK (i := 34) (L := #[zT,zT,zT,zT,zT,zT,zT,zT,zT,zT,zT,zT,zT,zT,zT,zT,zT,zT,zT,zT,zT,zT,zT,zT,zT,zT,zT,zT,zT,zT,zT,zT,zT,zT,zT,zF,zF]) rfl (by rfl) (by kernel_rfl) (by rfl) (fun K hK => ?_)
            go_simp
            go_at_call 21
            refine (SamePart_any v81 q_1 p (PRows.on hRq_1 (later bw2 (later j56 (later j58 (later j64 (later j66 (later j68 (later j78 (later j80 j82))))))))) (PRows.on hRp (later j1 (later j2 (later j4 (later j6 (later j8 (later bw1 (later bw2 (later j56 (later j58 (later j64 (later j66 (later j68 (later j78 (later j80 j82))))))))))))))) true e6.out).mono ?_
            rintro e' v87 ⟨rfl, j88⟩
            refine hK _ _ ⟨fun _ _ => fun p hp => Below.block (later j56 (later j58 (later j64 (later j66 (later j68 (later j78 (later j80 (later j82 j88)))))))) p hp, ?_⟩
            clear hK K
            try simp only []
            refine zE 35 #[zT,zT,zT,zT,zT,zT,zT,zT,zT,zT,zT,zT,zT,zT,zT,zT,zT,zT,zT,zT,zT,zT,zT,zT,zT,zT,zT,zT,zT,zT,zT,zT,zT,zT,zT,zT,zF] ?_ rfl ?hy52 ?rest52
            case hy52 => intro w; go_simp; (try with_reducible rfl)
            try simp only [Act.put, zp]
            refine zE 36 #[zT,zT,zT,zT,zT,zT,zT,zT,zT,zT,zT,zT,zT,zT,zT,zT,zT,zT,zT,zT,zT,zT,zT,zT,zT,zT,zT,zT,zT,zT,zT,zT,zT,zT,zT,zT,zT] ?_ rfl ?hy53 ?rest53
            case hy53 => intro w; go_simp; (try with_reducible rfl)
            try simp only [Act.put, zp]
            refine doneE (by kernel_rfl) ?_ _
            go_wp2_with fail
            go_meet
            exact ⟨rfl, (later j56 (later j58 (later j64 (later j66 (later j68 (later j78 (later j80 (later j82 j88))))))))⟩
           case rest =>
            obtain ⟨rfl, jX⟩ := hcut
            obtain ⟨X5, hwc⟩ : ∃ W : World, W = wc := ⟨_, rfl⟩
            subst hwc
            have sx := Below.size jX
            have OX := (OwnF.on O2 jX)
            have rX : ∀ f ∈ gs_2, PRows X5 lo2 hi2 f.P := fun f hf => (r2.out f hf).below jX hi2_
            have bX := (box_later bq_2 jX sq_2)
            have hX := hRq_20.below jX (Nat.le_refl _)
            have fL1 := LFs.below L1 (later bw2 jX) (Nat.le_refl _)
            have fLa := LFs.below La (later j1 (later j2 (later j4 (later j6 (later j8 (later bw1 (later bw2 jX))))))) (Nat.le_refl _)
            have fp := PRows.below hRp (later j1 (later j2 (later j4 (later j6 (later j8 (later bw1 (later bw2 jX))))))) (Nat.le_refl _)
            have fq := PRows.below hRq_1 (later bw2 jX) (Nat.le_refl _)
            have fbp := (box_later bp (later j2 (later j4 (later j6 (later j8 (later bw1 (later bw2 jX)))))) S1)
            have fbq := (box_later bq_1 (later bw2 jX) sq_1)
            have fin := (later j1 (later j2 (later j4 (later j6 (later j8 (later bw1 (later bw2 jX)))))))
            have sR4 := Below.size (later bw2 jX)
            have sw := Below.size (later j1 (later j2 (later j4 (later j6 (later j8 bw1)))))
            have sw1 := Below.size (later j2 (later j4 (later j6 (later j8 bw1))))
            go_wp2_with fail
            refine (spoilAll20_any X5 lo2 A_2 n0 c_2 gs_2 OX lo2 hi2 rX k2.out (by omega) (by omega) SL2.out).mono ?_
            rintro e' x1 ⟨rfl, hB, hF, hW⟩
            have sy1 := hB.size
            have bY : PBox x1 g_2 q_2 := by
             rcases l42 with h | h
             · exact (hB.block _ h).trans bX
             · exact (hF _ h (by omega)).trans bX
            have wS : ∀ x, x < 4 → WrR x1 U1.heap.size X5.heap.size (q_2.M.get x).A (q_2.M.get x).n := fun x hx => (WrR.of ((hX.M.get x).more (Nat.le_refl _) (by omega))).keep hW
            have wL : WrR x1 U1.heap.size X5.heap.size q_2.A q_2.n := (WrR.of (hX.L.more (Nat.le_refl _) (by omega))).keep hW
            replace hB := hB.mono lo2_
            have rgy : x1.rangeAt g_2 0 [.bool q_2.M.S.s, .slice q_2.M.S.A q_2.M.S.n q_2.M.S.c, .int .i64 q_2.M.S.e, .bool q_2.M.W.s, .slice q_2.M.W.A q_2.M.W.n q_2.M.W.c, .int .i64 q_2.M.W.e, .bool q_2.M.C.s, .slice q_2.M.C.A q_2.M.C.n q_2.M.C.c, .int .i64 q_2.M.C.e, .bool q_2.M.A.s, .slice q_2.M.A.A q_2.M.A.n q_2.M.A.c, .int .i64 q_2.M.A.e, .bool q_2.h, .int .i64 q_2.mn, .int .i64 q_2.mx, .slice q_2.A q_2.n q_2.c] := bY.range
            clear OX rX bX hX hF hW
            go_wp2_with (first
             | (refine wpList_load_mid rfl 31 (.tmp 12) rfl g_2 0 rfl [.bool q_2.M.S.s, .slice q_2.M.S.A q_2.M.S.n q_2.M.S.c, .int .i64 q_2.M.S.e, .bool q_2.M.W.s, .slice q_2.M.W.A q_2.M.W.n q_2.M.W.c, .int .i64 q_2.M.W.e, .bool q_2.M.C.s, .slice q_2.M.C.A q_2.M.C.n q_2.M.C.c, .int .i64 q_2.M.C.e, .bool q_2.M.A.s, .slice q_2.M.A.A q_2.M.A.n q_2.M.A.c, .int .i64 q_2.M.A.e, .bool q_2.h, .int .i64 q_2.mn, .int .i64 q_2.mx, .slice q_2.A q_2.n q_2.c] _ rgy Try.underlying31 rfl (by kernel_rfl) ?_))
            refine (spoil20_any x1 q_2 U1.heap.size X5.heap.size (fun x hx => ⟨wS x hx, SP2.out.1 x hx⟩) wL SP2.out.2 (by omega) (by omega)).mono ?_
            rintro e' x2 ⟨rfl, hB2, _, _, _⟩
            clear rgy bY wS wL
            have b2 := hB.trans hB2
            have s2 := b2.size
            have gL1 := (fL1.below b2 (Nat.le_refl _)).more (lo' := 0) (hi' := x2.heap.size) (Nat.zero_le _) (by omega)
            have gLa := (fLa.below b2 (by omega)).more (lo' := 0) (hi' := x2.heap.size) (Nat.zero_le _) (by omega)
            have gp := (fp.below b2 (by omega)).more (lo' := 0) (hi' := x2.heap.size) (Nat.zero_le _) (by omega)
            have gq := (fq.below b2 (Nat.le_refl _)).more (lo' := 0) (hi' := x2.heap.size) (Nat.zero_le _) (by omega)
            have gbp := (b2.block _ (by omega)).trans fbp
            have gbq := (b2.block _ (by omega)).trans fbq
            have fin2 := fin.trans (b2.mono (by omega))
            clear hB hB2 fL1 fLa fp fq fbp fbq
            go_wp2_with fail
            refine (RSameF_any x2 A_1 A0 n0 c_1 n0 c0 gs_1 fs gL1 gLa true e5.out).mono ?_
            rintro e' x3 ⟨rfl, b3⟩
            have hbp : PBox x3 w.heap.size p := (b3.block _ (by omega)).trans gbp
            have hbq : PBox x3 g_1 q_1 := (b3.block _ (by omega)).trans gbq
            have rgp : x3.rangeAt w.heap.size 0 [.bool p.M.S.s, .slice p.M.S.A p.M.S.n p.M.S.c, .int .i64 p.M.S.e, .bool p.M.W.s, .slice p.M.W.A p.M.W.n p.M.W.c, .int .i64 p.M.W.e, .bool p.M.C.s, .slice p.M.C.A p.M.C.n p.M.C.c, .int .i64 p.M.C.e, .bool p.M.A.s, .slice p.M.A.A p.M.A.n p.M.A.c, .int .i64 p.M.A.e, .bool p.h, .int .i64 p.mn, .int .i64 p.mx, .slice p.A p.n p.c] := hbp.range
            have rgq : x3.rangeAt g_1 0 [.bool q_1.M.S.s, .slice q_1.M.S.A q_1.M.S.n q_1.M.S.c, .int .i64 q_1.M.S.e, .bool q_1.M.W.s, .slice q_1.M.W.A q_1.M.W.n q_1.M.W.c, .int .i64 q_1.M.W.e, .bool q_1.M.C.s, .slice q_1.M.C.A q_1.M.C.n q_1.M.C.c, .int .i64 q_1.M.C.e, .bool q_1.M.A.s, .slice q_1.M.A.A q_1.M.A.n q_1.M.A.c, .int .i64 q_1.M.A.e, .bool q_1.h, .int .i64 q_1.mn, .int .i64 q_1.mx, .slice q_1.A q_1.n q_1.c] := hbq.range
            go_wp2_with (first
             | (refine wpList_load_midG (by rfl) 31 (.tmp 10) rfl g_1 0 rfl [.bool q_1.M.S.s, .slice q_1.M.S.A q_1.M.S.n q_1.M.S.c, .int .i64 q_1.M.S.e, .bool q_1.M.W.s, .slice q_1.M.W.A q_1.M.W.n q_1.M.W.c, .int .i64 q_1.M.W.e, .bool q_1.M.C.s, .slice q_1.M.C.A q_1.M.C.n q_1.M.C.c, .int .i64 q_1.M.C.e, .bool q_1.M.A.s, .slice q_1.M.A.A q_1.M.A.n q_1.M.A.c, .int .i64 q_1.M.A.e, .bool q_1.h, .int .i64 q_1.mn, .int .i64 q_1.mx, .slice q_1.A q_1.n q_1.c] _ rgq Try.underlying31 rfl (by kernel_rfl) ?_)
             | (refine wpList_load_midG (by rfl) 31 (.tmp 6) rfl w.heap.size 0 rfl [.bool p.M.S.s, .slice p.M.S.A p.M.S.n p.M.S.c, .int .i64 p.M.S.e, .bool p.M.W.s, .slice p.M.W.A p.M.W.n p.M.W.c, .int .i64 p.M.W.e, .bool p.M.C.s, .slice p.M.C.A p.M.C.n p.M.C.c, .int .i64 p.M.C.e, .bool p.M.A.s, .slice p.M.A.A p.M.A.n p.M.A.c, .int .i64 p.M.A.e, .bool p.h, .int .i64 p.mn, .int .i64 p.mx, .slice p.A p.n p.c] _ rgp Try.underlying31 rfl (by kernel_rfl) ?_))
            refine (RSamePart_any x3 q_1 p (gq.on b3) (gp.on b3) true e6.out).mono ?_
            rintro e' x4 ⟨rfl, b4⟩
            clear rgp rgq
            go_wp2
            go_ret
            exact ⟨rfl, (fin2.trans (b3.mono (by omega))).trans (b4.mono (by have := b3.size; omega))⟩
end Ma
end Go.Proofs.Ytbbnbgllgomolaa
namespace Go.Proofs.Ytbbnbgllgomolaa
open Go.ChangeShapes Go.WideShapes Go.ChangeAt Go.RowKit Go.Joins Go.Deep
section
variable {H : Type} {enc : TypeId × Value → H} {W : World}
set_option maxRecDepth 100000 in
theorem mass_trodP {fuel : Nat} {cs : List Value} {x : DataW H × List MemPlace}
  (h : DataW.trod enc Try.prog W 0 (fun _ => true) true fuel 27 cs = some x) (hfz : ∀ b off, MemPlace.cell b off ∈ x.2 → W.frozen? ⟨b, off, none⟩ = false) (hlt : ∀ q ∈ x.2, q.block < W.heap.size) :
  ∃ m : Ma.Mv, cs = [.bool m.S.s, .slice m.S.A m.S.n m.S.c, .int .i64 m.S.e, .bool m.W.s, .slice m.W.A m.W.n m.W.c, .int .i64 m.W.e, .bool m.C.s, .slice m.C.A m.C.n m.C.c, .int .i64 m.C.e, .bool m.A.s, .slice m.A.A m.A.n m.A.c, .int .i64 m.A.e] ∧
   Ma.MRows W 0 W.heap.size m := by
 obtain ⟨y0, y1, y2, y3, n, hx, hl, h0, h1, h2, h3⟩ := trod_struct4 Try.underlying27 h
 match cs, hl.trans (show Try.prog.cellsOf 27 = 12 by kernel_rfl) with
 | [c0, c1, c2, c3, c4, c5, c6, c7, c8, c9, c10, c11], _ =>
  have hx2 : x.2 = y0.2 ++ (y1.2 ++ (y2.2 ++ y3.2)) := by rw [hx]
  have hC3 : Try.prog.cellsOf 25 = 3 := by kernel_rfl
  simp only [hC3, List.drop_zero, List.take_succ_cons, List.take_zero, List.drop_succ_cons] at h0 h1 h2 h3
  obtain ⟨d0, rfl, rfl, rfl, _, r0⟩ := dv_trod Try.underlying25 (by kernel_rfl) Try.underlying4 Try.underlying23 Try.underlying70 (by kernel_rfl) Try.underlying3 h0 (fun b off hm => hfz b off (by simp [hx2, hm])) (fun q hq => hlt q (by simp [hx2, hq]))
  obtain ⟨d1, rfl, rfl, rfl, _, r1⟩ := dv_trod Try.underlying25 (by kernel_rfl) Try.underlying4 Try.underlying23 Try.underlying70 (by kernel_rfl) Try.underlying3 h1 (fun b off hm => hfz b off (by simp [hx2, hm])) (fun q hq => hlt q (by simp [hx2, hq]))
  obtain ⟨d2, rfl, rfl, rfl, _, r2⟩ := dv_trod Try.underlying25 (by kernel_rfl) Try.underlying4 Try.underlying23 Try.underlying70 (by kernel_rfl) Try.underlying3 h2 (fun b off hm => hfz b off (by simp [hx2, hm])) (fun q hq => hlt q (by simp [hx2, hq]))
  obtain ⟨d3, rfl, rfl, rfl, _, r3⟩ := dv_trod Try.underlying25 (by kernel_rfl) Try.underlying4 Try.underlying23 Try.underlying70 (by kernel_rfl) Try.underlying3 h3 (fun b off hm => hfz b off (by simp [hx2, hm])) (fun q hq => hlt q (by simp [hx2, hq]))
  exact ⟨⟨d0, d1, d2, d3⟩, rfl, ⟨r0, r1, r2, r3⟩⟩
set_option maxRecDepth 100000 in
theorem edge_trod {fuel : Nat} {c0 c1 c2 : Value} {x : DataW H × List MemPlace}
  (h : DataW.trod enc Try.prog W 0 (fun _ => true) true fuel 29 [c0, c1, c2] = some x) : ∃ (b : Bool) (p q : Int), c0 = .bool b ∧ c1 = .int .i64 p ∧ c2 = .int .i64 q := by
 obtain ⟨y0, y1, y2, n, hx, _, h0, h1, h2⟩ := trod_struct3 Try.underlying29 h
 have C1 : Try.prog.cellsOf 4 = 1 := by kernel_rfl
 have C2 : Try.prog.cellsOf 3 = 1 := by kernel_rfl
 simp only [C1, C2, List.drop_zero, List.take_succ_cons, List.take_zero, List.drop_succ_cons] at h0 h1 h2
 obtain ⟨s, e0, _⟩ := DataW.trod_bool Try.underlying4 h0
 obtain ⟨z, e1, _, z1⟩ := DataW.trod_int Try.underlying3 h1
 obtain ⟨u, e2, _, z2⟩ := DataW.trod_int Try.underlying3 h2
 injection e0 with e0
 injection e1 with e1
 injection e2 with e2
 exact ⟨s, z, u, e0, e1, e2⟩
set_option maxRecDepth 100000 in
theorem part_trod {fuel : Nat} {cs : List Value} {x : DataW H × List MemPlace}
  (h : DataW.trod enc Try.prog W 0 (fun _ => true) true fuel 31 cs = some x) (hfz : ∀ b off, MemPlace.cell b off ∈ x.2 → W.frozen? ⟨b, off, none⟩ = false) (hlt : ∀ q ∈ x.2, q.block < W.heap.size) :
  ∃ p : Ma.Pv, cs = [.bool p.M.S.s, .slice p.M.S.A p.M.S.n p.M.S.c, .int .i64 p.M.S.e, .bool p.M.W.s, .slice p.M.W.A p.M.W.n p.M.W.c, .int .i64 p.M.W.e, .bool p.M.C.s, .slice p.M.C.A p.M.C.n p.M.C.c, .int .i64 p.M.C.e, .bool p.M.A.s, .slice p.M.A.A p.M.A.n p.M.A.c, .int .i64 p.M.A.e, .bool p.h, .int .i64 p.mn, .int .i64 p.mx, .slice p.A p.n p.c] ∧ Ma.PRows W 0 W.heap.size p ∧ p.n ≤ p.c := by
 obtain ⟨y0, y1, y2, n, hx, hl, h0, h1, h2⟩ := trod_struct3 Try.underlying31 h
 match cs, hl.trans (show Try.prog.cellsOf 31 = 16 by kernel_rfl) with
 | [c0, c1, c2, c3, c4, c5, c6, c7, c8, c9, c10, c11, c12, c13, c14, c15], _ =>
  have hx2 : x.2 = y0.2 ++ (y1.2 ++ y2.2) := by rw [hx]
  have C1 : Try.prog.cellsOf 27 = 12 := by kernel_rfl
  have C2 : Try.prog.cellsOf 29 = 3 := by kernel_rfl
  have C3 : Try.prog.cellsOf 23 = 1 := by kernel_rfl
  simp only [C1, C2, C3, List.drop_zero, List.take_succ_cons, List.take_zero, List.drop_succ_cons] at h0 h1 h2
  obtain ⟨m, em, rm⟩ := mass_trodP h0 (fun b off hm => hfz b off (by simp [hx2, hm])) (fun q hq => hlt q (by simp [hx2, hq]))
  obtain ⟨b, z, u, rfl, rfl, rfl⟩ := edge_trod h1
  obtain ⟨A, n', c, xs, rfl, hc, hI⟩ := ints_trod Try.underlying23 Try.underlying70 (by kernel_rfl) h2 (fun b off hm => hfz b off (by simp [hx2, hm])) (fun q hq => hlt q (by simp [hx2, hq]))
  simp only [List.cons.injEq, and_true] at em
  obtain ⟨rfl, rfl, rfl, rfl, rfl, rfl, rfl, rfl, rfl, rfl, rfl, rfl⟩ := em
  exact ⟨⟨m, b, z, u, A, n', c, xs⟩, rfl, ⟨rm, hI⟩, hc⟩
set_option maxRecDepth 100000 in
/-- A part among the arguments. -/
theorem part_open {r : Reach} {b0 : Nat} {v : Value} {d : DataW H} {p : List MemPlace}
  (hval : Value.okWide Try.prog W r b0 31 v) (h : DataW.Trod enc Try.prog W 0 (fun _ => true) true 31 v d p) (hfz : ∀ b off, MemPlace.cell b off ∈ p → W.frozen? ⟨b, off, none⟩ = false) (hlt : ∀ q ∈ p, q.block < W.heap.size) :
  ∃ p : Ma.Pv, v = .agg #[.bool p.M.S.s, .slice p.M.S.A p.M.S.n p.M.S.c, .int .i64 p.M.S.e, .bool p.M.W.s, .slice p.M.W.A p.M.W.n p.M.W.c, .int .i64 p.M.W.e, .bool p.M.C.s, .slice p.M.C.A p.M.C.n p.M.C.c, .int .i64 p.M.C.e, .bool p.M.A.s, .slice p.M.A.A p.M.A.n p.M.A.c, .int .i64 p.M.A.e, .bool p.h, .int .i64 p.mn, .int .i64 p.mx, .slice p.A p.n p.c] ∧ Ma.PRows W 0 W.heap.size p := by
 obtain ⟨cs, rfl, hsz⟩ := okWide_struct Try.underlying31 hval
 obtain ⟨cs⟩ := cs
 obtain ⟨fuel, hf⟩ := h
 simp only [Value.cells] at hf
 obtain ⟨p, e, hR, _⟩ := part_trod hf hfz hlt
 subst e
 exact ⟨p, rfl, hR⟩
instance : Inhabited Ma.Fv := ⟨⟨0, ⟨⟨⟨false, none, 0, 0, 0, []⟩, ⟨false, none, 0, 0, 0, []⟩, ⟨false, none, 0, 0, 0, []⟩, ⟨false, none, 0, 0, 0, []⟩⟩, false, 0, 0, none, 0, 0, []⟩⟩⟩
set_option maxRecDepth 100000 in
theorem frozen_trod {fuel : Nat} {cs : List Value} {x : DataW H × List MemPlace}
  (h : DataW.trod enc Try.prog W 0 (fun _ => true) true fuel 68 cs = some x) (hfz : ∀ b off, MemPlace.cell b off ∈ x.2 → W.frozen? ⟨b, off, none⟩ = false) (hlt : ∀ q ∈ x.2, q.block < W.heap.size) :
  ∃ f : Ma.Fv, cs = Ma.cells17 f ∧ Ma.PRows W 0 W.heap.size f.P := by
 obtain ⟨y0, y1, n, hx, hl, h0, h1⟩ := trod_struct2 Try.underlying68 h
 match cs, hl.trans (show Try.prog.cellsOf 68 = 17 by kernel_rfl) with
 | [c0, c1, c2, c3, c4, c5, c6, c7, c8, c9, c10, c11, c12, c13, c14, c15, c16], _ =>
  have hx2 : x.2 = y0.2 ++ y1.2 := by rw [hx]
  have C1 : Try.prog.cellsOf 3 = 1 := by kernel_rfl
  have C2 : Try.prog.cellsOf 31 = 16 := by kernel_rfl
  simp only [C1, C2, List.drop_zero, List.take_succ_cons, List.take_zero, List.drop_succ_cons] at h0 h1
  obtain ⟨z, e1, _, z1⟩ := DataW.trod_int Try.underlying3 h0
  injection e1 with e1
  obtain ⟨p, ep, hR, _⟩ := part_trod h1 (fun b off hm => hfz b off (by simp [hx2, hm])) (fun q hq => hlt q (by simp [hx2, hq]))
  refine ⟨⟨z, p⟩, ?_, hR⟩
  rw [e1, ep]
  rfl
set_option maxRecDepth 100000 in
/-- A list of frozen parts among the arguments. -/
theorem frozens_open {r : Reach} {b0 : Nat} {v : Value} {d : DataW H} {p : List MemPlace}
  (hval : Value.okWide Try.prog W r b0 22 v) (h : DataW.Trod enc Try.prog W 0 (fun _ => true) true 22 v d p) (hfz : ∀ b off, MemPlace.cell b off ∈ p → W.frozen? ⟨b, off, none⟩ = false) (hlt : ∀ q ∈ p, q.block < W.heap.size) :
  ∃ A n c fs, v = .slice A n c ∧ n ≤ c ∧ c ≤ maxLen ∧ Ma.LFs W 0 W.heap.size A n fs := by
 obtain ⟨A, n, c, rfl⟩ := okWide_slice Try.underlying22 hval
 obtain ⟨fuel, hf⟩ := h
 simp only [Value.cells] at hf
 generalize hx0 : (d, p) = x at hf
 have hp : p = x.2 := by rw [← hx0]
 rw [hp] at hfz hlt
 rcases open_slice Try.underlying22 hf with ⟨hcs, _⟩ | ⟨a, len, cap, m, k, D, Pl, hcs, _, hl, hm, hmm, hx, hi⟩
 · injection hcs with hcs
   exact ⟨none, 0, 0, [], hcs, Nat.le_refl _, by unfold maxLen; omega, ⟨rfl, by decide, fun h0 => absurd h0 (Nat.lt_irrefl 0), fun j hj => absurd hj (Nat.not_lt_zero _)⟩⟩
 · injection hcs with hcs
   simp only [if_true] at hmm
   subst hmm
   have hC : Try.prog.cellsOf 68 = 17 := by kernel_rfl
   have hx2 : x.2 = MemPlace.row a (m * 17) ++ (List.range m).flatMap Pl := by rw [hx, hC]
   have hmem : ∀ i, i < m → ∀ q ∈ Pl i, q ∈ x.2 := fun i hi' q hq => by
    rw [hx2]
    exact List.mem_append_right _ (List.mem_flatMap.2 ⟨i, List.mem_range.2 hi', hq⟩)
   have hV : ∀ i, i < m → ∃ q : Ma.Fv, (∀ k, k < 17 → W.cell? ((a.add (i * 17)).add k) = (Ma.cells17 q)[k]?) ∧ Ma.PRows W 0 W.heap.size q.P := fun i hi' => by
    obtain ⟨cs', h1, h2⟩ := hi i hi'
    rw [hC] at h1
    obtain ⟨_, _, hcell⟩ := World.cells?_some h1
    obtain ⟨q, e, hq⟩ := frozen_trod h2 (fun b off hm => hfz b off (hmem i hi' _ hm)) (fun q hq => hlt q (hmem i hi' q hq))
    subst e
    exact ⟨q, hcell, hq⟩
   obtain ⟨q, hq⟩ := choose_lt hV
   refine ⟨some a, len, m, (List.range len).map q, hcs, hl, hm, by simp, by unfold maxLen at hm; omega, fun h0 => ?_, fun j hj => ?_⟩
   · obtain ⟨b, off, spot⟩ := a
     have hspot : spot = none := by
      have k := (hq 0 (by omega)).1 0 (by decide)
      have k2 := World.cell?_spot k
      simpa [Addr.add] using k2
     subst hspot
     have hb : b < W.heap.size := hlt _ (by
      rw [hx2]
      exact List.mem_append_left _ (MemPlace.mem_row.2 ⟨0, by omega, rfl⟩) : MemPlace.cell b (off + 0) ∈ x.2)
     refine ⟨b, off, rfl, Nat.zero_le _, hb, fun j hj => ?_⟩
     have hj' : j < len := by simpa using hj
     have e : ((List.range len).map q)[j] = q j := by simp
     rw [e]
     have g := (hq j (by omega)).1
     simp only [add_plain] at g
     exact Ma.fcells_of g
   · have e : ((List.range len).map q)[j] = q j := by simp
     rw [e]
     have hj' : j < len := by simpa using hj
     exact (hq j (by omega)).2
end
end Go.Proofs.Ytbbnbgllgomolaa