/- The law PastTells: a walk (printed by a program of mine). -/
/- Parts, and lists of frozen parts, among the arguments. -/
/- The chapter's example: parts of a value, plain laws. -/
import Derived.Deep.CutRange
import Derived.Test.YtbbnbgllgomolaaBy15
import Derived.Test.YtbbnbgllgomolaaBy09
import Derived.Test.YtbbnbgllgomolaaBy08
import Derived.Test.YtbbnbgllgomolaaBy10
namespace Go.Proofs.Ytbbnbgllgomolaa
open Go.RowKit
namespace Ma
open Dp Dy
set_option maxHeartbeats 102400000 in
set_option maxRecDepth 100000 in
theorem ptells_walk (w : World) (A0 : Option Addr) (n0 c0 : Nat) (fs : List Fv) (La : LFs w 0 w.heap.size A0 n0 fs) (z : Int) (p : Pv) (hRp : PRows w 0 w.heap.size p) :
  Calls Try.prog 4 #[.slice A0 n0 c0, .int .i64 z, .agg #[.bool p.M.S.s, .slice p.M.S.A p.M.S.n p.M.S.c, .int .i64 p.M.S.e, .bool p.M.W.s, .slice p.M.W.A p.M.W.n p.M.W.c, .int .i64 p.M.W.e, .bool p.M.C.s, .slice p.M.C.A p.M.C.n p.M.C.c, .int .i64 p.M.C.e, .bool p.M.A.s, .slice p.M.A.A p.M.A.n p.M.A.c, .int .i64 p.M.A.e, .bool p.h, .int .i64 p.mn, .int .i64 p.mx, .slice p.A p.n p.c]] w fun e w' => e = .returned (.bool true) ∧ Below w.heap.size w w' := by
 obtain ⟨w1, hw, bp, j1, S1⟩ := alloc_p w p
 obtain ⟨g1, hg1⟩ : ∃ g, greatF n0 fs = g := ⟨_, rfl⟩
 obtain ⟨g3, hg3⟩ : ∃ g, greatP p = g := ⟨_, rfl⟩
 obtain ⟨ka, hka⟩ : ∃ k, freezeF n0 fs z p = k := ⟨_, rfl⟩
 obtain ⟨kg, hkg⟩ : ∃ k, getF n0 fs z = k := ⟨_, rfl⟩
 obtain ⟨kb, hkb⟩ : ∃ k, askF n0 fs z = k := ⟨_, rfl⟩
 obtain ⟨kc, hkc⟩ : ∃ k, checkF n0 fs = k := ⟨_, rfl⟩
 obtain ⟨kp, hkp⟩ : ∃ k : Int, (if mayP p then 0 else 8) = k := ⟨_, rfl⟩
 have G1 := Lib.hid hg1
 have G3 := Lib.hid hg3
 have KA := Lib.hid hka
 have KG := Lib.hid hkg
 have KB := Lib.hid hkb
 have KC := Lib.hid hkc
 have KP := Lib.hid hkp
 clear hg1 hg3 hka hkg hkb hkc hkp
 go_enter Try.func4, Try.ntmps4
 go_wp2_with fail
 refine (GreatF_any w1 A0 n0 c0 fs (LFs.on La j1) g1 G1.out).mono ?_
 rintro e' v1 ⟨rfl, j2⟩
 try clear hw
 cases g1
 rotate_left
 · skip
   go_wp2
   go_ret
   exact ⟨rfl, (later j1 j2)⟩
 · skip
   have rg_ : v1.rangeAt (w.heap.size) 0 [.bool p.M.S.s, .slice p.M.S.A p.M.S.n p.M.S.c, .int .i64 p.M.S.e, .bool p.M.W.s, .slice p.M.W.A p.M.W.n p.M.W.c, .int .i64 p.M.W.e, .bool p.M.C.s, .slice p.M.C.A p.M.C.n p.M.C.c, .int .i64 p.M.C.e, .bool p.M.A.s, .slice p.M.A.A p.M.A.n p.M.A.c, .int .i64 p.M.A.e, .bool p.h, .int .i64 p.mn, .int .i64 p.mx, .slice p.A p.n p.c] := PBox.range (box_later bp j2 S1)
   go_wp2_with (first
    | (refine wpList_load_midG (by rfl) 31 (.tmp 5) rfl (w.heap.size) 0 rfl [.bool p.M.S.s, .slice p.M.S.A p.M.S.n p.M.S.c, .int .i64 p.M.S.e, .bool p.M.W.s, .slice p.M.W.A p.M.W.n p.M.W.c, .int .i64 p.M.W.e, .bool p.M.C.s, .slice p.M.C.A p.M.C.n p.M.C.c, .int .i64 p.M.C.e, .bool p.M.A.s, .slice p.M.A.A p.M.A.n p.M.A.c, .int .i64 p.M.A.e, .bool p.h, .int .i64 p.mn, .int .i64 p.mx, .slice p.A p.n p.c] _ rg_ Try.underlying31 rfl (by kernel_rfl) ?_))
   refine (GreatPart_any v1 p (PRows.on hRp (later j1 j2)) g3 G3.out).mono ?_
   rintro e' v3 ⟨rfl, j4⟩
   try clear hw
   clear rg_
   cases g3
   rotate_left
   · skip
     go_wp2
     go_ret
     exact ⟨rfl, (later j1 (later j2 j4))⟩
   · skip
     have SL : Hid (SmallF fs) := Lib.hid (small_list La G1.out)
     have SP : Hid (SmallP p) := Lib.hid (small_part hRp G3.out)
     have n28 := (greatF_not G1.out).1
     clear G1 G3
     go_upto_region 3 with fail
     try clear hw
     go_cut [7, 8] from 22 to 31 (fun sa_ sb_ wx => ∃ (A_1 : Option Addr) (c_1 : Nat) (gs_1 : List Fv) (q_1 : Pv) (g_1 lo1 hi1 : Nat), sa_ = .slice A_1 n0 c_1 ∧ sb_ = .pointer (some ⟨g_1, 0, none⟩) ∧ Below v3.heap.size v3 wx ∧ g_1 < wx.heap.size ∧ PBox wx g_1 q_1 ∧ Hid (TwinF fs gs_1) ∧ Hid (TwinP p q_1) ∧ LFs wx 0 wx.heap.size A_1 n0 gs_1 ∧ PRows wx v3.heap.size wx.heap.size q_1 ∧ OwnF wx lo1 (.slice A_1 n0 c_1) n0 gs_1 ∧ Hid (∀ f ∈ gs_1, PRows wx lo1 hi1 f.P) ∧ Hid (∀ k, (Value.slice A_1 n0 c_1).ownBlock = some k → lo1 ≤ k ∧ k < hi1) ∧ v3.heap.size ≤ lo1 ∧ lo1 ≤ hi1 ∧ hi1 ≤ wx.heap.size ∧ v3.heap.size ≤ g_1 ∧ (g_1 < lo1 ∨ hi1 ≤ g_1))
     case first =>
      try clear hw
      refine region_E (Keeps v3) [] (m := 7) (L := #[zF,zF,zF,zF,zF,zF,zF]) (by kernel_rfl) (by rfl) (by rfl) ?_
      have j6 : Below v3.heap.size v3 v3.drew := (Below.refl _ _).drew
      generalize v3.drew = v5 at *
      refine zE 0 #[zT,zF,zF,zF,zF,zF,zF] ?_ rfl ?hy1 ?rest1
      case hy1 => intro w; go_simp; (try with_reducible rfl)
      try simp only [Act.put, zp]
      have kpy7 : Keeps v3 v5 := fun p hp => Below.block j6 p hp
      refine readE (i := 2) (L := #[zT,zF,zT,zF,zF,zF,zF]) (v := .agg #[.bool p.M.S.s, .slice p.M.S.A p.M.S.n p.M.S.c, .int .i64 p.M.S.e, .bool p.M.W.s, .slice p.M.W.A p.M.W.n p.M.W.c, .int .i64 p.M.W.e, .bool p.M.C.s, .slice p.M.C.A p.M.C.n p.M.C.c, .int .i64 p.M.C.e, .bool p.M.A.s, .slice p.M.A.A p.M.A.n p.M.A.c, .int .i64 p.M.A.e, .bool p.h, .int .i64 p.mn, .int .i64 p.mx, .slice p.A p.n p.c]) rfl (by rfl) (by kernel_rfl) (by kernel_rfl) (by kernel_rfl) (fun _ _ _ h => h) (by assumption) (by rfl) ?y7 ?z8
      case y7 =>
       intro w' h1
       exact run_load_op 31 (.tmp 5) rfl (w.heap.size) 0 rfl (cells16 p) _ (PBox.range ((h1 _ (Nat.lt_of_lt_of_le S1 (Below.size (later j2 j4)))).trans (box_later bp (later j2 j4) S1))) Try.underlying31 rfl (by kernel_rfl)
      try simp only [Act.put, zp]
      refine E_of_C (fun (A : Act) a' w' => ∃ (v1_ v2_ : Value) (A_1 : Option Addr) (c_1 : Nat) (gs_1 : List Fv) (q_1 : Pv) (g_1 lo_ hi_ : Nat), a' = (((((A.put (some 28) (v1_)).put (some 30) (v2_)).put (some 29) (.slice A_1 n0 c_1)).put (some 31) (.agg #[.bool q_1.M.S.s, .slice q_1.M.S.A q_1.M.S.n q_1.M.S.c, .int .i64 q_1.M.S.e, .bool q_1.M.W.s, .slice q_1.M.W.A q_1.M.W.n q_1.M.W.c, .int .i64 q_1.M.W.e, .bool q_1.M.C.s, .slice q_1.M.C.A q_1.M.C.n q_1.M.C.c, .int .i64 q_1.M.C.e, .bool q_1.M.A.s, .slice q_1.M.A.A q_1.M.A.n q_1.M.A.c, .int .i64 q_1.M.A.e, .bool q_1.h, .int .i64 q_1.mn, .int .i64 q_1.mx, .slice q_1.A q_1.n q_1.c])).put (some 8) (.pointer (some ⟨g_1, 0, none⟩))) ∧ v3.heap.size ≤ lo_ ∧ v3.heap.size ≤ g_1 ∧ lo_ ≤ hi_ ∧ hi_ ≤ w'.heap.size ∧ (g_1 < lo_ ∨ hi_ ≤ g_1) ∧ PBox w' g_1 ZPv ∧ Below v3.heap.size v3 w' ∧ Hid (TwinF fs gs_1) ∧ Hid (TwinP p q_1) ∧ OwnF w' lo_ (.slice A_1 n0 c_1) n0 gs_1 ∧ Hid (∀ f ∈ gs_1, PRows w' lo_ hi_ f.P) ∧ Hid (∀ k, (Value.slice A_1 n0 c_1).ownBlock = some k → lo_ ≤ k ∧ k < hi_) ∧ PRows w' v3.heap.size w'.heap.size q_1 ∧ offP q_1 g_1) #[zT,zT,zT,zT,zT,zF,zF] 2 ?leaf ?tree
      case tree =>
       have zv5 : v3.heap.size ≤ v5.heap.size := Below.size j6
       refine stepC2 (i := 1) (j := 4) (Li := #[zT,zT,zT,zF,zF,zF,zF]) (Lj := #[zT,zF,zT,zF,zT,zF,zF]) rfl rfl (by rfl) (by rfl) (by kernel_rfl) (by rfl) (by rfl) (fun K hK => ?o1_1) (fun K hK => ?o1_4)
       case o1_1 =>
        go_simp
        go_at_call 14
        refine (RTwinF_any v5 A0 n0 c0 fs (LFs.on La (later j1 (later j2 (later j4 j6)))) n28 SL.out).mono ?_
        rintro e' v9 ⟨A1, c1, gs, rfl, tf, j10, O1, r1⟩
        replace tf := Lib.hid tf
        have zv9 : v5.heap.size ≤ v9.heap.size := Below.size j10
        refine hK _ _ ⟨fun _ _ => fun p hp => Below.block (later j6 j10) p hp, ?_⟩
        clear hK K
        try simp only [Act.put, zp]
        refine stepC2 (i := 3) (j := 4) (Li := #[zT,zT,zT,zT,zF,zF,zF]) (Lj := #[zT,zT,zT,zF,zT,zF,zF]) rfl rfl (by rfl) (by rfl) (by kernel_rfl) (by rfl) (by rfl) (fun K hK => ?o2_3) (fun K hK => ?o2_4)
        case o2_3 =>
         go_simp
         go_at_call 15
         refine (RTwinPart_any v9 p (PRows.on hRp (later j1 (later j2 (later j4 (later j6 j10))))) SP.out.1 SP.out.2).mono ?_
         rintro e' v11 ⟨q, rfl, tp, j12, Rq⟩
         replace tp := Lib.hid tp
         have zv11 : v9.heap.size ≤ v11.heap.size := Below.size j12
         refine hK _ _ ⟨fun _ _ => fun p hp => Below.block (later j6 (later j10 j12)) p hp, ?_⟩
         clear hK K
         try simp only [Act.put, zp]
         refine stepC (i := 4) (L := #[zT,zT,zT,zT,zT,zF,zF]) rfl (by rfl) (by kernel_rfl) (by rfl) (fun K hK => ?_)
         go_simp
         obtain ⟨v13, hc_, bz, j14, s15⟩ := alloc_zp v11
         rw [hc_]
         clear hc_
         have zv13 : v11.heap.size ≤ v13.heap.size := Below.size j14
         refine hK _ _ ⟨fun _ _ => fun p hp => Below.block (later j6 (later j10 (later j12 j14))) p hp, ?_⟩
         clear hK K
         try simp only [Act.put, zp]
         exact leafC ⟨_, _, A1, c1, gs, q, v11.heap.size, v5.heap.size, v9.heap.size, rfl, by omega, by omega, by omega, by omega, by omega, bz, (later j6 (later j10 (later j12 j14))), tf, tp, (OwnF.on O1 (later j12 j14)), Lib.hid (fun f hf => (r1 f hf).below (later j12 j14) (Nat.le_refl _)), Lib.hid (fun k hk => O1.own.lt k hk), PRows.more (Rq.below j14 (Nat.le_refl _)) (by omega) (by omega), offP_of Rq (by omega)⟩
        case o2_4 =>
         go_simp
         obtain ⟨v16, hc_, bz, j17, s18⟩ := alloc_zp v9
         rw [hc_]
         clear hc_
         have zv16 : v9.heap.size ≤ v16.heap.size := Below.size j17
         refine hK _ _ ⟨fun _ _ => fun p hp => Below.block (later j6 (later j10 j17)) p hp, ?_⟩
         clear hK K
         try simp only [Act.put, zp]
         refine stepC (i := 3) (L := #[zT,zT,zT,zT,zT,zF,zF]) rfl (by rfl) (by kernel_rfl) (by rfl) (fun K hK => ?_)
         go_simp
         go_at_call 15
         refine (RTwinPart_any v16 p (PRows.on hRp (later j1 (later j2 (later j4 (later j6 (later j10 j17)))))) SP.out.1 SP.out.2).mono ?_
         rintro e' v19 ⟨q, rfl, tp, j20, Rq⟩
         replace tp := Lib.hid tp
         have zv19 : v16.heap.size ≤ v19.heap.size := Below.size j20
         refine hK _ _ ⟨fun _ _ => fun p hp => Below.block (later j6 (later j10 (later j17 j20))) p hp, ?_⟩
         clear hK K
         try simp only [Act.put, zp]
         exact leafC ⟨_, _, A1, c1, gs, q, v9.heap.size, v5.heap.size, v9.heap.size, rfl, by omega, by omega, by omega, by omega, by omega, (box_later bz j20 s18), (later j6 (later j10 (later j17 j20))), tf, tp, (OwnF.on O1 (later j17 j20)), Lib.hid (fun f hf => (r1 f hf).below (later j17 j20) (Nat.le_refl _)), Lib.hid (fun k hk => O1.own.lt k hk), PRows.more Rq (by omega) (by omega), offP_of Rq (by omega)⟩
       case o1_4 =>
        go_simp
        obtain ⟨v21, hc_, bz, j22, s23⟩ := alloc_zp v5
        rw [hc_]
        clear hc_
        have zv21 : v5.heap.size ≤ v21.heap.size := Below.size j22
        refine hK _ _ ⟨fun _ _ => fun p hp => Below.block (later j6 j22) p hp, ?_⟩
        clear hK K
        try simp only [Act.put, zp]
        refine stepC (i := 1) (L := #[zT,zT,zT,zF,zT,zF,zF]) rfl (by rfl) (by kernel_rfl) (by rfl) (fun K hK => ?_)
        go_simp
        go_at_call 14
        refine (RTwinF_any v21 A0 n0 c0 fs (LFs.on La (later j1 (later j2 (later j4 (later j6 j22))))) n28 SL.out).mono ?_
        rintro e' v24 ⟨A1, c1, gs, rfl, tf, j25, O1, r1⟩
        replace tf := Lib.hid tf
        have zv24 : v21.heap.size ≤ v24.heap.size := Below.size j25
        refine hK _ _ ⟨fun _ _ => fun p hp => Below.block (later j6 (later j22 j25)) p hp, ?_⟩
        clear hK K
        try simp only [Act.put, zp]
        refine stepC (i := 3) (L := #[zT,zT,zT,zT,zT,zF,zF]) rfl (by rfl) (by kernel_rfl) (by rfl) (fun K hK => ?_)
        go_simp
        go_at_call 15
        refine (RTwinPart_any v24 p (PRows.on hRp (later j1 (later j2 (later j4 (later j6 (later j22 j25)))))) SP.out.1 SP.out.2).mono ?_
        rintro e' v26 ⟨q, rfl, tp, j27, Rq⟩
        replace tp := Lib.hid tp
        have zv26 : v24.heap.size ≤ v26.heap.size := Below.size j27
        refine hK _ _ ⟨fun _ _ => fun p hp => Below.block (later j6 (later j22 (later j25 j27))) p hp, ?_⟩
        clear hK K
        try simp only [Act.put, zp]
        exact leafC ⟨_, _, A1, c1, gs, q, v5.heap.size, v21.heap.size, v24.heap.size, rfl, by omega, by omega, by omega, by omega, by omega, (box_later bz (later j25 j27) s23), (later j6 (later j22 (later j25 j27))), tf, tp, (OwnF.on O1 j27), Lib.hid (fun f hf => (r1 f hf).below j27 (Nat.le_refl _)), Lib.hid (fun k hk => O1.own.lt k hk), PRows.more Rq (by omega) (by omega), offP_of Rq (by omega)⟩
      case leaf =>
       rintro a' w' ⟨v1_, v2_, A_1, c_1, gs_1, q_1, g_1, lo1, hi1, rfl, l1_, l2_, l61, l3_, l41, bz, bw1, tf1, tp1, O1_, r1_, k1, Rq_, of_⟩
       try simp only [Act.put, zp]
       have lt4 := lt_of_heap bz
       have kp_ : Keeps v3 w' := fun p hp => Below.block bw1 p hp
       refine zE 5 #[zT,zT,zT,zT,zT,zT,zF] ?_ rfl ?hy7 ?rest7
       case hy7 => intro w; go_simp; (try with_reducible rfl)
       try simp only [Act.put, zp]
       obtain ⟨U1, hc_, bq_1, hb_, hf_, l5, l5'⟩ := part_into bz q_1
       refine stepK (i := 6) (L := #[zT,zT,zT,zT,zT,zT,zT]) rfl (by rfl) (by kernel_rfl) (by rfl) (fun K hK => ?_)
       refine wp_store_mid 31 (.tmp 8) (.tmp 31) rfl g_1 0 #[.bool q_1.M.S.s, .slice q_1.M.S.A q_1.M.S.n q_1.M.S.c, .int .i64 q_1.M.S.e, .bool q_1.M.W.s, .slice q_1.M.W.A q_1.M.W.n q_1.M.W.c, .int .i64 q_1.M.W.e, .bool q_1.M.C.s, .slice q_1.M.C.A q_1.M.C.n q_1.M.C.c, .int .i64 q_1.M.C.e, .bool q_1.M.A.s, .slice q_1.M.A.A q_1.M.A.n q_1.M.A.c, .int .i64 q_1.M.A.e, .bool q_1.h, .int .i64 q_1.mn, .int .i64 q_1.mx, .slice q_1.A q_1.n q_1.c] rfl rfl bz.there (by kernel_rfl) (all_oneCell_toArray (cells16_one q_1)) ?_
       rw [show w'.setCells g_1 0 (#[.bool q_1.M.S.s, .slice q_1.M.S.A q_1.M.S.n q_1.M.S.c, .int .i64 q_1.M.S.e, .bool q_1.M.W.s, .slice q_1.M.W.A q_1.M.W.n q_1.M.W.c, .int .i64 q_1.M.W.e, .bool q_1.M.C.s, .slice q_1.M.C.A q_1.M.C.n q_1.M.C.c, .int .i64 q_1.M.C.e, .bool q_1.M.A.s, .slice q_1.M.A.A q_1.M.A.n q_1.M.A.c, .int .i64 q_1.M.A.e, .bool q_1.h, .int .i64 q_1.mn, .int .i64 q_1.mx, .slice q_1.A q_1.n q_1.c] : Array Value).toList = U1 from hc_]
       clear hc_
       replace kp_ : Keeps v3 U1 := fun p hp => (hf_ p (by omega)).trans (kp_ p hp)
       replace bw1 := hb_ _ _ bw1 (by omega)
       refine hK _ _ ⟨fun _ _ => kp_, ?_⟩
       clear hK K kp_
       try simp only [Act.put]
       refine doneE (by kernel_rfl) ?_ _
       have sq_1 : g_1 < U1.heap.size := lt_of_heap bq_1
       have gb_ : (Value.slice A_1 n0 c_1).ownBlock ≠ some g_1 := fun e => by
        have := k1.out _ e
        omega
       have O1 : OwnF U1 lo1 (.slice A_1 n0 c_1) n0 gs_1 := O1_.far hb_ hf_ l5' gb_ (fun f hf => offP_of (r1_.out f hf) l41)
       have r1 : Hid (∀ f ∈ gs_1, PRows U1 lo1 hi1 f.P) := Lib.hid (copied r1_.out l41 hf_)
       have hRq_10 := (prows_far Rq_ of_ hf_).more (Nat.le_refl _) (by omega : w'.heap.size ≤ U1.heap.size)
       have hRq_1 := hRq_10.more (Nat.zero_le _) (Nat.le_refl _)
       have L1 := O1.lfs
       have lo1_ : v3.heap.size ≤ lo1 := l1_
       have hi1_ : hi1 ≤ U1.heap.size := by omega
       have lg1_ : v3.heap.size ≤ g_1 := l2_
       clear O1_ r1_ Rq_ of_ bz hb_ hf_ l5 l5' gb_ l1_ l2_ l3_ lt4
       go_wp2_with fail
       go_meet
       exact ⟨A_1, c_1, gs_1, q_1, g_1, lo1, hi1, rfl, rfl, bw1, sq_1, bq_1, tf1, tp1, L1, hRq_10, O1, r1, k1, lo1_, l61, hi1_, lg1_, l41⟩
     case rest =>
      obtain ⟨A_1, c_1, gs_1, q_1, g_1, lo1, hi1, rfl, rfl, bw1, sq_1, bq_1, tf1, tp1, L1, hRq_10, O1, r1, k1, lo1_, l61, hi1_, lg1_, l41⟩ := hcut
      obtain ⟨U1, hwc⟩ : ∃ W : World, W = wc := ⟨_, rfl⟩
      subst hwc
      have hRq_1 := hRq_10.more (Nat.zero_le _) (Nat.le_refl _)
      have SL1 : Hid (SmallF gs_1) := Lib.hid (twinF_small tf1.out SL.out)
      have SP1 : Hid (SmallP q_1) := Lib.hid (twinP_small tp1.out SP.out)
      have hcap : n0 ≤ c_1 := by
       obtain ⟨A', c', e, h1, _⟩ := O1.shape
       injection e with _ _ e3
       omega
      have rg_ : U1.rangeAt (g_1) 0 [.bool q_1.M.S.s, .slice q_1.M.S.A q_1.M.S.n q_1.M.S.c, .int .i64 q_1.M.S.e, .bool q_1.M.W.s, .slice q_1.M.W.A q_1.M.W.n q_1.M.W.c, .int .i64 q_1.M.W.e, .bool q_1.M.C.s, .slice q_1.M.C.A q_1.M.C.n q_1.M.C.c, .int .i64 q_1.M.C.e, .bool q_1.M.A.s, .slice q_1.M.A.A q_1.M.A.n q_1.M.A.c, .int .i64 q_1.M.A.e, .bool q_1.h, .int .i64 q_1.mn, .int .i64 q_1.mx, .slice q_1.A q_1.n q_1.c] := PBox.range bq_1
      go_wp2_with (first
       | (refine wpList_load_mid rfl 31 (.tmp 8) rfl (g_1) 0 rfl [.bool q_1.M.S.s, .slice q_1.M.S.A q_1.M.S.n q_1.M.S.c, .int .i64 q_1.M.S.e, .bool q_1.M.W.s, .slice q_1.M.W.A q_1.M.W.n q_1.M.W.c, .int .i64 q_1.M.W.e, .bool q_1.M.C.s, .slice q_1.M.C.A q_1.M.C.n q_1.M.C.c, .int .i64 q_1.M.C.e, .bool q_1.M.A.s, .slice q_1.M.A.A q_1.M.A.n q_1.M.A.c, .int .i64 q_1.M.A.e, .bool q_1.h, .int .i64 q_1.mn, .int .i64 q_1.mx, .slice q_1.A q_1.n q_1.c] _ rg_ Try.underlying31 rfl (by kernel_rfl) ?_))
      refine (Freeze_any U1 A_1 n0 c_1 gs_1 L1 z q_1 hRq_1 n28 SL1.out SP1.out ka ((freezeF_twin tf1.out tp1.out).trans KA.out)).mono ?_
      rintro e' v28 ⟨Aa, na, ca, ga, rfl, ta, j29, Oa, ra⟩
      try clear hw
      clear rg_
      replace ta := Lib.hid (twinF_trans (frozenF_twin (k := ka) (z := z) tf1.out tp1.out) ta)
      have LA := Oa.lfs
      have rg_ : v28.rangeAt (w.heap.size) 0 [.bool p.M.S.s, .slice p.M.S.A p.M.S.n p.M.S.c, .int .i64 p.M.S.e, .bool p.M.W.s, .slice p.M.W.A p.M.W.n p.M.W.c, .int .i64 p.M.W.e, .bool p.M.C.s, .slice p.M.C.A p.M.C.n p.M.C.c, .int .i64 p.M.C.e, .bool p.M.A.s, .slice p.M.A.A p.M.A.n p.M.A.c, .int .i64 p.M.A.e, .bool p.h, .int .i64 p.mn, .int .i64 p.mx, .slice p.A p.n p.c] := PBox.range (box_later bp (later j2 (later j4 (later bw1 j29))) S1)
      go_wp2_with (first
       | (refine wpList_load_mid rfl 31 (.tmp 5) rfl (w.heap.size) 0 rfl [.bool p.M.S.s, .slice p.M.S.A p.M.S.n p.M.S.c, .int .i64 p.M.S.e, .bool p.M.W.s, .slice p.M.W.A p.M.W.n p.M.W.c, .int .i64 p.M.W.e, .bool p.M.C.s, .slice p.M.C.A p.M.C.n p.M.C.c, .int .i64 p.M.C.e, .bool p.M.A.s, .slice p.M.A.A p.M.A.n p.M.A.c, .int .i64 p.M.A.e, .bool p.h, .int .i64 p.mn, .int .i64 p.mx, .slice p.A p.n p.c] _ rg_ Try.underlying31 rfl (by kernel_rfl) ?_))
      refine (RFreeze_any v28 A0 n0 c0 fs (LFs.on La (later j1 (later j2 (later j4 (later bw1 j29))))) z p (PRows.on hRp (later j1 (later j2 (later j4 (later bw1 j29))))) n28 SL.out SP.out ka KA.out).mono ?_
      rintro e' v30 ⟨Ab, nb, cb, gb, rfl, tb, j31, Ob, rb⟩
      try clear hw
      clear rg_
      replace tb := Lib.hid tb
      have LB := Ob.lfs
      go_wp2_with fail
      refine (Get_any v30 A_1 n0 c_1 gs_1 (LFs.on L1 (later j29 j31)) z SL1.out kg ((getF_twin tf1.out).trans KG.out)).mono ?_
      rintro e' v32 ⟨qX, rfl, tX, j33, RX⟩
      try clear hw
      replace tX := Lib.hid tX
      obtain ⟨uX, hu_, bx, jX, sX⟩ := alloc_p v32 qX
      go_upto_region 7 with (first
       | (refine wpList_store_new rfl 31 (.tmp 13) (.tmp 50) rfl _ #[.bool qX.M.S.s, .slice qX.M.S.A qX.M.S.n qX.M.S.c, .int .i64 qX.M.S.e, .bool qX.M.W.s, .slice qX.M.W.A qX.M.W.n qX.M.W.c, .int .i64 qX.M.W.e, .bool qX.M.C.s, .slice qX.M.C.A qX.M.C.n qX.M.C.c, .int .i64 qX.M.C.e, .bool qX.M.A.s, .slice qX.M.A.A qX.M.A.n qX.M.A.c, .int .i64 qX.M.A.e, .bool qX.h, .int .i64 qX.mn, .int .i64 qX.mx, .slice qX.A qX.n qX.c] rfl rfl (by kernel_rfl) rfl (all_oneCell_toArray (cells16_one qX)) ?_))
      try rw [hu_]
      try clear hu_
      have hRX : PRows uX 0 uX.heap.size qX := (RX.below jX (Nat.le_refl _)).more (Nat.zero_le _) (Below.size jX)
      replace tX := Lib.hid (twinP_trans (gotF_twin (k := kg) (z := z) tf1.out) tX.out)
      go_wp2_with fail
      refine (RGet_any uX A0 n0 c0 fs (LFs.on La (later j1 (later j2 (later j4 (later bw1 (later j29 (later j31 (later j33 jX)))))))) z SL.out kg KG.out).mono ?_
      rintro e' v34 ⟨qY, rfl, tY, j35, RY⟩
      try clear hw
      replace tY := Lib.hid tY
      obtain ⟨uY, hu_, bYy, jY, sY⟩ := alloc_p v34 qY
      go_upto_region 8 with (first
       | (refine wpList_store_new rfl 31 (.tmp 15) (.tmp 56) rfl _ #[.bool qY.M.S.s, .slice qY.M.S.A qY.M.S.n qY.M.S.c, .int .i64 qY.M.S.e, .bool qY.M.W.s, .slice qY.M.W.A qY.M.W.n qY.M.W.c, .int .i64 qY.M.W.e, .bool qY.M.C.s, .slice qY.M.C.A qY.M.C.n qY.M.C.c, .int .i64 qY.M.C.e, .bool qY.M.A.s, .slice qY.M.A.A qY.M.A.n qY.M.A.c, .int .i64 qY.M.A.e, .bool qY.h, .int .i64 qY.mn, .int .i64 qY.mx, .slice qY.A qY.n qY.c] rfl rfl (by kernel_rfl) rfl (all_oneCell_toArray (cells16_one qY)) ?_))
      try rw [hu_]
      try clear hu_
      have hRY : PRows uY 0 uY.heap.size qY := (RY.below jY (Nat.le_refl _)).more (Nat.zero_le _) (Below.size jY)
      go_wp2_with fail
      refine (Before_any uY A_1 n0 c_1 gs_1 (LFs.on L1 (later j29 (later j31 (later j33 (later jX (later j35 jY)))))) hcap z SL1.out kb ((askF_twin tf1.out).trans KB.out)).mono ?_
      rintro e' v36 ⟨Ac, nc, cc, gc, rfl, tc, j37, Oc, rc⟩
      try clear hw
      replace tc := Lib.hid (twinF_trans (beforeF_twin (k := kb) (z := z) tf1.out) tc)
      have LC := Oc.lfs
      go_wp2_with fail
      refine (RBefore_any v36 A0 n0 c0 fs (LFs.on La (later j1 (later j2 (later j4 (later bw1 (later j29 (later j31 (later j33 (later jX (later j35 (later jY j37))))))))))) z SL.out kb KB.out).mono ?_
      rintro e' v38 ⟨Ad, nd, cd, gd, rfl, td, j39, Od, rd⟩
      try clear hw
      replace td := Lib.hid td
      have LD := Od.lfs
      have e1 := Lib.hid (sameF_two ta.out tb.out)
      have e2 := Lib.hid (sameP_two tX.out tY.out)
      have e3 := Lib.hid (sameF_two tc.out td.out)
      have e5 := Lib.hid (twinF_same tf1.out)
      have e6 := Lib.hid (twinP_same tp1.out)
      have f1 : (ka == ka) = true := beq_self_eq_true _
      have f2 : (kg == kg) = true := beq_self_eq_true _
      have f3 : (kb == kb) = true := beq_self_eq_true _
      have f4 : (kc == kc) = true := beq_self_eq_true _
      have f5 : (kp == kp) = true := beq_self_eq_true _
      go_upto_region 10 with fail
      go_cut [21] from 70 to 111 (fun s_ wx => s_ = .bool true ∧ Below v38.heap.size v38 wx)
      case first =>
       try clear hw
       refine region_E (Keeps v38) [] (m := 43) (L := #[zF,zF,zF,zF,zF,zF,zF,zF,zF,zF,zF,zF,zF,zF,zF,zF,zF,zF,zF,zF,zF,zF,zF,zF,zF,zF,zF,zF,zF,zF,zF,zF,zF,zF,zF,zF,zF,zF,zF,zF,zF,zF,zF]) (by kernel_rfl) (by rfl) (by rfl) ?_
       have j41 : Below v38.heap.size v38 v38.drew := (Below.refl _ _).drew
       generalize v38.drew = v40 at *
       refine zE 0 #[zT,zF,zF,zF,zF,zF,zF,zF,zF,zF,zF,zF,zF,zF,zF,zF,zF,zF,zF,zF,zF,zF,zF,zF,zF,zF,zF,zF,zF,zF,zF,zF,zF,zF,zF,zF,zF,zF,zF,zF,zF,zF,zF] ?_ rfl ?hy9 ?rest9
       case hy9 => intro w; go_simp; (try with_reducible rfl)
       try simp only [Act.put, zp]
       refine zE 1 #[zT,zT,zF,zF,zF,zF,zF,zF,zF,zF,zF,zF,zF,zF,zF,zF,zF,zF,zF,zF,zF,zF,zF,zF,zF,zF,zF,zF,zF,zF,zF,zF,zF,zF,zF,zF,zF,zF,zF,zF,zF,zF,zF] ?_ rfl ?hy10 ?rest10
       case hy10 => intro w; go_simp; (try with_reducible rfl)
       try simp only [Act.put, zp]
       refine stepK (i := 2) (L := #[zT,zT,zT,zF,zF,zF,zF,zF,zF,zF,zF,zF,zF,zF,zF,zF,zF,zF,zF,zF,zF,zF,zF,zF,zF,zF,zF,zF,zF,zF,zF,zF,zF,zF,zF,zF,zF,zF,zF,zF,zF,zF,zF]) rfl (by rfl) (by kernel_rfl) (by rfl) (fun K hK => ?_)
       go_simp
       go_at_call 18
       refine (RSameF_any v40 Aa Ab na ca nb cb ga gb (LFs.on LA (later j31 (later j33 (later jX (later j35 (later jY (later j37 (later j39 j41)))))))) (LFs.on LB (later j33 (later jX (later j35 (later jY (later j37 (later j39 j41))))))) true e1.out).mono ?_
       rintro e' v42 ⟨rfl, j43⟩
       refine hK _ _ ⟨fun _ _ => fun p hp => Below.block (later j41 j43) p hp, ?_⟩
       clear hK K
       try simp only []
       refine zE 3 #[zT,zT,zT,zT,zF,zF,zF,zF,zF,zF,zF,zF,zF,zF,zF,zF,zF,zF,zF,zF,zF,zF,zF,zF,zF,zF,zF,zF,zF,zF,zF,zF,zF,zF,zF,zF,zF,zF,zF,zF,zF,zF,zF] ?_ rfl ?hy12 ?rest12
       case hy12 => intro w; go_simp; (try with_reducible rfl)
       try simp only [Act.put, zp]
       refine zE 4 #[zT,zT,zT,zT,zT,zF,zF,zF,zF,zF,zF,zF,zF,zF,zF,zF,zF,zF,zF,zF,zF,zF,zF,zF,zF,zF,zF,zF,zF,zF,zF,zF,zF,zF,zF,zF,zF,zF,zF,zF,zF,zF,zF] ?_ rfl ?hy13 ?rest13
       case hy13 => intro w; go_simp; (try with_reducible rfl)
       try simp only [Act.put, zp]
       refine zE 5 #[zT,zT,zT,zT,zT,zT,zF,zF,zF,zF,zF,zF,zF,zF,zF,zF,zF,zF,zF,zF,zF,zF,zF,zF,zF,zF,zF,zF,zF,zF,zF,zF,zF,zF,zF,zF,zF,zF,zF,zF,zF,zF,zF] ?_ rfl ?hy14 ?rest14
       case hy14 => intro w; go_simp; (try with_reducible rfl)
       try simp only [Act.put, zp]
       refine zE 6 #[zT,zT,zT,zT,zT,zT,zT,zF,zF,zF,zF,zF,zF,zF,zF,zF,zF,zF,zF,zF,zF,zF,zF,zF,zF,zF,zF,zF,zF,zF,zF,zF,zF,zF,zF,zF,zF,zF,zF,zF,zF,zF,zF] ?_ rfl ?hy15 ?rest15
       case hy15 => intro w; go_simp; (try with_reducible rfl)
       try simp only [Act.put, zp]
       refine zE 7 #[zT,zT,zT,zT,zT,zT,zT,zT,zF,zF,zF,zF,zF,zF,zF,zF,zF,zF,zF,zF,zF,zF,zF,zF,zF,zF,zF,zF,zF,zF,zF,zF,zF,zF,zF,zF,zF,zF,zF,zF,zF,zF,zF] ?_ rfl ?hy16 ?rest16
       case hy16 => intro w; go_simp; (try with_reducible rfl)
       try simp only [Act.put, zp]
       refine zE 8 #[zT,zT,zT,zT,zT,zT,zT,zT,zT,zF,zF,zF,zF,zF,zF,zF,zF,zF,zF,zF,zF,zF,zF,zF,zF,zF,zF,zF,zF,zF,zF,zF,zF,zF,zF,zF,zF,zF,zF,zF,zF,zF,zF] ?_ rfl ?hy17 ?rest17
       case hy17 => intro w; go_simp; (try with_reducible rfl)
       try simp only [Act.put, zp]
       have kpy44 : Keeps v38 v42 := fun p hp => Below.block (later j41 j43) p hp
       refine readE (i := 9) (L := #[zT,zT,zT,zT,zT,zT,zT,zT,zT,zT,zF,zF,zF,zF,zF,zF,zF,zF,zF,zF,zF,zF,zF,zF,zF,zF,zF,zF,zF,zF,zF,zF,zF,zF,zF,zF,zF,zF,zF,zF,zF,zF,zF]) (v := .agg #[.bool qX.M.S.s, .slice qX.M.S.A qX.M.S.n qX.M.S.c, .int .i64 qX.M.S.e, .bool qX.M.W.s, .slice qX.M.W.A qX.M.W.n qX.M.W.c, .int .i64 qX.M.W.e, .bool qX.M.C.s, .slice qX.M.C.A qX.M.C.n qX.M.C.c, .int .i64 qX.M.C.e, .bool qX.M.A.s, .slice qX.M.A.A qX.M.A.n qX.M.A.c, .int .i64 qX.M.A.e, .bool qX.h, .int .i64 qX.mn, .int .i64 qX.mx, .slice qX.A qX.n qX.c]) rfl (by rfl) (by kernel_rfl) (by kernel_rfl) (by kernel_rfl) (fun _ _ _ h => h) (by assumption) (by rfl) ?y44 ?z45
       case y44 =>
        intro w' h1
        exact run_load_op 31 (.tmp 13) rfl (v32.heap.size) 0 rfl (cells16 qX) _ (PBox.range ((h1 _ (Nat.lt_of_lt_of_le sX (Below.size (later j35 (later jY (later j37 j39)))))).trans (box_later bx (later j35 (later jY (later j37 j39))) sX))) Try.underlying31 rfl (by kernel_rfl)
       try simp only [Act.put, zp]
       have kpy46 : Keeps v38 v42 := fun p hp => Below.block (later j41 j43) p hp
       refine readE (i := 10) (L := #[zT,zT,zT,zT,zT,zT,zT,zT,zT,zT,zT,zF,zF,zF,zF,zF,zF,zF,zF,zF,zF,zF,zF,zF,zF,zF,zF,zF,zF,zF,zF,zF,zF,zF,zF,zF,zF,zF,zF,zF,zF,zF,zF]) (v := .agg #[.bool qY.M.S.s, .slice qY.M.S.A qY.M.S.n qY.M.S.c, .int .i64 qY.M.S.e, .bool qY.M.W.s, .slice qY.M.W.A qY.M.W.n qY.M.W.c, .int .i64 qY.M.W.e, .bool qY.M.C.s, .slice qY.M.C.A qY.M.C.n qY.M.C.c, .int .i64 qY.M.C.e, .bool qY.M.A.s, .slice qY.M.A.A qY.M.A.n qY.M.A.c, .int .i64 qY.M.A.e, .bool qY.h, .int .i64 qY.mn, .int .i64 qY.mx, .slice qY.A qY.n qY.c]) rfl (by rfl) (by kernel_rfl) (by kernel_rfl) (by kernel_rfl) (fun _ _ _ h => h) (by assumption) (by rfl) ?y46 ?z47
       case y46 =>
        intro w' h1
        exact run_load_op 31 (.tmp 15) rfl (v34.heap.size) 0 rfl (cells16 qY) _ (PBox.range ((h1 _ (Nat.lt_of_lt_of_le sY (Below.size (later j37 j39)))).trans (box_later bYy (later j37 j39) sY))) Try.underlying31 rfl (by kernel_rfl)
       try simp only [Act.put, zp]
       refine stepK (i := 11) (L := #[zT,zT,zT,zT,zT,zT,zT,zT,zT,zT,zT,zT,zF,zF,zF,zF,zF,zF,zF,zF,zF,zF,zF,zF,zF,zF,zF,zF,zF,zF,zF,zF,zF,zF,zF,zF,zF,zF,zF,zF,zF,zF,zF]) rfl (by rfl) (by kernel_rfl) (by rfl) (fun K hK => ?_)
       go_simp
       go_at_call 19
       refine (RSamePart_any v42 qX qY (PRows.on hRX (later j35 (later jY (later j37 (later j39 (later j41 j43)))))) (PRows.on hRY (later j37 (later j39 (later j41 j43)))) true e2.out).mono ?_
       rintro e' v48 ⟨rfl, j49⟩
       refine hK _ _ ⟨fun _ _ => fun p hp => Below.block (later j41 (later j43 j49)) p hp, ?_⟩
       clear hK K
       try simp only []
       refine zE 12 #[zT,zT,zT,zT,zT,zT,zT,zT,zT,zT,zT,zT,zT,zF,zF,zF,zF,zF,zF,zF,zF,zF,zF,zF,zF,zF,zF,zF,zF,zF,zF,zF,zF,zF,zF,zF,zF,zF,zF,zF,zF,zF,zF] ?_ rfl ?hy21 ?rest21
       case hy21 => intro w; go_simp; (try with_reducible rfl)
       try simp only [Act.put, zp]
       refine zE 13 #[zT,zT,zT,zT,zT,zT,zT,zT,zT,zT,zT,zT,zT,zT,zF,zF,zF,zF,zF,zF,zF,zF,zF,zF,zF,zF,zF,zF,zF,zF,zF,zF,zF,zF,zF,zF,zF,zF,zF,zF,zF,zF,zF] ?_ rfl ?hy22 ?rest22
       case hy22 => intro w; go_simp; (try with_reducible rfl)
       try simp only [Act.put, zp]
       refine zE 14 #[zT,zT,zT,zT,zT,zT,zT,zT,zT,zT,zT,zT,zT,zT,zT,zF,zF,zF,zF,zF,zF,zF,zF,zF,zF,zF,zF,zF,zF,zF,zF,zF,zF,zF,zF,zF,zF,zF,zF,zF,zF,zF,zF] ?_ rfl ?hy23 ?rest23
       case hy23 => intro w; go_simp; (try with_reducible rfl)
       try simp only [Act.put, zp]
       refine zE 15 #[zT,zT,zT,zT,zT,zT,zT,zT,zT,zT,zT,zT,zT,zT,zT,zT,zF,zF,zF,zF,zF,zF,zF,zF,zF,zF,zF,zF,zF,zF,zF,zF,zF,zF,zF,zF,zF,zF,zF,zF,zF,zF,zF] ?_ rfl ?hy24 ?rest24
       case hy24 => intro w; go_simp; (try with_reducible rfl)
       try simp only [Act.put, zp]
       refine zE 16 #[zT,zT,zT,zT,zT,zT,zT,zT,zT,zT,zT,zT,zT,zT,zT,zT,zT,zF,zF,zF,zF,zF,zF,zF,zF,zF,zF,zF,zF,zF,zF,zF,zF,zF,zF,zF,zF,zF,zF,zF,zF,zF,zF] ?_ rfl ?hy25 ?rest25
       case hy25 => intro w; go_simp; (try with_reducible rfl)
       try simp only [Act.put, zp]
       refine zE 17 #[zT,zT,zT,zT,zT,zT,zT,zT,zT,zT,zT,zT,zT,zT,zT,zT,zT,zT,zF,zF,zF,zF,zF,zF,zF,zF,zF,zF,zF,zF,zF,zF,zF,zF,zF,zF,zF,zF,zF,zF,zF,zF,zF] ?_ rfl ?hy26 ?rest26
       case hy26 => intro w; go_simp; (try with_reducible rfl)
       try simp only [Act.put, zp]
       refine zE 18 #[zT,zT,zT,zT,zT,zT,zT,zT,zT,zT,zT,zT,zT,zT,zT,zT,zT,zT,zT,zF,zF,zF,zF,zF,zF,zF,zF,zF,zF,zF,zF,zF,zF,zF,zF,zF,zF,zF,zF,zF,zF,zF,zF] ?_ rfl ?hy27 ?rest27
       case hy27 => intro w; go_simp; (try with_reducible rfl)
       try simp only [Act.put, zp]
       refine zE 19 #[zT,zT,zT,zT,zT,zT,zT,zT,zT,zT,zT,zT,zT,zT,zT,zT,zT,zT,zT,zT,zF,zF,zF,zF,zF,zF,zF,zF,zF,zF,zF,zF,zF,zF,zF,zF,zF,zF,zF,zF,zF,zF,zF] ?_ rfl ?hy28 ?rest28
       case hy28 => intro w; go_simp; (try with_reducible rfl)
       try simp only [Act.put, zp]
       refine zE 20 #[zT,zT,zT,zT,zT,zT,zT,zT,zT,zT,zT,zT,zT,zT,zT,zT,zT,zT,zT,zT,zT,zF,zF,zF,zF,zF,zF,zF,zF,zF,zF,zF,zF,zF,zF,zF,zF,zF,zF,zF,zF,zF,zF] ?_ rfl ?hy29 ?rest29
       case hy29 => intro w; go_simp; (try with_reducible rfl)
       try simp only [Act.put, zp]
       refine stepK (i := 21) (L := #[zT,zT,zT,zT,zT,zT,zT,zT,zT,zT,zT,zT,zT,zT,zT,zT,zT,zT,zT,zT,zT,zT,zF,zF,zF,zF,zF,zF,zF,zF,zF,zF,zF,zF,zF,zF,zF,zF,zF,zF,zF,zF,zF]) rfl (by rfl) (by kernel_rfl) (by rfl) (fun K hK => ?_)
       go_simp
       go_at_call 18
       refine (RSameF_any v48 Ac Ad nc cc nd cd gc gd (LFs.on LC (later j39 (later j41 (later j43 j49)))) (LFs.on LD (later j41 (later j43 j49))) true e3.out).mono ?_
       rintro e' v50 ⟨rfl, j51⟩
       refine hK _ _ ⟨fun _ _ => fun p hp => Below.block (later j41 (later j43 (later j49 j51))) p hp, ?_⟩
       clear hK K
       try simp only []
       refine zE 22 #[zT,zT,zT,zT,zT,zT,zT,zT,zT,zT,zT,zT,zT,zT,zT,zT,zT,zT,zT,zT,zT,zT,zT,zF,zF,zF,zF,zF,zF,zF,zF,zF,zF,zF,zF,zF,zF,zF,zF,zF,zF,zF,zF] ?_ rfl ?hy31 ?rest31
       case hy31 => intro w; go_simp; (try with_reducible rfl)
       try simp only [Act.put, zp]
       refine zE 23 #[zT,zT,zT,zT,zT,zT,zT,zT,zT,zT,zT,zT,zT,zT,zT,zT,zT,zT,zT,zT,zT,zT,zT,zT,zF,zF,zF,zF,zF,zF,zF,zF,zF,zF,zF,zF,zF,zF,zF,zF,zF,zF,zF] ?_ rfl ?hy32 ?rest32
       case hy32 => intro w; go_simp; (try with_reducible rfl)
       try simp only [Act.put, zp]
       refine zE 24 #[zT,zT,zT,zT,zT,zT,zT,zT,zT,zT,zT,zT,zT,zT,zT,zT,zT,zT,zT,zT,zT,zT,zT,zT,zT,zF,zF,zF,zF,zF,zF,zF,zF,zF,zF,zF,zF,zF,zF,zF,zF,zF,zF] ?_ rfl ?hy33 ?rest33
       case hy33 => intro w; go_simp; (try with_reducible rfl)
       try simp only [Act.put, zp]
       refine zE 25 #[zT,zT,zT,zT,zT,zT,zT,zT,zT,zT,zT,zT,zT,zT,zT,zT,zT,zT,zT,zT,zT,zT,zT,zT,zT,zT,zF,zF,zF,zF,zF,zF,zF,zF,zF,zF,zF,zF,zF,zF,zF,zF,zF] ?_ rfl ?hy34 ?rest34
       case hy34 => intro w; go_simp; (try with_reducible rfl)
       try simp only [Act.put, zp]
       refine zE 26 #[zT,zT,zT,zT,zT,zT,zT,zT,zT,zT,zT,zT,zT,zT,zT,zT,zT,zT,zT,zT,zT,zT,zT,zT,zT,zT,zT,zF,zF,zF,zF,zF,zF,zF,zF,zF,zF,zF,zF,zF,zF,zF,zF] ?_ rfl ?hy35 ?rest35
       case hy35 => intro w; go_simp; (try with_reducible rfl)
       try simp only [Act.put, zp]
       refine zE 27 #[zT,zT,zT,zT,zT,zT,zT,zT,zT,zT,zT,zT,zT,zT,zT,zT,zT,zT,zT,zT,zT,zT,zT,zT,zT,zT,zT,zT,zF,zF,zF,zF,zF,zF,zF,zF,zF,zF,zF,zF,zF,zF,zF] ?_ rfl ?hy36 ?rest36
       case hy36 => intro w; go_simp; (try with_reducible rfl)
       try simp only [Act.put, zp]
       refine zE 28 #[zT,zT,zT,zT,zT,zT,zT,zT,zT,zT,zT,zT,zT,zT,zT,zT,zT,zT,zT,zT,zT,zT,zT,zT,zT,zT,zT,zT,zT,zF,zF,zF,zF,zF,zF,zF,zF,zF,zF,zF,zF,zF,zF] ?_ rfl ?hy37 ?rest37
       case hy37 => intro w; go_simp; (try with_reducible rfl)
       try simp only [Act.put, zp]
       refine zE 29 #[zT,zT,zT,zT,zT,zT,zT,zT,zT,zT,zT,zT,zT,zT,zT,zT,zT,zT,zT,zT,zT,zT,zT,zT,zT,zT,zT,zT,zT,zT,zF,zF,zF,zF,zF,zF,zF,zF,zF,zF,zF,zF,zF] ?_ rfl ?hy38 ?rest38
       case hy38 => intro w; go_simp; (try with_reducible rfl)
       try simp only [Act.put, zp]
       refine zE 31 #[zT,zT,zT,zT,zT,zT,zT,zT,zT,zT,zT,zT,zT,zT,zT,zT,zT,zT,zT,zT,zT,zT,zT,zT,zT,zT,zT,zT,zT,zT,zF,zT,zF,zF,zF,zF,zF,zF,zF,zF,zF,zF,zF] ?_ rfl ?hy39 ?rest39
       case hy39 => intro w; go_simp; (try with_reducible rfl)
       try simp only [Act.put, zp]
       refine stepK (i := 30) (L := #[zT,zT,zT,zT,zT,zT,zT,zT,zT,zT,zT,zT,zT,zT,zT,zT,zT,zT,zT,zT,zT,zT,zT,zT,zT,zT,zT,zT,zT,zT,zT,zT,zF,zF,zF,zF,zF,zF,zF,zF,zF,zF,zF]) rfl (by rfl) (by kernel_rfl) (by rfl) (fun K hK => ?_)
       go_simp
       go_at_call 30
       refine (CheckF_any v50 A_1 n0 c_1 gs_1 (LFs.on L1 (later j29 (later j31 (later j33 (later jX (later j35 (later jY (later j37 (later j39 (later j41 (later j43 (later j49 j51)))))))))))) kc ((checkF_twin tf1.out).trans KC.out)).mono ?_
       rintro e' v52 ⟨rfl, j53⟩
       refine hK _ _ ⟨fun _ _ => fun p hp => Below.block (later j41 (later j43 (later j49 (later j51 j53)))) p hp, ?_⟩
       clear hK K
       try simp only []
       refine stepK (i := 32) (L := #[zT,zT,zT,zT,zT,zT,zT,zT,zT,zT,zT,zT,zT,zT,zT,zT,zT,zT,zT,zT,zT,zT,zT,zT,zT,zT,zT,zT,zT,zT,zT,zT,zT,zF,zF,zF,zF,zF,zF,zF,zF,zF,zF]) rfl (by rfl) (by kernel_rfl) (by rfl) (fun K hK => ?_)
       go_simp
       go_at_call 31
       refine (RCheckF_any v52 A0 n0 c0 fs (LFs.on La (later j1 (later j2 (later j4 (later bw1 (later j29 (later j31 (later j33 (later jX (later j35 (later jY (later j37 (later j39 (later j41 (later j43 (later j49 (later j51 j53))))))))))))))))) kc KC.out).mono ?_
       rintro e' v54 ⟨rfl, j55⟩
       refine hK _ _ ⟨fun _ _ => fun p hp => Below.block (later j41 (later j43 (later j49 (later j51 (later j53 j55))))) p hp, ?_⟩
       clear hK K
       try simp only []
       refine zE 33 #[zT,zT,zT,zT,zT,zT,zT,zT,zT,zT,zT,zT,zT,zT,zT,zT,zT,zT,zT,zT,zT,zT,zT,zT,zT,zT,zT,zT,zT,zT,zT,zT,zT,zT,zF,zF,zF,zF,zF,zF,zF,zF,zF] ?_ rfl ?hy42 ?rest42
       case hy42 => intro w; go_simp; (try with_reducible rfl)
       try simp only [Act.put, zp]
       refine zE 34 #[zT,zT,zT,zT,zT,zT,zT,zT,zT,zT,zT,zT,zT,zT,zT,zT,zT,zT,zT,zT,zT,zT,zT,zT,zT,zT,zT,zT,zT,zT,zT,zT,zT,zT,zT,zF,zF,zF,zF,zF,zF,zF,zF] ?_ rfl ?hy43 ?rest43
       case hy43 => intro w; go_simp; (try with_reducible rfl)
       try simp only [Act.put, zp]
       refine zE 35 #[zT,zT,zT,zT,zT,zT,zT,zT,zT,zT,zT,zT,zT,zT,zT,zT,zT,zT,zT,zT,zT,zT,zT,zT,zT,zT,zT,zT,zT,zT,zT,zT,zT,zT,zT,zT,zF,zF,zF,zF,zF,zF,zF] ?_ rfl ?hy44 ?rest44
       case hy44 => intro w; go_simp; (try with_reducible rfl)
       try simp only [Act.put, zp]
       have kpy56 : Keeps v38 v54 := fun p hp => Below.block (later j41 (later j43 (later j49 (later j51 (later j53 j55))))) p hp
       refine readE (i := 36) (L := #[zT,zT,zT,zT,zT,zT,zT,zT,zT,zT,zT,zT,zT,zT,zT,zT,zT,zT,zT,zT,zT,zT,zT,zT,zT,zT,zT,zT,zT,zT,zT,zT,zT,zT,zT,zT,zT,zF,zF,zF,zF,zF,zF]) (v := .agg #[.bool q_1.M.S.s, .slice q_1.M.S.A q_1.M.S.n q_1.M.S.c, .int .i64 q_1.M.S.e, .bool q_1.M.W.s, .slice q_1.M.W.A q_1.M.W.n q_1.M.W.c, .int .i64 q_1.M.W.e, .bool q_1.M.C.s, .slice q_1.M.C.A q_1.M.C.n q_1.M.C.c, .int .i64 q_1.M.C.e, .bool q_1.M.A.s, .slice q_1.M.A.A q_1.M.A.n q_1.M.A.c, .int .i64 q_1.M.A.e, .bool q_1.h, .int .i64 q_1.mn, .int .i64 q_1.mx, .slice q_1.A q_1.n q_1.c]) rfl (by rfl) (by kernel_rfl) (by kernel_rfl) (by kernel_rfl) (fun _ _ _ h => h) (by assumption) (by rfl) ?y56 ?z57
       case y56 =>
        intro w' h1
        exact run_load_op 31 (.tmp 8) rfl (g_1) 0 rfl (cells16 q_1) _ (PBox.range ((h1 _ (Nat.lt_of_lt_of_le sq_1 (Below.size (later j29 (later j31 (later j33 (later jX (later j35 (later jY (later j37 j39)))))))))).trans (box_later bq_1 (later j29 (later j31 (later j33 (later jX (later j35 (later jY (later j37 j39))))))) sq_1))) Try.underlying31 rfl (by kernel_rfl)
       try simp only [Act.put, zp]
       have kpy58 : Keeps v38 v54 := fun p hp => Below.block (later j41 (later j43 (later j49 (later j51 (later j53 j55))))) p hp
       refine readE (i := 38) (L := #[zT,zT,zT,zT,zT,zT,zT,zT,zT,zT,zT,zT,zT,zT,zT,zT,zT,zT,zT,zT,zT,zT,zT,zT,zT,zT,zT,zT,zT,zT,zT,zT,zT,zT,zT,zT,zT,zF,zT,zF,zF,zF,zF]) (v := .agg #[.bool p.M.S.s, .slice p.M.S.A p.M.S.n p.M.S.c, .int .i64 p.M.S.e, .bool p.M.W.s, .slice p.M.W.A p.M.W.n p.M.W.c, .int .i64 p.M.W.e, .bool p.M.C.s, .slice p.M.C.A p.M.C.n p.M.C.c, .int .i64 p.M.C.e, .bool p.M.A.s, .slice p.M.A.A p.M.A.n p.M.A.c, .int .i64 p.M.A.e, .bool p.h, .int .i64 p.mn, .int .i64 p.mx, .slice p.A p.n p.c]) rfl (by rfl) (by kernel_rfl) (by kernel_rfl) (by kernel_rfl) (fun _ _ _ h => h) (by assumption) (by rfl) ?y58 ?z59
       case y58 =>
        intro w' h1
        exact run_load_op 31 (.tmp 5) rfl (w.heap.size) 0 rfl (cells16 p) _ (PBox.range ((h1 _ (Nat.lt_of_lt_of_le S1 (Below.size (later j2 (later j4 (later bw1 (later j29 (later j31 (later j33 (later jX (later j35 (later jY (later j37 j39))))))))))))).trans (box_later bp (later j2 (later j4 (later bw1 (later j29 (later j31 (later j33 (later jX (later j35 (later jY (later j37 j39)))))))))) S1))) Try.underlying31 rfl (by kernel_rfl)
       try simp only [Act.put, zp]
       refine stepK (i := 37) (L := #[zT,zT,zT,zT,zT,zT,zT,zT,zT,zT,zT,zT,zT,zT,zT,zT,zT,zT,zT,zT,zT,zT,zT,zT,zT,zT,zT,zT,zT,zT,zT,zT,zT,zT,zT,zT,zT,zT,zT,zF,zF,zF,zF]) rfl (by rfl) (by kernel_rfl) (by rfl) (fun K hK => ?_)
       go_simp
       go_at_call 32
       refine (CheckPart_code v54 q_1 (PRows.on hRq_1 (later j29 (later j31 (later j33 (later jX (later j35 (later jY (later j37 (later j39 (later j41 (later j43 (later j49 (later j51 (later j53 j55)))))))))))))) kp (by rw [twinP_codes tp1.out]; exact KP.out)).mono ?_
       rintro e' v60 ⟨rfl, j61⟩
       refine hK _ _ ⟨fun _ _ => fun p hp => Below.block (later j41 (later j43 (later j49 (later j51 (later j53 (later j55 j61)))))) p hp, ?_⟩
       clear hK K
       try simp only []
       refine stepK (i := 39) (L := #[zT,zT,zT,zT,zT,zT,zT,zT,zT,zT,zT,zT,zT,zT,zT,zT,zT,zT,zT,zT,zT,zT,zT,zT,zT,zT,zT,zT,zT,zT,zT,zT,zT,zT,zT,zT,zT,zT,zT,zT,zF,zF,zF]) rfl (by rfl) (by kernel_rfl) (by rfl) (fun K hK => ?_)
       go_simp
       go_at_call 33
       refine (RCheckPart_code v60 p (PRows.on hRp (later j1 (later j2 (later j4 (later bw1 (later j29 (later j31 (later j33 (later jX (later j35 (later jY (later j37 (later j39 (later j41 (later j43 (later j49 (later j51 (later j53 (later j55 j61))))))))))))))))))) kp KP.out).mono ?_
       rintro e' v62 ⟨rfl, j63⟩
       refine hK _ _ ⟨fun _ _ => fun p hp => Below.block (later j41 (later j43 (later j49 (later j51 (later j53 (later j55 (later j61 j63))))))) p hp, ?_⟩
       clear hK K
       try simp only []
       refine zE 40 #[zT,zT,zT,zT,zT,zT,zT,zT,zT,zT,zT,zT,zT,zT,zT,zT,zT,zT,zT,zT,zT,zT,zT,zT,zT,zT,zT,zT,zT,zT,zT,zT,zT,zT,zT,zT,zT,zT,zT,zT,zT,zF,zF] ?_ rfl ?hy49 ?rest49
       case hy49 => intro w; go_simp; (try with_reducible rfl)
       try simp only [Act.put, zp]
       refine zE 41 #[zT,zT,zT,zT,zT,zT,zT,zT,zT,zT,zT,zT,zT,zT,zT,zT,zT,zT,zT,zT,zT,zT,zT,zT,zT,zT,zT,zT,zT,zT,zT,zT,zT,zT,zT,zT,zT,zT,zT,zT,zT,zT,zF] ?_ rfl ?hy50 ?rest50
       case hy50 => intro w; go_simp; (try with_reducible rfl)
       try simp only [Act.put, zp]
       refine zE 42 #[zT,zT,zT,zT,zT,zT,zT,zT,zT,zT,zT,zT,zT,zT,zT,zT,zT,zT,zT,zT,zT,zT,zT,zT,zT,zT,zT,zT,zT,zT,zT,zT,zT,zT,zT,zT,zT,zT,zT,zT,zT,zT,zT] ?_ rfl ?hy51 ?rest51
       case hy51 => intro w; go_simp; (try with_reducible rfl)
       try simp only [Act.put, zp]
       refine doneE (by kernel_rfl) ?_ _
       go_wp2_with fail
       go_meet
       exact ⟨rfl, (later j41 (later j43 (later j49 (later j51 (later j53 (later j55 (later j61 j63)))))))⟩
      case rest =>
       obtain ⟨rfl, jX5⟩ := hcut
       obtain ⟨X5, hwc⟩ : ∃ W : World, W = wc := ⟨_, rfl⟩
       subst hwc
       have sA : Hid (SmallF ga) := Lib.hid (twinF_small ta.out (small_frozen SL.out SP.out))
       have sC : Hid (SmallF gc) := Lib.hid (twinF_small tc.out (small_before SL.out))
       have sXs : Hid (SmallP qX) := Lib.hid (twinP_small tX.out (small_got SL.out))
       have OA := (OwnF.on Oa (later j31 (later j33 (later jX (later j35 (later jY (later j37 (later j39 jX5))))))))
       have OC := (OwnF.on Oc (later j39 jX5))
       have rA : ∀ f ∈ ga, PRows X5 U1.heap.size v28.heap.size f.P := fun f hf => (ra f hf).below (later j31 (later j33 (later jX (later j35 (later jY (later j37 (later j39 jX5))))))) (Nat.le_refl _)
       have rC : ∀ f ∈ gc, PRows X5 uY.heap.size v36.heap.size f.P := fun f hf => (rc f hf).below (later j39 jX5) (Nat.le_refl _)
       have kA := Oa.own.lt
       have kC := Oc.own.lt
       have bX := (box_later bx (later j35 (later jY (later j37 (later j39 jX5)))) sX)
       have hX := RX.below (later jX (later j35 (later jY (later j37 (later j39 jX5))))) (Nat.le_refl _)
       have fL1 := LFs.below L1 (later j29 (later j31 (later j33 (later jX (later j35 (later jY (later j37 (later j39 jX5)))))))) (Nat.le_refl _)
       have fLa := LFs.below La (later j1 (later j2 (later j4 (later bw1 (later j29 (later j31 (later j33 (later jX (later j35 (later jY (later j37 (later j39 jX5)))))))))))) (Nat.le_refl _)
       have fp := PRows.below hRp (later j1 (later j2 (later j4 (later bw1 (later j29 (later j31 (later j33 (later jX (later j35 (later jY (later j37 (later j39 jX5)))))))))))) (Nat.le_refl _)
       have fq := PRows.below hRq_1 (later j29 (later j31 (later j33 (later jX (later j35 (later jY (later j37 (later j39 jX5)))))))) (Nat.le_refl _)
       have fbp := (box_later bp (later j2 (later j4 (later bw1 (later j29 (later j31 (later j33 (later jX (later j35 (later jY (later j37 (later j39 jX5))))))))))) S1)
       have fbq := (box_later bq_1 (later j29 (later j31 (later j33 (later jX (later j35 (later jY (later j37 (later j39 jX5)))))))) sq_1)
       have fin := (later j1 (later j2 (later j4 (later bw1 (later j29 (later j31 (later j33 (later jX (later j35 (later jY (later j37 (later j39 jX5))))))))))))
       have z1 := Below.size j1
       have z2 := Below.size (later j2 (later j4 bw1))
       have z3 := Below.size j29
       have z4 := Below.size j31
       have z5 := Below.size j33
       have z6 := Below.size (later j35 jY)
       have z7 := Below.size j37
       have z8 := Below.size (later j39 jX5)
       clear Oa Oc ra rc
       have z9 : v32.heap.size < uY.heap.size := by
        have := (Nat.lt_of_lt_of_le sX (Below.size (later j35 jY)))
        omega
       have z10 : v28.heap.size ≤ v32.heap.size := by omega
       go_wp2_with fail
       refine (spoilAll20_any X5 U1.heap.size Aa na ca ga OA U1.heap.size v28.heap.size rA (fun k hk => kA k hk) (by omega) (by omega) sA.out).mono ?_
       rintro e' x1 ⟨rfl, hB, hF, hW⟩
       have sy1 := hB.size
       have OC1 := OC.from rC (by omega) hF (by omega) sy1
       have rC1 : ∀ f ∈ gc, PRows x1 uY.heap.size v36.heap.size f.P := fun f hf => (rC f hf).rng fun b h1 h2 => hF b (by omega) (by omega)
       have bX1 : PBox x1 (v32.heap.size) qX := (hF _ (by omega) (by omega)).trans bX
       have wS1 : ∀ x, x < 4 → WrR x1 v30.heap.size v32.heap.size (qX.M.get x).A (qX.M.get x).n := fun x hx => (WrR.of (hX.M.get x)).keep hW
       have wL1 : WrR x1 v30.heap.size v32.heap.size qX.A qX.n := (WrR.of hX.L).keep hW
       clear OA rA OC rC bX hX hF hW
       go_wp2_with fail
       refine (spoilAll20_any x1 uY.heap.size Ac nc cc gc OC1 uY.heap.size v36.heap.size rC1 (fun k hk => kC k hk) (by omega) (by omega) sC.out).mono ?_
       rintro e' x2 ⟨rfl, hB2, hF2, hW2⟩
       have sy2 := hB2.size
       have bX2 : PBox x2 (v32.heap.size) qX := (hB2.block _ z9).trans bX1
       have wS2 : ∀ x, x < 4 → WrR x2 v30.heap.size v32.heap.size (qX.M.get x).A (qX.M.get x).n := fun x hx => (wS1 x hx).keep hW2
       have wL2 := wL1.keep hW2
       have hb2 := hB.trans (hB2.mono (show U1.heap.size ≤ uY.heap.size by omega))
       clear OC1 rC1 bX1 wS1 wL1 hF2 hW2 hB hB2
       have rg_ : x2.rangeAt (v32.heap.size) 0 [.bool qX.M.S.s, .slice qX.M.S.A qX.M.S.n qX.M.S.c, .int .i64 qX.M.S.e, .bool qX.M.W.s, .slice qX.M.W.A qX.M.W.n qX.M.W.c, .int .i64 qX.M.W.e, .bool qX.M.C.s, .slice qX.M.C.A qX.M.C.n qX.M.C.c, .int .i64 qX.M.C.e, .bool qX.M.A.s, .slice qX.M.A.A qX.M.A.n qX.M.A.c, .int .i64 qX.M.A.e, .bool qX.h, .int .i64 qX.mn, .int .i64 qX.mx, .slice qX.A qX.n qX.c] := PBox.range bX2
       go_wp2_with (first
        | (refine wpList_load_mid rfl 31 (.tmp 13) rfl (v32.heap.size) 0 rfl [.bool qX.M.S.s, .slice qX.M.S.A qX.M.S.n qX.M.S.c, .int .i64 qX.M.S.e, .bool qX.M.W.s, .slice qX.M.W.A qX.M.W.n qX.M.W.c, .int .i64 qX.M.W.e, .bool qX.M.C.s, .slice qX.M.C.A qX.M.C.n qX.M.C.c, .int .i64 qX.M.C.e, .bool qX.M.A.s, .slice qX.M.A.A qX.M.A.n qX.M.A.c, .int .i64 qX.M.A.e, .bool qX.h, .int .i64 qX.mn, .int .i64 qX.mx, .slice qX.A qX.n qX.c] _ rg_ Try.underlying31 rfl (by kernel_rfl) ?_))
       refine (spoil20_any x2 qX v30.heap.size v32.heap.size (fun x hx => ⟨wS2 x hx, sXs.out.1 x hx⟩) wL2 sXs.out.2 (by omega) (by omega)).mono ?_
       rintro e' x3 ⟨rfl, hB3, _, _, _⟩
       clear rg_ bX2 wS2 wL2
       have b2 := hb2.trans (hB3.mono (show U1.heap.size ≤ v30.heap.size by omega))
       have s2 := b2.size
       have gL1 := (fL1.below b2 (Nat.le_refl _)).more (lo' := 0) (hi' := x3.heap.size) (Nat.zero_le _) (by omega)
       have gLa := (fLa.below b2 (by omega)).more (lo' := 0) (hi' := x3.heap.size) (Nat.zero_le _) (by omega)
       have gp := (fp.below b2 (by omega)).more (lo' := 0) (hi' := x3.heap.size) (Nat.zero_le _) (by omega)
       have gq := (fq.below b2 (Nat.le_refl _)).more (lo' := 0) (hi' := x3.heap.size) (Nat.zero_le _) (by omega)
       have gbp := (b2.block _ (by omega)).trans fbp
       have gbq := (b2.block _ (by omega)).trans fbq
       have fin2 := fin.trans (b2.mono (by omega))
       clear hb2 hB3 fL1 fLa fp fq fbp fbq
       go_wp2_with fail
       refine (RSameF_any x3 A_1 A0 n0 c_1 n0 c0 gs_1 fs gL1 gLa true e5.out).mono ?_
       rintro e' x4 ⟨rfl, b3⟩
       have hbp : PBox x4 w.heap.size p := (b3.block _ (by omega)).trans gbp
       have hbq : PBox x4 g_1 q_1 := (b3.block _ (by omega)).trans gbq
       have rgp : x4.rangeAt w.heap.size 0 [.bool p.M.S.s, .slice p.M.S.A p.M.S.n p.M.S.c, .int .i64 p.M.S.e, .bool p.M.W.s, .slice p.M.W.A p.M.W.n p.M.W.c, .int .i64 p.M.W.e, .bool p.M.C.s, .slice p.M.C.A p.M.C.n p.M.C.c, .int .i64 p.M.C.e, .bool p.M.A.s, .slice p.M.A.A p.M.A.n p.M.A.c, .int .i64 p.M.A.e, .bool p.h, .int .i64 p.mn, .int .i64 p.mx, .slice p.A p.n p.c] := hbp.range
       have rgq : x4.rangeAt g_1 0 [.bool q_1.M.S.s, .slice q_1.M.S.A q_1.M.S.n q_1.M.S.c, .int .i64 q_1.M.S.e, .bool q_1.M.W.s, .slice q_1.M.W.A q_1.M.W.n q_1.M.W.c, .int .i64 q_1.M.W.e, .bool q_1.M.C.s, .slice q_1.M.C.A q_1.M.C.n q_1.M.C.c, .int .i64 q_1.M.C.e, .bool q_1.M.A.s, .slice q_1.M.A.A q_1.M.A.n q_1.M.A.c, .int .i64 q_1.M.A.e, .bool q_1.h, .int .i64 q_1.mn, .int .i64 q_1.mx, .slice q_1.A q_1.n q_1.c] := hbq.range
       go_wp2_with (first
        | (refine wpList_load_midG (by rfl) 31 (.tmp 8) rfl g_1 0 rfl [.bool q_1.M.S.s, .slice q_1.M.S.A q_1.M.S.n q_1.M.S.c, .int .i64 q_1.M.S.e, .bool q_1.M.W.s, .slice q_1.M.W.A q_1.M.W.n q_1.M.W.c, .int .i64 q_1.M.W.e, .bool q_1.M.C.s, .slice q_1.M.C.A q_1.M.C.n q_1.M.C.c, .int .i64 q_1.M.C.e, .bool q_1.M.A.s, .slice q_1.M.A.A q_1.M.A.n q_1.M.A.c, .int .i64 q_1.M.A.e, .bool q_1.h, .int .i64 q_1.mn, .int .i64 q_1.mx, .slice q_1.A q_1.n q_1.c] _ rgq Try.underlying31 rfl (by kernel_rfl) ?_)
        | (refine wpList_load_midG (by rfl) 31 (.tmp 5) rfl w.heap.size 0 rfl [.bool p.M.S.s, .slice p.M.S.A p.M.S.n p.M.S.c, .int .i64 p.M.S.e, .bool p.M.W.s, .slice p.M.W.A p.M.W.n p.M.W.c, .int .i64 p.M.W.e, .bool p.M.C.s, .slice p.M.C.A p.M.C.n p.M.C.c, .int .i64 p.M.C.e, .bool p.M.A.s, .slice p.M.A.A p.M.A.n p.M.A.c, .int .i64 p.M.A.e, .bool p.h, .int .i64 p.mn, .int .i64 p.mx, .slice p.A p.n p.c] _ rgp Try.underlying31 rfl (by kernel_rfl) ?_))
       refine (RSamePart_any x4 q_1 p (gq.on b3) (gp.on b3) true e6.out).mono ?_
       rintro e' x5 ⟨rfl, b4⟩
       clear rgp rgq
       go_wp2
       go_ret
       exact ⟨rfl, (fin2.trans (b3.mono (by omega))).trans (b4.mono (by have := b3.size; omega))⟩
end Ma
end Go.Proofs.Ytbbnbgllgomolaa
namespace Go.Proofs.Ytbbnbgllgomolaa
open Go.ChangeShapes Go.WideShapes Go.ChangeAt Go.RowKit Go.Joins Go.Deep
section
variable {H : Type} {enc : TypeId × Value → H} {W : World}
set_option maxRecDepth 100000 in
theorem mass_trodP {fuel : Nat} {cs : List Value} {x : DataW H × List MemPlace}
  (h : DataW.trod enc Try.prog W 0 (fun _ => true) true fuel 27 cs = some x) (hfz : ∀ b off, MemPlace.cell b off ∈ x.2 → W.frozen? ⟨b, off, none⟩ = false) (hlt : ∀ q ∈ x.2, q.block < W.heap.size) :
  ∃ m : Ma.Mv, cs = [.bool m.S.s, .slice m.S.A m.S.n m.S.c, .int .i64 m.S.e, .bool m.W.s, .slice m.W.A m.W.n m.W.c, .int .i64 m.W.e, .bool m.C.s, .slice m.C.A m.C.n m.C.c, .int .i64 m.C.e, .bool m.A.s, .slice m.A.A m.A.n m.A.c, .int .i64 m.A.e] ∧
   Ma.MRows W 0 W.heap.size m := by
 obtain ⟨y0, y1, y2, y3, n, hx, hl, h0, h1, h2, h3⟩ := trod_struct4 Try.underlying27 h
 match cs, hl.trans (show Try.prog.cellsOf 27 = 12 by kernel_rfl) with
 | [c0, c1, c2, c3, c4, c5, c6, c7, c8, c9, c10, c11], _ =>
  have hx2 : x.2 = y0.2 ++ (y1.2 ++ (y2.2 ++ y3.2)) := by rw [hx]
  have hC3 : Try.prog.cellsOf 25 = 3 := by kernel_rfl
  simp only [hC3, List.drop_zero, List.take_succ_cons, List.take_zero, List.drop_succ_cons] at h0 h1 h2 h3
  obtain ⟨d0, rfl, rfl, rfl, _, r0⟩ := dv_trod Try.underlying25 (by kernel_rfl) Try.underlying4 Try.underlying23 Try.underlying70 (by kernel_rfl) Try.underlying3 h0 (fun b off hm => hfz b off (by simp [hx2, hm])) (fun q hq => hlt q (by simp [hx2, hq]))
  obtain ⟨d1, rfl, rfl, rfl, _, r1⟩ := dv_trod Try.underlying25 (by kernel_rfl) Try.underlying4 Try.underlying23 Try.underlying70 (by kernel_rfl) Try.underlying3 h1 (fun b off hm => hfz b off (by simp [hx2, hm])) (fun q hq => hlt q (by simp [hx2, hq]))
  obtain ⟨d2, rfl, rfl, rfl, _, r2⟩ := dv_trod Try.underlying25 (by kernel_rfl) Try.underlying4 Try.underlying23 Try.underlying70 (by kernel_rfl) Try.underlying3 h2 (fun b off hm => hfz b off (by simp [hx2, hm])) (fun q hq => hlt q (by simp [hx2, hq]))
  obtain ⟨d3, rfl, rfl, rfl, _, r3⟩ := dv_trod Try.underlying25 (by kernel_rfl) Try.underlying4 Try.underlying23 Try.underlying70 (by kernel_rfl) Try.underlying3 h3 (fun b off hm => hfz b off (by simp [hx2, hm])) (fun q hq => hlt q (by simp [hx2, hq]))
  exact ⟨⟨d0, d1, d2, d3⟩, rfl, ⟨r0, r1, r2, r3⟩⟩
set_option maxRecDepth 100000 in
theorem edge_trod {fuel : Nat} {c0 c1 c2 : Value} {x : DataW H × List MemPlace}
  (h : DataW.trod enc Try.prog W 0 (fun _ => true) true fuel 29 [c0, c1, c2] = some x) : ∃ (b : Bool) (p q : Int), c0 = .bool b ∧ c1 = .int .i64 p ∧ c2 = .int .i64 q := by
 obtain ⟨y0, y1, y2, n, hx, _, h0, h1, h2⟩ := trod_struct3 Try.underlying29 h
 have C1 : Try.prog.cellsOf 4 = 1 := by kernel_rfl
 have C2 : Try.prog.cellsOf 3 = 1 := by kernel_rfl
 simp only [C1, C2, List.drop_zero, List.take_succ_cons, List.take_zero, List.drop_succ_cons] at h0 h1 h2
 obtain ⟨s, e0, _⟩ := DataW.trod_bool Try.underlying4 h0
 obtain ⟨z, e1, _, z1⟩ := DataW.trod_int Try.underlying3 h1
 obtain ⟨u, e2, _, z2⟩ := DataW.trod_int Try.underlying3 h2
 injection e0 with e0
 injection e1 with e1
 injection e2 with e2
 exact ⟨s, z, u, e0, e1, e2⟩
set_option maxRecDepth 100000 in
theorem part_trod {fuel : Nat} {cs : List Value} {x : DataW H × List MemPlace}
  (h : DataW.trod enc Try.prog W 0 (fun _ => true) true fuel 31 cs = some x) (hfz : ∀ b off, MemPlace.cell b off ∈ x.2 → W.frozen? ⟨b, off, none⟩ = false) (hlt : ∀ q ∈ x.2, q.block < W.heap.size) :
  ∃ p : Ma.Pv, cs = [.bool p.M.S.s, .slice p.M.S.A p.M.S.n p.M.S.c, .int .i64 p.M.S.e, .bool p.M.W.s, .slice p.M.W.A p.M.W.n p.M.W.c, .int .i64 p.M.W.e, .bool p.M.C.s, .slice p.M.C.A p.M.C.n p.M.C.c, .int .i64 p.M.C.e, .bool p.M.A.s, .slice p.M.A.A p.M.A.n p.M.A.c, .int .i64 p.M.A.e, .bool p.h, .int .i64 p.mn, .int .i64 p.mx, .slice p.A p.n p.c] ∧ Ma.PRows W 0 W.heap.size p ∧ p.n ≤ p.c := by
 obtain ⟨y0, y1, y2, n, hx, hl, h0, h1, h2⟩ := trod_struct3 Try.underlying31 h
 match cs, hl.trans (show Try.prog.cellsOf 31 = 16 by kernel_rfl) with
 | [c0, c1, c2, c3, c4, c5, c6, c7, c8, c9, c10, c11, c12, c13, c14, c15], _ =>
  have hx2 : x.2 = y0.2 ++ (y1.2 ++ y2.2) := by rw [hx]
  have C1 : Try.prog.cellsOf 27 = 12 := by kernel_rfl
  have C2 : Try.prog.cellsOf 29 = 3 := by kernel_rfl
  have C3 : Try.prog.cellsOf 23 = 1 := by kernel_rfl
  simp only [C1, C2, C3, List.drop_zero, List.take_succ_cons, List.take_zero, List.drop_succ_cons] at h0 h1 h2
  obtain ⟨m, em, rm⟩ := mass_trodP h0 (fun b off hm => hfz b off (by simp [hx2, hm])) (fun q hq => hlt q (by simp [hx2, hq]))
  obtain ⟨b, z, u, rfl, rfl, rfl⟩ := edge_trod h1
  obtain ⟨A, n', c, xs, rfl, hc, hI⟩ := ints_trod Try.underlying23 Try.underlying70 (by kernel_rfl) h2 (fun b off hm => hfz b off (by simp [hx2, hm])) (fun q hq => hlt q (by simp [hx2, hq]))
  simp only [List.cons.injEq, and_true] at em
  obtain ⟨rfl, rfl, rfl, rfl, rfl, rfl, rfl, rfl, rfl, rfl, rfl, rfl⟩ := em
  exact ⟨⟨m, b, z, u, A, n', c, xs⟩, rfl, ⟨rm, hI⟩, hc⟩
set_option maxRecDepth 100000 in
/-- A part among the arguments. -/
theorem part_open {r : Reach} {b0 : Nat} {v : Value} {d : DataW H} {p : List MemPlace}
  (hval : Value.okWide Try.prog W r b0 31 v) (h : DataW.Trod enc Try.prog W 0 (fun _ => true) true 31 v d p) (hfz : ∀ b off, MemPlace.cell b off ∈ p → W.frozen? ⟨b, off, none⟩ = false) (hlt : ∀ q ∈ p, q.block < W.heap.size) :
  ∃ p : Ma.Pv, v = .agg #[.bool p.M.S.s, .slice p.M.S.A p.M.S.n p.M.S.c, .int .i64 p.M.S.e, .bool p.M.W.s, .slice p.M.W.A p.M.W.n p.M.W.c, .int .i64 p.M.W.e, .bool p.M.C.s, .slice p.M.C.A p.M.C.n p.M.C.c, .int .i64 p.M.C.e, .bool p.M.A.s, .slice p.M.A.A p.M.A.n p.M.A.c, .int .i64 p.M.A.e, .bool p.h, .int .i64 p.mn, .int .i64 p.mx, .slice p.A p.n p.c] ∧ Ma.PRows W 0 W.heap.size p := by
 obtain ⟨cs, rfl, hsz⟩ := okWide_struct Try.underlying31 hval
 obtain ⟨cs⟩ := cs
 obtain ⟨fuel, hf⟩ := h
 simp only [Value.cells] at hf
 obtain ⟨p, e, hR, _⟩ := part_trod hf hfz hlt
 subst e
 exact ⟨p, rfl, hR⟩
instance : Inhabited Ma.Fv := ⟨⟨0, ⟨⟨⟨false, none, 0, 0, 0, []⟩, ⟨false, none, 0, 0, 0, []⟩, ⟨false, none, 0, 0, 0, []⟩, ⟨false, none, 0, 0, 0, []⟩⟩, false, 0, 0, none, 0, 0, []⟩⟩⟩
set_option maxRecDepth 100000 in
theorem frozen_trod {fuel : Nat} {cs : List Value} {x : DataW H × List MemPlace}
  (h : DataW.trod enc Try.prog W 0 (fun _ => true) true fuel 68 cs = some x) (hfz : ∀ b off, MemPlace.cell b off ∈ x.2 → W.frozen? ⟨b, off, none⟩ = false) (hlt : ∀ q ∈ x.2, q.block < W.heap.size) :
  ∃ f : Ma.Fv, cs = Ma.cells17 f ∧ Ma.PRows W 0 W.heap.size f.P := by
 obtain ⟨y0, y1, n, hx, hl, h0, h1⟩ := trod_struct2 Try.underlying68 h
 match cs, hl.trans (show Try.prog.cellsOf 68 = 17 by kernel_rfl) with
 | [c0, c1, c2, c3, c4, c5, c6, c7, c8, c9, c10, c11, c12, c13, c14, c15, c16], _ =>
  have hx2 : x.2 = y0.2 ++ y1.2 := by rw [hx]
  have C1 : Try.prog.cellsOf 3 = 1 := by kernel_rfl
  have C2 : Try.prog.cellsOf 31 = 16 := by kernel_rfl
  simp only [C1, C2, List.drop_zero, List.take_succ_cons, List.take_zero, List.drop_succ_cons] at h0 h1
  obtain ⟨z, e1, _, z1⟩ := DataW.trod_int Try.underlying3 h0
  injection e1 with e1
  obtain ⟨p, ep, hR, _⟩ := part_trod h1 (fun b off hm => hfz b off (by simp [hx2, hm])) (fun q hq => hlt q (by simp [hx2, hq]))
  refine ⟨⟨z, p⟩, ?_, hR⟩
  rw [e1, ep]
  rfl
set_option maxRecDepth 100000 in
/-- A list of frozen parts among the arguments. -/
theorem frozens_open {r : Reach} {b0 : Nat} {v : Value} {d : DataW H} {p : List MemPlace}
  (hval : Value.okWide Try.prog W r b0 22 v) (h : DataW.Trod enc Try.prog W 0 (fun _ => true) true 22 v d p) (hfz : ∀ b off, MemPlace.cell b off ∈ p → W.frozen? ⟨b, off, none⟩ = false) (hlt : ∀ q ∈ p, q.block < W.heap.size) :
  ∃ A n c fs, v = .slice A n c ∧ n ≤ c ∧ c ≤ maxLen ∧ Ma.LFs W 0 W.heap.size A n fs := by
 obtain ⟨A, n, c, rfl⟩ := okWide_slice Try.underlying22 hval
 obtain ⟨fuel, hf⟩ := h
 simp only [Value.cells] at hf
 generalize hx0 : (d, p) = x at hf
 have hp : p = x.2 := by rw [← hx0]
 rw [hp] at hfz hlt
 rcases open_slice Try.underlying22 hf with ⟨hcs, _⟩ | ⟨a, len, cap, m, k, D, Pl, hcs, _, hl, hm, hmm, hx, hi⟩
 · injection hcs with hcs
   exact ⟨none, 0, 0, [], hcs, Nat.le_refl _, by unfold maxLen; omega, ⟨rfl, by decide, fun h0 => absurd h0 (Nat.lt_irrefl 0), fun j hj => absurd hj (Nat.not_lt_zero _)⟩⟩
 · injection hcs with hcs
   simp only [if_true] at hmm
   subst hmm
   have hC : Try.prog.cellsOf 68 = 17 := by kernel_rfl
   have hx2 : x.2 = MemPlace.row a (m * 17) ++ (List.range m).flatMap Pl := by rw [hx, hC]
   have hmem : ∀ i, i < m → ∀ q ∈ Pl i, q ∈ x.2 := fun i hi' q hq => by
    rw [hx2]
    exact List.mem_append_right _ (List.mem_flatMap.2 ⟨i, List.mem_range.2 hi', hq⟩)
   have hV : ∀ i, i < m → ∃ q : Ma.Fv, (∀ k, k < 17 → W.cell? ((a.add (i * 17)).add k) = (Ma.cells17 q)[k]?) ∧ Ma.PRows W 0 W.heap.size q.P := fun i hi' => by
    obtain ⟨cs', h1, h2⟩ := hi i hi'
    rw [hC] at h1
    obtain ⟨_, _, hcell⟩ := World.cells?_some h1
    obtain ⟨q, e, hq⟩ := frozen_trod h2 (fun b off hm => hfz b off (hmem i hi' _ hm)) (fun q hq => hlt q (hmem i hi' q hq))
    subst e
    exact ⟨q, hcell, hq⟩
   obtain ⟨q, hq⟩ := choose_lt hV
   refine ⟨some a, len, m, (List.range len).map q, hcs, hl, hm, by simp, by unfold maxLen at hm; omega, fun h0 => ?_, fun j hj => ?_⟩
   · obtain ⟨b, off, spot⟩ := a
     have hspot : spot = none := by
      have k := (hq 0 (by omega)).1 0 (by decide)
      have k2 := World.cell?_spot k
      simpa [Addr.add] using k2
     subst hspot
     have hb : b < W.heap.size := hlt _ (by
      rw [hx2]
      exact List.mem_append_left _ (MemPlace.mem_row.2 ⟨0, by omega, rfl⟩) : MemPlace.cell b (off + 0) ∈ x.2)
     refine ⟨b, off, rfl, Nat.zero_le _, hb, fun j hj => ?_⟩
     have hj' : j < len := by simpa using hj
     have e : ((List.range len).map q)[j] = q j := by simp
     rw [e]
     have g := (hq j (by omega)).1
     simp only [add_plain] at g
     exact Ma.fcells_of g
   · have e : ((List.range len).map q)[j] = q j := by simp
     rw [e]
     have hj' : j < len := by simpa using hj
     exact (hq j (by omega)).2
end
end Go.Proofs.Ytbbnbgllgomolaa
namespace Go.Proofs.Ytbbnbgllgomolaa
open Go.RowKit
namespace Ma
open Dp Dy
/-- A part of one value. -/
def PartOf (v : Nat) (q : Pv) : Prop := IsM (twoR ⟨false, v, 0⟩ ⟨false, 1, 0⟩) q.M ∧ q.h = true ∧ q.mn = (v : Int) ∧ q.mx = (v : Int) ∧ q.xs = [1, 2] ∧ SmallP q
theorem partOf_may {w : World} {lo hi v : Nat} {q : Pv} (hR : PRows w lo hi q) (h : PartOf v q) (h0 : v ≠ 0) (h1 : v < 16) : mayP q = true := by
 obtain ⟨a, b, c, d, e, _⟩ := h
 have hs : q.M.share := (share_is hR.M a (twoR_may (sm v 0 h0 h1 (by decide) (fun h => absurd h (by decide))) (sm 1 0 (by decide) (by decide) (by decide) (fun h => absurd h (by decide))))).2 ⟨rfl, fun h => absurd h (by simp [twoR])⟩
 have hE : mayE q.h q.mn q.mx = true := by
  rw [b, c, d, mayE_true]
  exact decide_eq_true (by omega)
 have hC : Least.checkCode q.xs = 0 := by rw [e]; rfl
 unfold mayP
 rw [badS_one.2 hs, hE, hC]
 rfl
theorem partOf_same {v : Nat} {q r : Pv} (h : PartOf v q) (k : PartOf v r) : sameP q r = true := by
 obtain ⟨a, b, c, d, e, _⟩ := h
 obtain ⟨a', b', c', d', e', _⟩ := k
 have k : ∀ x, x < 4 → sameV (q.M.get x) (r.M.get x) = true := fun x hx => by
  unfold sameV
  rw [(a x hx).1, (a x hx).2.1, (a x hx).2.2, (a' x hx).1, (a' x hx).2.1, (a' x hx).2.2]
  exact Pa.Dy.same_refl _
 have k0 := k 0 (by decide)
 have k1 := k 1 (by decide)
 have k2 := k 2 (by decide)
 have k3 := k 3 (by decide)
 simp only [Mv.get] at k0 k1 k2 k3
 unfold sameP sameE sameM
 rw [k0, k1, k2, k3, b, c, d, e, b', c', d', e', Pa.Sm_refl]
 simp
theorem partOf_diff {v u : Nat} {q r : Pv} (h : PartOf v q) (k : PartOf u r) (hne : v ≠ u) : sameP q r = false := by
 have e : decide (q.mn = r.mn) = false := decide_eq_false (by rw [h.2.2.1, k.2.2.1]; omega)
 unfold sameP sameE
 rw [e]
 simp
theorem frozenF_zero (fs : List Fv) (z : Int) (p : Pv) : frozenF 0 fs z p = fs ++ [⟨z, p⟩] := if_pos rfl
theorem freezeF_list {n : Nat} {fs gs : List Fv} {z : Int} {p : Pv} (h : TwinF fs gs) : freezeF n gs z p = freezeF n fs z p := by
 unfold freezeF
 rw [askF_twin h, aheadF_twin h]
theorem twinF_snoc {gs hs : List Fv} {a b : Fv} (h : TwinF [a] gs) (k : TwinF (gs ++ [b]) hs) : TwinF [a, b] hs := by
 match gs, h with
 | [g], h =>
  have hl : hs.length = 2 := k.1
  have h0 := h.2 0 (by simp) (by simp)
  simp only [List.getElem_cons_zero] at h0
  refine ⟨hl, fun j h1 h2 => ?_⟩
  have hj : j = 0 ∨ j = 1 := by simp at h1; omega
  rcases hj with rfl | rfl
  · have k0 := k.2 0 (by simp) h2
    exact ⟨k0.1.trans h0.1, twinP_trans h0.2 k0.2⟩
  · exact k.2 1 (by simp) h2
 | [], h => exact absurd h.1 (by simp)
 | _ :: _ :: _, h => exact absurd h.1 (by simp)
section
variable {p q : Pv} (hp : mayP p = true) (hq : mayP q = true)
theorem al_mayF1 : mayF (-1) [⟨2, p⟩] = mayP p := by simp [mayF]
theorem al_mayF2 : mayF (-1) [⟨2, p⟩, ⟨5, q⟩] = (mayP p && mayP q) := by simp [mayF]
include hp in
theorem al_1 : freezeF 0 [] 2 p = 0 := by simp [freezeF, askF, checkF, mayF, aheadF, hp]
include hp in
theorem al_a1 (z : Int) (h0 : 0 ≤ z) (h1 : z ≤ 65535) : askF 1 [⟨2, p⟩] z = 0 := by
 have h : checkF 1 [⟨2, p⟩] = 0 := by simp [checkF, al_mayF1, hp]
 unfold askF
 rw [if_neg (by rw [h]; simp), if_neg (by omega)]
include hp hq in
theorem al_a2 (z : Int) (h0 : 0 ≤ z) (h1 : z ≤ 65535) : askF 2 [⟨2, p⟩, ⟨5, q⟩] z = 0 := by
 have h : checkF 2 [⟨2, p⟩, ⟨5, q⟩] = 0 := by simp [checkF, al_mayF2, hp, hq]
 unfold askF
 rw [if_neg (by rw [h]; simp), if_neg (by omega)]
include hp hq in
theorem al_2 : freezeF 1 [⟨2, p⟩] 5 q = 0 := by
 unfold freezeF
 rw [al_a1 hp 5 (by decide) (by decide)]
 simp [aheadF, hq]
include hp hq in
theorem al_3 {r : Pv} (hr : mayP r = true) : freezeF 2 [⟨2, p⟩, ⟨5, q⟩] 3 r = 12 := by
 unfold freezeF
 rw [al_a2 hp hq 3 (by decide) (by decide)]
 simp [aheadF, hr]
include hp hq in
theorem al_4 : getF 2 [⟨2, p⟩, ⟨5, q⟩] 3 = 6 := by
 unfold getF
 rw [al_a2 hp hq 3 (by decide) (by decide)]
 simp [aheadF]
include hp hq in
theorem al_5 : getF 2 [⟨2, p⟩, ⟨5, q⟩] 5 = 0 := by
 unfold getF
 rw [al_a2 hp hq 5 (by decide) (by decide)]
 simp [aheadF]
theorem al_6 : gotF 0 [⟨2, p⟩, ⟨5, q⟩] 5 = q := by simp [gotF, aheadF]
theorem al_7 : beforeF 0 [⟨2, p⟩, ⟨5, q⟩] 5 = [⟨2, p⟩] := by simp [beforeF, aheadF]
end
end Ma
end Go.Proofs.Ytbbnbgllgomolaa