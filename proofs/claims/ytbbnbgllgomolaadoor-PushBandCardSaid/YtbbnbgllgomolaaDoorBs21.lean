/- headcountlaw15.half and alive: walks (printed by a program of mine). -/
/- The laws of PushBand. No program in sight. -/
import Derived.Test.YtbbnbgllgomolaaDoorBs16
import Derived.Test.YtbbnbgllgomolaaDoorBs18
import Derived.Test.YtbbnbgllgomolaaDoorBs19
import Derived.Test.YtbbnbgllgomolaaDoorBs20
namespace Go.Proofs.YtbbnbgllgomolaaDoor
open Go.RowKit
namespace Ma
open Dp Dy
theorem row_one {w : World} {g x : Nat} {t : TypeId} (h : w.heap[g]? = some (.cells #[.int .u32 x] t (0, 0))) (hx : x < 4294967296) (h0 : x ≠ 0) : Ints w g (g + 1) .u32 (some ⟨g, 0, none⟩) 1 (canon 4294967296 x) := by
 rw [canon_one x h0 hx]
 refine ⟨rfl, fun y hy => ?_, by decide, fun _ => ⟨g, 0, rfl, Nat.le_refl _, Nat.lt_succ_self _, fun j hj => ?_⟩⟩
 · rw [List.mem_singleton.1 hy]
   simp [IntKind.min, IntKind.max, IntKind.signed, IntKind.bits]
   omega
 · obtain rfl : j = 0 := by omega
   exact ⟨cell_of_row w g 0 _ _ _ h, frozen_of_row w g 0 _ _ h⟩
set_option maxHeartbeats 3200000 in
set_option maxRecDepth 100000 in
/-- headcountlaw15.half. -/
theorem half15_any (w : World) : Calls Tryd.prog 56 #[] w fun e w' => ∃ A n c, e = .returned (.agg #[.bool false, .slice A n c, .int .i64 1]) ∧ Below w.heap.size w w' ∧ Ints w' w.heap.size w'.heap.size .u32 A n (canon 4294967296 1) := by
 generalize hw : (w.alloc (.cells #[.bool false, .slice none 0 0, .int .i64 0] 24)).alloc (.cells #[.int .u32 1] 58) = w1
 obtain ⟨B1, B2, b1, l1, l2⟩ := boxes2 w _ _ hw
 replace B1 : w1.heap[w.heap.size]? = some (.cells #[.bool false, .slice none 0 0, .int .i64 0] 24 (0, 0)) := B1
 replace B2 : w1.heap[w.heap.size + 1]? = some (.cells #[.int .u32 (1 : Nat)] 58 (0, 0)) := B2
 have I1 := row_one B2 (by decide) (by decide)
 obtain ⟨⟨z0, z1, z2⟩, z3, z4, z5⟩ := boxD B1
 obtain ⟨U, hU, hX, hbU, hfU, y1, y2⟩ := zputR B1 (.bool false) (.slice (some ⟨w.heap.size + 1, 0, none⟩) 1 1) (.int .i64 1)
 go_enter Tryd.func56, Tryd.ntmps56
 go_wp2
 try rw [hU]
 clear z0 z1 z2 z3 z4 z5 hU hw
 have b2 := hbU _ _ b1 (Nat.le_refl _)
 replace I1 := intsR I1 (w' := U) (fun b h1 h2 => hfU b (by omega))
 obtain ⟨⟨p0, p1, p2⟩, p3, p4, p5⟩ := boxD hX
 exact bodyPost_ret (v := .agg #[.bool false, .slice (some ⟨w.heap.size + 1, 0, none⟩) 1 1, .int .i64 1]) (by simp [results, Tryd.results56, go_sem, p0, p1, p2]) rfl ⟨_, 1, 1, rfl, b2, I1.more (by omega) (by omega)⟩
theorem alloc_one (w : World) : ∃ U, w.alloc (.cells #[.int .u32 1] 58) = U ∧ U.heap[w.heap.size]? = some (.cells #[.int .u32 (1 : Nat)] 58 (0, 0)) ∧ Below w.heap.size w U ∧ w.heap.size < U.heap.size :=
 ⟨_, rfl, heap_alloc_last _ _, (Below.refl _ w).alloc (Nat.le_refl _) _, by simp⟩
theorem same_is {r : Dn} {d : Dv} (h : Is r d) : Pa.Dy.same ⟨d.s, d.xs, d.e⟩ ⟨r.neg, canon 4294967296 r.m, r.e⟩ = true := by
 rw [h.1, h.2.1, h.2.2]
 exact same_true rfl rfl rfl
theorem alive_k {k : Mv} {kR : Nat → Dn} {a b : Dn} {R : Nat → Dn} (h : IsM kR k) (hk : ∀ x, x < 4 → kR x = if x = 0 then a else if x = 1 then b else R x) (h2 : R 2 = Dn.zero := by rfl) (h3 : R 3 = Dn.zero := by rfl) : IsM (twoR a b) k :=
 h.of_eq (four (hk 0 (by decide)).symm (hk 1 (by decide)).symm ((hk 2 (by decide)).trans h2).symm ((hk 3 (by decide)).trans h3).symm)
theorem alive_take {w : World} {lo hi lo' hi' : Nat} {m s : Mv} {sR : Nat → Dn} (hR : MRows w lo hi m) (hS : MRows w lo' hi' s) (h : IsM (twoR ⟨false, 1, 0⟩ ⟨false, 1, 1⟩) m) (hs : IsM sR s) (hk : ∀ x, x < 4 → sR x = if x = 0 then ⟨false, 3, 0⟩ else if x = 1 then ⟨false, 1, 1⟩ else Dn.zero) :
  ∃ T, takeM m s = (T, 0) ∧ ∀ x, x < 4 → T x = twoR ⟨false, 4, 0⟩ ⟨false, 1, 0⟩ x := by
 have hs2 : IsM (twoR ⟨false, 3, 0⟩ ⟨false, 1, 1⟩) s := hs.of_eq (four (hk 0 (by decide)).symm (hk 1 (by decide)).symm (hk 2 (by decide)).symm (hk 3 (by decide)).symm)
 have m1 : MayR (twoR ⟨false, 1, 0⟩ ⟨false, 1, 1⟩) := twoR_may (sm _ _ (by decide) (by decide) (by decide) (by decide)) (sm _ _ (by decide) (by decide) (by decide) (by decide))
 have m2 : MayR (twoR ⟨false, 3, 0⟩ ⟨false, 1, 1⟩) := twoR_may (sm _ _ (by decide) (by decide) (by decide) (by decide)) (sm _ _ (by decide) (by decide) (by decide) (by decide))
 obtain ⟨T, t1, t2⟩ := take_of h hs2 m1 m2 ((share_is hR h m1).2 ⟨rfl, fun h => absurd h (by decide)⟩) ((share_is hS hs2 m2).2 ⟨rfl, fun h => absurd h (by decide)⟩) pal3 pal4
 refine ⟨T, t1, fun x hx => ?_⟩
 have hx' : x = 0 ∨ x = 1 ∨ x = 2 ∨ x = 3 := by omega
 rcases hx' with rfl | rfl | rfl | rfl <;> exact t2 _ hx
theorem alive_is {a : Mv} {T : Nat → Dn} (h : IsM T a) (hT : ∀ x, x < 4 → T x = twoR ⟨false, 4, 0⟩ ⟨false, 1, 0⟩ x) : Is ⟨false, 4, 0⟩ a.S ∧ Is ⟨false, 1, 0⟩ a.W ∧ Is Dn.zero a.C ∧ Is Dn.zero a.A := by
 have k := h.of_eq (fun x hx => (hT x hx).symm)
 exact ⟨k 0 (by decide), k 1 (by decide), k 2 (by decide), k 3 (by decide)⟩
/-- Rows, not in a block. -/
def OffM (w : World) (g : Nat) (m : Mv) : Prop := MRows w 0 w.heap.size m ∧ RowsOff w g g m
theorem OffM.of {w : World} {lo hi g : Nat} {m : Mv} (h : MRows w lo hi m) (hh : hi ≤ w.heap.size) (h1 : g < lo ∨ hi ≤ g) : OffM w g m := ⟨h.more (Nat.zero_le _) hh, rows_or h h1 h1⟩
theorem OffM.far {w w' : World} {g : Nat} {m : Mv} (h : OffM w g m) (hf : ∀ k, k ≠ g → w'.heap[k]? = w.heap[k]?) (_h1 : w'.heap.size ≤ w.heap.size) (h2 : w.heap.size ≤ w'.heap.size) : MRows w' 0 w'.heap.size m := (h.2.far h.1 hf (.inl rfl)).more (Nat.le_refl _) h2
set_option maxHeartbeats 102400000 in
set_option maxRecDepth 100000 in
/-- headcountlaw15.alive. -/
theorem alive15_any (w : World) (hT : Tab w) : Calls Tryd.prog 28 #[] w fun e w' => e = .returned (.bool true) ∧ Below w.heap.size w w' := by
 have j0 : Below w.heap.size w w := Below.refl _ _
 go_enter Tryd.func28, Tryd.ntmps28
 go_wp2_with fail
 refine (Of_any w (6) (by decide) (by decide) false 6 rfl rfl).mono ?_
 rintro e' v1 ⟨A1, n1, rfl, j2, I1⟩
 try clear hw
 replace I1 := ints_all I1
 go_wp2_with fail
 refine (Of_any v1 (1) (by decide) (by decide) false 1 rfl rfl).mono ?_
 rintro e' v3 ⟨A2, n2, rfl, j4, I2⟩
 try clear hw
 replace I2 := ints_all I2
 obtain ⟨M1, hM1⟩ : ∃ M : Mv, M = ⟨⟨false, A1, n1, n1, 0, canon 4294967296 6⟩, ⟨false, A2, n2, n2, 0, canon 4294967296 1⟩, ZM.C, ZM.A⟩ := ⟨_, rfl⟩
 have R1 : MRows v3 0 v3.heap.size M1 := by
  rw [hM1]
  exact ⟨(ints_on I1 j4), I2, Ints.nil_ .., Ints.nil_ ..⟩
 have i1 : IsM (twoR ⟨false, 6, 0⟩ ⟨false, 1, 0⟩) M1 := by
  rw [hM1]
  exact twoR_is ⟨rfl, rfl, rfl⟩ ⟨rfl, rfl, rfl⟩
 have m1 : MayR (twoR ⟨false, 6, 0⟩ ⟨false, 1, 0⟩) := twoR_may (sm _ _ (by decide) (by decide) (by decide) (by decide)) (sm _ _ (by decide) (by decide) (by decide) (by decide))
 obtain ⟨kR, sR, g1, g2, g3⟩ := give_of R1 i1 m1 rfl (by decide) pal1 pal2
 have ge := Lib.hid g1
 have gk := Lib.hid g2
 have gs := Lib.hid g3
 clear g1 g2 g3 m1 i1
 subst hM1
 go_wp2_with fail
 refine (Give_num v3 ⟨⟨false, A1, n1, n1, 0, canon 4294967296 6⟩, ⟨false, A2, n2, n2, 0, canon 4294967296 1⟩, ZM.C, ZM.A⟩ R1 (tab_later hT (later j2 j4)) kR sR 0 ge.out).mono ?_
 rintro e' v5 ⟨k, s, rfl, j6, ik, is, B, lb1, lb2, Rk, Rs⟩
 try clear hw
 replace ik := Lib.hid ik
 replace is := Lib.hid is
 clear R1
 replace Rk := Rk.more (Nat.zero_le _) lb2
 replace Rs := Rs.more (Nat.zero_le _) (Nat.le_refl _)
 clear lb1 lb2 ge
 obtain ⟨v7, hw, bk, bs, j8, s9_⟩ := alloc_mm v5 k s
 have s9 : v5.heap.size < v7.heap.size := by omega
 have s9b : v5.heap.size + 1 < v7.heap.size := by omega
 go_wp2_with fail
 try clear hw
 try clear hw
 refine region_E (Keeps v7) [] (m := 11) (L := #[zF,zF,zF,zF,zF,zF,zF,zF,zF,zF,zF]) (by kernel_rfl) (by rfl) (by rfl) ?_
 have j11 : Below v7.heap.size v7 v7.drew := (Below.refl _ _).drew
 generalize v7.drew = v10 at *
 have kpy12 : Keeps v7 v10 := fun p hp => Below.block j11 p hp
 refine readE (i := 3) (L := #[zF,zF,zF,zT,zF,zF,zF,zF,zF,zF,zF]) (v := .agg #[.bool s.S.s, .slice s.S.A s.S.n s.S.c, .int .i64 s.S.e, .bool s.W.s, .slice s.W.A s.W.n s.W.c, .int .i64 s.W.e, .bool s.C.s, .slice s.C.A s.C.n s.C.c, .int .i64 s.C.e, .bool s.A.s, .slice s.A.A s.A.n s.A.c, .int .i64 s.A.e]) rfl (by rfl) (by kernel_rfl) (by kernel_rfl) (by kernel_rfl) (fun _ _ _ h => h) (by assumption) (by rfl) ?y12 ?z13
 case y12 =>
  intro w' h1
  obtain ⟨⟨k0, k1, k2, k3, k4, k5, k6, k7, k8, k9, k10, k11⟩, kf⟩ := MBox.cells ((h1 _ s9b).trans bs)
  go_simp
 try simp only [Act.put, zp]
 refine E_of_C (fun (A : Act) a' w' => ∃ (v23 v24 v25 v27 v22 : Value) (g4 : Nat) (a : Mv), a' = ((((((((A.put (some 23) (v23)).put (some 24) (v24)).put (some 25) (v25)).put (some 27) (v27)).put (some 22) (v22)).put (some 28) (.agg #[.bool a.S.s, .slice a.S.A a.S.n a.S.c, .int .i64 a.S.e, .bool a.W.s, .slice a.W.A a.W.n a.W.c, .int .i64 a.W.e, .bool a.C.s, .slice a.C.A a.C.n a.C.c, .int .i64 a.C.e, .bool a.A.s, .slice a.A.A a.A.n a.A.c, .int .i64 a.A.e])).put (some 29) (.int .i64 0)).put (some 4) (.pointer (some ⟨g4, 0, none⟩))) ∧ v7.heap.size ≤ g4 ∧ MBox w' g4 ZM ∧ Below v7.heap.size v7 w' ∧ Hid (Is ⟨false, 4, 0⟩ a.S ∧ Is ⟨false, 1, 0⟩ a.W ∧ Is Dn.zero a.C ∧ Is Dn.zero a.A) ∧ OffM w' g4 a) #[zT,zT,zT,zT,zT,zT,zT,zT,zT,zF,zF] 2 ?leaf ?tree
 case tree =>
  have zv10 : v7.heap.size ≤ v10.heap.size := Below.size j11
  refine stepC2 (i := 0) (j := 8) (Li := #[zT,zF,zF,zT,zF,zF,zF,zF,zF,zF,zF]) (Lj := #[zF,zF,zF,zT,zF,zF,zF,zF,zT,zF,zF]) rfl rfl (by rfl) (by rfl) (by kernel_rfl) (by rfl) (by rfl) (fun K hK => ?o1_0) (fun K hK => ?o1_8)
  case o1_0 =>
   go_simp
   go_at_call 25
   refine (Of_any v10 1 (by decide) (by decide) false 1 rfl rfl).mono ?_
   rintro e' v14 ⟨G1, m1, rfl, j15, J1⟩
   replace J1 := ints_all J1
   have zv14 : v10.heap.size ≤ v14.heap.size := Below.size j15
   refine hK _ _ ⟨fun _ _ => fun p hp => Below.block (later j11 j15) p hp, ?_⟩
   clear hK K
   try simp only [Act.put, zp]
   refine stepC2 (i := 1) (j := 8) (Li := #[zT,zT,zF,zT,zF,zF,zF,zF,zF,zF,zF]) (Lj := #[zT,zF,zF,zT,zF,zF,zF,zF,zT,zF,zF]) rfl rfl (by rfl) (by rfl) (by kernel_rfl) (by rfl) (by rfl) (fun K hK => ?o2_1) (fun K hK => ?o2_8)
   case o2_1 =>
    go_simp
    go_at_call 56
    refine (half15_any v14).mono ?_
    rintro e' v16 ⟨G2, m2, o2, rfl, j17, J2⟩
    replace J2 := ints_all J2
    have zv16 : v14.heap.size ≤ v16.heap.size := Below.size j17
    refine hK _ _ ⟨fun _ _ => fun p hp => Below.block (later j11 (later j15 j17)) p hp, ?_⟩
    clear hK K
    try simp only [Act.put, zp]
    refine zC 2 #[zT,zT,zT,zT,zF,zF,zF,zF,zF,zF,zF] ?_ rfl ?hy2 ?rest2
    case hy2 => intro w; go_simp; (try with_reducible rfl)
    try simp only [Act.put, zp]
    refine stepC2 (i := 4) (j := 8) (Li := #[zT,zT,zT,zT,zT,zF,zF,zF,zF,zF,zF]) (Lj := #[zT,zT,zT,zT,zF,zF,zF,zF,zT,zF,zF]) rfl rfl (by rfl) (by rfl) (by kernel_rfl) (by rfl) (by rfl) (fun K hK => ?o3_4) (fun K hK => ?o3_8)
    case o3_4 =>
     go_simp
     have i2 : IsM (twoR ⟨false, 1, 0⟩ ⟨false, 1, 1⟩) ⟨⟨false, G1, m1, m1, 0, canon 4294967296 1⟩, ⟨false, G2, m2, o2, 1, canon 4294967296 1⟩, ZM.C, ZM.A⟩ := twoR_is ⟨rfl, rfl, rfl⟩ ⟨rfl, rfl, rfl⟩
     have R2 : MRows v16 0 v16.heap.size ⟨⟨false, G1, m1, m1, 0, canon 4294967296 1⟩, ⟨false, G2, m2, o2, 1, canon 4294967296 1⟩, ZM.C, ZM.A⟩ := ⟨(ints_on J1 j17), J2, Ints.nil_ .., Ints.nil_ ..⟩
     have R3 : MRows v16 0 v16.heap.size s := (MRows.on Rs (later j8 (later j11 (later j15 j17))))
     obtain ⟨T, t1, t2⟩ := alive_take R2 R3 i2 is.out gs.out
     have mt := Lib.hid t2
     have tk := Lib.hid t1
     clear t1 t2 i2
     go_at_call 13
     refine (Take_num v16 ⟨⟨false, G1, m1, m1, 0, canon 4294967296 1⟩, ⟨false, G2, m2, o2, 1, canon 4294967296 1⟩, ZM.C, ZM.A⟩ s R2 R3 (tab_later hT (later j2 (later j4 (later j6 (later j8 (later j11 (later j15 j17))))))) T 0 tk.out).mono ?_
     rintro e' v18 ⟨a, rfl, j19, ia, Ra⟩
     replace ia := Lib.hid ia
     have zv18 : v16.heap.size ≤ v18.heap.size := Below.size j19
     refine hK _ _ ⟨fun _ _ => fun p hp => Below.block (later j11 (later j15 (later j17 j19))) p hp, ?_⟩
     clear hK K
     try simp only [Act.put, zp]
     refine zC 5 #[zT,zT,zT,zT,zT,zT,zF,zF,zF,zF,zF] ?_ rfl ?hy3 ?rest3
     case hy3 => intro w; go_simp; (try with_reducible rfl)
     try simp only [Act.put, zp]
     refine zC 6 #[zT,zT,zT,zT,zT,zT,zT,zF,zF,zF,zF] ?_ rfl ?hy4 ?rest4
     case hy4 => intro w; go_simp; (try with_reducible rfl)
     try simp only [Act.put, zp]
     refine zC 7 #[zT,zT,zT,zT,zT,zT,zT,zT,zF,zF,zF] ?_ rfl ?hy5 ?rest5
     case hy5 => intro w; go_simp; (try with_reducible rfl)
     try simp only [Act.put, zp]
     refine stepC (i := 8) (L := #[zT,zT,zT,zT,zT,zT,zT,zT,zT,zF,zF]) rfl (by rfl) (by kernel_rfl) (by rfl) (fun K hK => ?_)
     go_simp
     obtain ⟨v20, hc_, bz, j21, s22⟩ := alloc_z v18
     rw [hc_]
     clear hc_
     have zv20 : v18.heap.size ≤ v20.heap.size := Below.size j21
     refine hK _ _ ⟨fun _ _ => fun p hp => Below.block (later j11 (later j15 (later j17 (later j19 j21)))) p hp, ?_⟩
     clear hK K
     try simp only [Act.put, zp]
     exact leafC ⟨.agg #[.bool false, .slice G1 m1 m1, .int .i64 0], .agg #[.bool false, .slice G2 m2 o2, .int .i64 1], .agg #[.bool false, .slice G1 m1 m1, .int .i64 0, .bool false, .slice G2 m2 o2, .int .i64 1, .bool false, .slice none 0 0, .int .i64 0, .bool false, .slice none 0 0, .int .i64 0], .tuple #[.agg #[.bool a.S.s, .slice a.S.A a.S.n a.S.c, .int .i64 a.S.e, .bool a.W.s, .slice a.W.A a.W.n a.W.c, .int .i64 a.W.e, .bool a.C.s, .slice a.C.A a.C.n a.C.c, .int .i64 a.C.e, .bool a.A.s, .slice a.A.A a.A.n a.A.c, .int .i64 a.A.e], .int .i64 0], .tuple #[.agg #[.bool a.S.s, .slice a.S.A a.S.n a.S.c, .int .i64 a.S.e, .bool a.W.s, .slice a.W.A a.W.n a.W.c, .int .i64 a.W.e, .bool a.C.s, .slice a.C.A a.C.n a.C.c, .int .i64 a.C.e, .bool a.A.s, .slice a.A.A a.A.n a.A.c, .int .i64 a.A.e], .int .i64 0], v18.heap.size, a, rfl, by omega, bz, (later j11 (later j15 (later j17 (later j19 j21)))), Lib.hid (alive_is ia.out mt.out), OffM.of (Ra.below j21 (Nat.le_refl _)) (by omega) (by omega)⟩
    case o3_8 =>
     go_simp
     obtain ⟨v23, hc_, bz, j24, s25⟩ := alloc_z v16
     rw [hc_]
     clear hc_
     have zv23 : v16.heap.size ≤ v23.heap.size := Below.size j24
     refine hK _ _ ⟨fun _ _ => fun p hp => Below.block (later j11 (later j15 (later j17 j24))) p hp, ?_⟩
     clear hK K
     try simp only [Act.put, zp]
     refine stepC (i := 4) (L := #[zT,zT,zT,zT,zT,zF,zF,zF,zT,zF,zF]) rfl (by rfl) (by kernel_rfl) (by rfl) (fun K hK => ?_)
     go_simp
     have i2 : IsM (twoR ⟨false, 1, 0⟩ ⟨false, 1, 1⟩) ⟨⟨false, G1, m1, m1, 0, canon 4294967296 1⟩, ⟨false, G2, m2, o2, 1, canon 4294967296 1⟩, ZM.C, ZM.A⟩ := twoR_is ⟨rfl, rfl, rfl⟩ ⟨rfl, rfl, rfl⟩
     have R2 : MRows v23 0 v23.heap.size ⟨⟨false, G1, m1, m1, 0, canon 4294967296 1⟩, ⟨false, G2, m2, o2, 1, canon 4294967296 1⟩, ZM.C, ZM.A⟩ := ⟨(ints_on J1 (later j17 j24)), (ints_on J2 j24), Ints.nil_ .., Ints.nil_ ..⟩
     have R3 : MRows v23 0 v23.heap.size s := (MRows.on Rs (later j8 (later j11 (later j15 (later j17 j24)))))
     obtain ⟨T, t1, t2⟩ := alive_take R2 R3 i2 is.out gs.out
     have mt := Lib.hid t2
     have tk := Lib.hid t1
     clear t1 t2 i2
     go_at_call 13
     refine (Take_num v23 ⟨⟨false, G1, m1, m1, 0, canon 4294967296 1⟩, ⟨false, G2, m2, o2, 1, canon 4294967296 1⟩, ZM.C, ZM.A⟩ s R2 R3 (tab_later hT (later j2 (later j4 (later j6 (later j8 (later j11 (later j15 (later j17 j24)))))))) T 0 tk.out).mono ?_
     rintro e' v26 ⟨a, rfl, j27, ia, Ra⟩
     replace ia := Lib.hid ia
     have zv26 : v23.heap.size ≤ v26.heap.size := Below.size j27
     refine hK _ _ ⟨fun _ _ => fun p hp => Below.block (later j11 (later j15 (later j17 (later j24 j27)))) p hp, ?_⟩
     clear hK K
     try simp only [Act.put, zp]
     refine zC 5 #[zT,zT,zT,zT,zT,zT,zF,zF,zT,zF,zF] ?_ rfl ?hy8 ?rest8
     case hy8 => intro w; go_simp; (try with_reducible rfl)
     try simp only [Act.put, zp]
     refine zC 6 #[zT,zT,zT,zT,zT,zT,zT,zF,zT,zF,zF] ?_ rfl ?hy9 ?rest9
     case hy9 => intro w; go_simp; (try with_reducible rfl)
     try simp only [Act.put, zp]
     refine zC 7 #[zT,zT,zT,zT,zT,zT,zT,zT,zT,zF,zF] ?_ rfl ?hy10 ?rest10
     case hy10 => intro w; go_simp; (try with_reducible rfl)
     try simp only [Act.put, zp]
     exact leafC ⟨.agg #[.bool false, .slice G1 m1 m1, .int .i64 0], .agg #[.bool false, .slice G2 m2 o2, .int .i64 1], .agg #[.bool false, .slice G1 m1 m1, .int .i64 0, .bool false, .slice G2 m2 o2, .int .i64 1, .bool false, .slice none 0 0, .int .i64 0, .bool false, .slice none 0 0, .int .i64 0], .tuple #[.agg #[.bool a.S.s, .slice a.S.A a.S.n a.S.c, .int .i64 a.S.e, .bool a.W.s, .slice a.W.A a.W.n a.W.c, .int .i64 a.W.e, .bool a.C.s, .slice a.C.A a.C.n a.C.c, .int .i64 a.C.e, .bool a.A.s, .slice a.A.A a.A.n a.A.c, .int .i64 a.A.e], .int .i64 0], .tuple #[.agg #[.bool a.S.s, .slice a.S.A a.S.n a.S.c, .int .i64 a.S.e, .bool a.W.s, .slice a.W.A a.W.n a.W.c, .int .i64 a.W.e, .bool a.C.s, .slice a.C.A a.C.n a.C.c, .int .i64 a.C.e, .bool a.A.s, .slice a.A.A a.A.n a.A.c, .int .i64 a.A.e], .int .i64 0], v16.heap.size, a, rfl, by omega, (box_later bz j27 s25), (later j11 (later j15 (later j17 (later j24 j27)))), Lib.hid (alive_is ia.out mt.out), OffM.of Ra (by omega) (by omega)⟩
   case o2_8 =>
    go_simp
    obtain ⟨v28, hc_, bz, j29, s30⟩ := alloc_z v14
    rw [hc_]
    clear hc_
    have zv28 : v14.heap.size ≤ v28.heap.size := Below.size j29
    refine hK _ _ ⟨fun _ _ => fun p hp => Below.block (later j11 (later j15 j29)) p hp, ?_⟩
    clear hK K
    try simp only [Act.put, zp]
    refine stepC (i := 1) (L := #[zT,zT,zF,zT,zF,zF,zF,zF,zT,zF,zF]) rfl (by rfl) (by kernel_rfl) (by rfl) (fun K hK => ?_)
    go_simp
    go_at_call 56
    refine (half15_any v28).mono ?_
    rintro e' v31 ⟨G2, m2, o2, rfl, j32, J2⟩
    replace J2 := ints_all J2
    have zv31 : v28.heap.size ≤ v31.heap.size := Below.size j32
    refine hK _ _ ⟨fun _ _ => fun p hp => Below.block (later j11 (later j15 (later j29 j32))) p hp, ?_⟩
    clear hK K
    try simp only [Act.put, zp]
    refine zC 2 #[zT,zT,zT,zT,zF,zF,zF,zF,zT,zF,zF] ?_ rfl ?hy12 ?rest12
    case hy12 => intro w; go_simp; (try with_reducible rfl)
    try simp only [Act.put, zp]
    refine stepC (i := 4) (L := #[zT,zT,zT,zT,zT,zF,zF,zF,zT,zF,zF]) rfl (by rfl) (by kernel_rfl) (by rfl) (fun K hK => ?_)
    go_simp
    have i2 : IsM (twoR ⟨false, 1, 0⟩ ⟨false, 1, 1⟩) ⟨⟨false, G1, m1, m1, 0, canon 4294967296 1⟩, ⟨false, G2, m2, o2, 1, canon 4294967296 1⟩, ZM.C, ZM.A⟩ := twoR_is ⟨rfl, rfl, rfl⟩ ⟨rfl, rfl, rfl⟩
    have R2 : MRows v31 0 v31.heap.size ⟨⟨false, G1, m1, m1, 0, canon 4294967296 1⟩, ⟨false, G2, m2, o2, 1, canon 4294967296 1⟩, ZM.C, ZM.A⟩ := ⟨(ints_on J1 (later j29 j32)), J2, Ints.nil_ .., Ints.nil_ ..⟩
    have R3 : MRows v31 0 v31.heap.size s := (MRows.on Rs (later j8 (later j11 (later j15 (later j29 j32)))))
    obtain ⟨T, t1, t2⟩ := alive_take R2 R3 i2 is.out gs.out
    have mt := Lib.hid t2
    have tk := Lib.hid t1
    clear t1 t2 i2
    go_at_call 13
    refine (Take_num v31 ⟨⟨false, G1, m1, m1, 0, canon 4294967296 1⟩, ⟨false, G2, m2, o2, 1, canon 4294967296 1⟩, ZM.C, ZM.A⟩ s R2 R3 (tab_later hT (later j2 (later j4 (later j6 (later j8 (later j11 (later j15 (later j29 j32)))))))) T 0 tk.out).mono ?_
    rintro e' v33 ⟨a, rfl, j34, ia, Ra⟩
    replace ia := Lib.hid ia
    have zv33 : v31.heap.size ≤ v33.heap.size := Below.size j34
    refine hK _ _ ⟨fun _ _ => fun p hp => Below.block (later j11 (later j15 (later j29 (later j32 j34)))) p hp, ?_⟩
    clear hK K
    try simp only [Act.put, zp]
    refine zC 5 #[zT,zT,zT,zT,zT,zT,zF,zF,zT,zF,zF] ?_ rfl ?hy14 ?rest14
    case hy14 => intro w; go_simp; (try with_reducible rfl)
    try simp only [Act.put, zp]
    refine zC 6 #[zT,zT,zT,zT,zT,zT,zT,zF,zT,zF,zF] ?_ rfl ?hy15 ?rest15
    case hy15 => intro w; go_simp; (try with_reducible rfl)
    try simp only [Act.put, zp]
    refine zC 7 #[zT,zT,zT,zT,zT,zT,zT,zT,zT,zF,zF] ?_ rfl ?hy16 ?rest16
    case hy16 => intro w; go_simp; (try with_reducible rfl)
    try simp only [Act.put, zp]
    exact leafC ⟨.agg #[.bool false, .slice G1 m1 m1, .int .i64 0], .agg #[.bool false, .slice G2 m2 o2, .int .i64 1], .agg #[.bool false, .slice G1 m1 m1, .int .i64 0, .bool false, .slice G2 m2 o2, .int .i64 1, .bool false, .slice none 0 0, .int .i64 0, .bool false, .slice none 0 0, .int .i64 0], .tuple #[.agg #[.bool a.S.s, .slice a.S.A a.S.n a.S.c, .int .i64 a.S.e, .bool a.W.s, .slice a.W.A a.W.n a.W.c, .int .i64 a.W.e, .bool a.C.s, .slice a.C.A a.C.n a.C.c, .int .i64 a.C.e, .bool a.A.s, .slice a.A.A a.A.n a.A.c, .int .i64 a.A.e], .int .i64 0], .tuple #[.agg #[.bool a.S.s, .slice a.S.A a.S.n a.S.c, .int .i64 a.S.e, .bool a.W.s, .slice a.W.A a.W.n a.W.c, .int .i64 a.W.e, .bool a.C.s, .slice a.C.A a.C.n a.C.c, .int .i64 a.C.e, .bool a.A.s, .slice a.A.A a.A.n a.A.c, .int .i64 a.A.e], .int .i64 0], v14.heap.size, a, rfl, by omega, (box_later bz (later j32 j34) s30), (later j11 (later j15 (later j29 (later j32 j34)))), Lib.hid (alive_is ia.out mt.out), OffM.of Ra (by omega) (by omega)⟩
  case o1_8 =>
   go_simp
   obtain ⟨v35, hc_, bz, j36, s37⟩ := alloc_z v10
   rw [hc_]
   clear hc_
   have zv35 : v10.heap.size ≤ v35.heap.size := Below.size j36
   refine hK _ _ ⟨fun _ _ => fun p hp => Below.block (later j11 j36) p hp, ?_⟩
   clear hK K
   try simp only [Act.put, zp]
   refine stepC (i := 0) (L := #[zT,zF,zF,zT,zF,zF,zF,zF,zT,zF,zF]) rfl (by rfl) (by kernel_rfl) (by rfl) (fun K hK => ?_)
   go_simp
   go_at_call 25
   refine (Of_any v35 1 (by decide) (by decide) false 1 rfl rfl).mono ?_
   rintro e' v38 ⟨G1, m1, rfl, j39, J1⟩
   replace J1 := ints_all J1
   have zv38 : v35.heap.size ≤ v38.heap.size := Below.size j39
   refine hK _ _ ⟨fun _ _ => fun p hp => Below.block (later j11 (later j36 j39)) p hp, ?_⟩
   clear hK K
   try simp only [Act.put, zp]
   refine stepC (i := 1) (L := #[zT,zT,zF,zT,zF,zF,zF,zF,zT,zF,zF]) rfl (by rfl) (by kernel_rfl) (by rfl) (fun K hK => ?_)
   go_simp
   go_at_call 56
   refine (half15_any v38).mono ?_
   rintro e' v40 ⟨G2, m2, o2, rfl, j41, J2⟩
   replace J2 := ints_all J2
   have zv40 : v38.heap.size ≤ v40.heap.size := Below.size j41
   refine hK _ _ ⟨fun _ _ => fun p hp => Below.block (later j11 (later j36 (later j39 j41))) p hp, ?_⟩
   clear hK K
   try simp only [Act.put, zp]
   refine zC 2 #[zT,zT,zT,zT,zF,zF,zF,zF,zT,zF,zF] ?_ rfl ?hy19 ?rest19
   case hy19 => intro w; go_simp; (try with_reducible rfl)
   try simp only [Act.put, zp]
   refine stepC (i := 4) (L := #[zT,zT,zT,zT,zT,zF,zF,zF,zT,zF,zF]) rfl (by rfl) (by kernel_rfl) (by rfl) (fun K hK => ?_)
   go_simp
   have i2 : IsM (twoR ⟨false, 1, 0⟩ ⟨false, 1, 1⟩) ⟨⟨false, G1, m1, m1, 0, canon 4294967296 1⟩, ⟨false, G2, m2, o2, 1, canon 4294967296 1⟩, ZM.C, ZM.A⟩ := twoR_is ⟨rfl, rfl, rfl⟩ ⟨rfl, rfl, rfl⟩
   have R2 : MRows v40 0 v40.heap.size ⟨⟨false, G1, m1, m1, 0, canon 4294967296 1⟩, ⟨false, G2, m2, o2, 1, canon 4294967296 1⟩, ZM.C, ZM.A⟩ := ⟨(ints_on J1 j41), J2, Ints.nil_ .., Ints.nil_ ..⟩
   have R3 : MRows v40 0 v40.heap.size s := (MRows.on Rs (later j8 (later j11 (later j36 (later j39 j41)))))
   obtain ⟨T, t1, t2⟩ := alive_take R2 R3 i2 is.out gs.out
   have mt := Lib.hid t2
   have tk := Lib.hid t1
   clear t1 t2 i2
   go_at_call 13
   refine (Take_num v40 ⟨⟨false, G1, m1, m1, 0, canon 4294967296 1⟩, ⟨false, G2, m2, o2, 1, canon 4294967296 1⟩, ZM.C, ZM.A⟩ s R2 R3 (tab_later hT (later j2 (later j4 (later j6 (later j8 (later j11 (later j36 (later j39 j41)))))))) T 0 tk.out).mono ?_
   rintro e' v42 ⟨a, rfl, j43, ia, Ra⟩
   replace ia := Lib.hid ia
   have zv42 : v40.heap.size ≤ v42.heap.size := Below.size j43
   refine hK _ _ ⟨fun _ _ => fun p hp => Below.block (later j11 (later j36 (later j39 (later j41 j43)))) p hp, ?_⟩
   clear hK K
   try simp only [Act.put, zp]
   refine zC 5 #[zT,zT,zT,zT,zT,zT,zF,zF,zT,zF,zF] ?_ rfl ?hy21 ?rest21
   case hy21 => intro w; go_simp; (try with_reducible rfl)
   try simp only [Act.put, zp]
   refine zC 6 #[zT,zT,zT,zT,zT,zT,zT,zF,zT,zF,zF] ?_ rfl ?hy22 ?rest22
   case hy22 => intro w; go_simp; (try with_reducible rfl)
   try simp only [Act.put, zp]
   refine zC 7 #[zT,zT,zT,zT,zT,zT,zT,zT,zT,zF,zF] ?_ rfl ?hy23 ?rest23
   case hy23 => intro w; go_simp; (try with_reducible rfl)
   try simp only [Act.put, zp]
   exact leafC ⟨.agg #[.bool false, .slice G1 m1 m1, .int .i64 0], .agg #[.bool false, .slice G2 m2 o2, .int .i64 1], .agg #[.bool false, .slice G1 m1 m1, .int .i64 0, .bool false, .slice G2 m2 o2, .int .i64 1, .bool false, .slice none 0 0, .int .i64 0, .bool false, .slice none 0 0, .int .i64 0], .tuple #[.agg #[.bool a.S.s, .slice a.S.A a.S.n a.S.c, .int .i64 a.S.e, .bool a.W.s, .slice a.W.A a.W.n a.W.c, .int .i64 a.W.e, .bool a.C.s, .slice a.C.A a.C.n a.C.c, .int .i64 a.C.e, .bool a.A.s, .slice a.A.A a.A.n a.A.c, .int .i64 a.A.e], .int .i64 0], .tuple #[.agg #[.bool a.S.s, .slice a.S.A a.S.n a.S.c, .int .i64 a.S.e, .bool a.W.s, .slice a.W.A a.W.n a.W.c, .int .i64 a.W.e, .bool a.C.s, .slice a.C.A a.C.n a.C.c, .int .i64 a.C.e, .bool a.A.s, .slice a.A.A a.A.n a.A.c, .int .i64 a.A.e], .int .i64 0], v10.heap.size, a, rfl, by omega, (box_later bz (later j39 (later j41 j43)) s37), (later j11 (later j36 (later j39 (later j41 j43)))), Lib.hid (alive_is ia.out mt.out), OffM.of Ra (by omega) (by omega)⟩
 case leaf =>
  rintro a' w' ⟨v23, v24, v25, v27, v22, g4, a, rfl, lg4, bz, bw, ia, OA⟩
  try simp only [Act.put, zp]
  have lt4 := lt_of_heap bz
  have kp_ : Keeps v7 w' := fun p hp => Below.block bw p hp
  obtain ⟨⟨z0, z1, z2, z3, z4, z5, z6, z7, z8, z9, z10, z11⟩, zf⟩ := MBox.cells bz
  refine stepK (i := 9) (L := #[zT,zT,zT,zT,zT,zT,zT,zT,zT,zT,zF]) rfl (by rfl) (by kernel_rfl) (by rfl) (fun K hK => ?_)
  go_simp
  obtain ⟨U, hc_, ba, hb_, hf_, l5, l5'⟩ := all_to bz a
  rw [hc_]
  clear hc_ z0 z1 z2 z3 z4 z5 z6 z7 z8 z9 z10 z11 zf
  replace kp_ : Keeps v7 U := fun p hp => (hf_ p (by omega)).trans (kp_ p hp)
  replace bw := hb_ _ _ bw (by omega)
  have Ra := OA.far hf_ l5 l5'
  refine hK _ _ ⟨fun _ _ => kp_, ?_⟩
  clear hK K kp_ hf_ hb_ bz OA
  try simp only [Act.put, zp]
  refine zE 10 #[zT,zT,zT,zT,zT,zT,zT,zT,zT,zT,zT] ?_ rfl ?hy25 ?rest25
  case hy25 => intro w; go_simp; (try with_reducible rfl)
  try simp only [Act.put, zp]
  refine doneE (by kernel_rfl) ?_ _
  have sa : g4 < U.heap.size := lt_of_heap ba
  obtain ⟨ia0, ia1, ia2, ia3⟩ := ia.out
  have iA : IsM (twoR ⟨false, 4, 0⟩ ⟨false, 1, 0⟩) a := four ia0 ia1 ia2 ia3
  have mA : MayR (twoR ⟨false, 4, 0⟩ ⟨false, 1, 0⟩) := twoR_may (sm _ _ (by decide) (by decide) (by decide) (by decide)) (sm _ _ (by decide) (by decide) (by decide) (by decide))
  have sA : a.share := (share_is Ra iA mA).2 ⟨rfl, fun h => absurd h (by decide)⟩
  have E1 := Lib.hid (mean_of Ra iA mA rfl (by decide) (k := 3) (by decide) (by decide) (pal5 _) (pal5 _))
  have E2 := Lib.hid (between_of Ra iA sA (low := 2) (high := 6) (by decide) (by decide) (by decide) (b := true) ⟨fun _ => pal8, fun _ => rfl⟩)
  replace iA := Lib.hid iA
  clear ia0 ia1 ia2 ia3 ia sA mA
  obtain ⟨⟨q44_0, q44_1, q44_2, q44_3, q44_4, q44_5, q44_6, q44_7, q44_8, q44_9, q44_10, q44_11⟩, q44f⟩ := MBox.cells ba
  go_wp2_with fail
  refine (Mean_num U a 3 Ra ⟨false, 4, 0⟩ ⟨false, 4, 0⟩ 0 E1.out).mono ?_
  rintro e' v45 ⟨X, Y, rfl, j46, iX, iY, B1, lx1, lx2, RX, RY⟩
  clear q44_0 q44_1 q44_2 q44_3 q44_4 q44_5 q44_6 q44_7 q44_8 q44_9 q44_10 q44_11 q44f
  try clear hw
  replace iX := Lib.hid iX
  replace iY := Lib.hid iY
  replace RX := RX.more (Nat.zero_le _) lx2
  replace RY := RY.more (Nat.zero_le _) (Nat.le_refl _)
  clear lx1 lx2
  obtain ⟨v47, hw⟩ : ∃ U, (v45.alloc (.cells #[.bool X.s, .slice X.A X.n X.c, .int .i64 X.e] 24)).alloc (.cells #[.bool Y.s, .slice Y.A Y.n Y.c, .int .i64 Y.e] 24) = U := ⟨_, rfl⟩
  obtain ⟨bx, byy, j48, s49_, s49__⟩ := boxes2 v45 _ _ hw
  replace j48 : Below v45.heap.size v45 v47 := j48
  replace bx : v47.heap[v45.heap.size]? = some (.cells #[.bool X.s, .slice X.A X.n X.c, .int .i64 X.e] 24 (0, 0)) := bx
  replace byy : v47.heap[v45.heap.size + 1]? = some (.cells #[.bool Y.s, .slice Y.A Y.n Y.c, .int .i64 Y.e] 24 (0, 0)) := byy
  have s49 : v45.heap.size < v47.heap.size := by omega
  have s49b : v45.heap.size + 1 < v47.heap.size := by omega
  go_wp2_with fail
  refine (Of_any v47 (1) (by decide) (by decide) false 1 rfl rfl).mono ?_
  rintro e' v50 ⟨A3, n3, rfl, j51, I3⟩
  try clear hw
  replace I3 := ints_all I3
  go_wp2_with fail
  refine (Of_any v50 (3) (by decide) (by decide) false 3 rfl rfl).mono ?_
  rintro e' v52 ⟨A4, n4, rfl, j53, I4⟩
  try clear hw
  replace I4 := ints_all I4
  have i3 : IsM (twoR ⟨false, 1, 0⟩ ⟨false, 3, 0⟩) ⟨⟨false, A3, n3, n3, 0, canon 4294967296 1⟩, ⟨false, A4, n4, n4, 0, canon 4294967296 3⟩, ZM.C, ZM.A⟩ := twoR_is ⟨rfl, rfl, rfl⟩ ⟨rfl, rfl, rfl⟩
  have m3 : MayR (twoR ⟨false, 1, 0⟩ ⟨false, 3, 0⟩) := twoR_may (sm _ _ (by decide) (by decide) (by decide) (by decide)) (sm _ _ (by decide) (by decide) (by decide) (by decide))
  have R3 : MRows v52 0 v52.heap.size ⟨⟨false, A3, n3, n3, 0, canon 4294967296 1⟩, ⟨false, A4, n4, n4, 0, canon 4294967296 3⟩, ZM.C, ZM.A⟩ := ⟨(ints_on I3 j53), I4, Ints.nil_ .., Ints.nil_ ..⟩
  have E3 := Lib.hid (mean_of R3 i3 m3 rfl (by decide) (k := 2) (by decide) (by decide) pal6 pal7)
  clear i3 m3
  go_wp2_with fail
  refine (Mean_num v52 ⟨⟨false, A3, n3, n3, 0, canon 4294967296 1⟩, ⟨false, A4, n4, n4, 0, canon 4294967296 3⟩, ZM.C, ZM.A⟩ 2 R3 ⟨false, 1, 2⟩ ⟨false, 1, 1⟩ 0 E3.out).mono ?_
  rintro e' v54 ⟨P, Q, rfl, j55, iP, iQ, B2, ly1, ly2, RP, RQ⟩
  try clear hw
  replace iP := Lib.hid iP
  replace iQ := Lib.hid iQ
  replace RP := RP.more (Nat.zero_le _) ly2
  replace RQ := RQ.more (Nat.zero_le _) (Nat.le_refl _)
  clear ly1 ly2 R3
  obtain ⟨v56, hw⟩ : ∃ U, (v54.alloc (.cells #[.bool P.s, .slice P.A P.n P.c, .int .i64 P.e] 24)).alloc (.cells #[.bool Q.s, .slice Q.A Q.n Q.c, .int .i64 Q.e] 24) = U := ⟨_, rfl⟩
  obtain ⟨bp, bq, j57, s58_, s58__⟩ := boxes2 v54 _ _ hw
  replace j57 : Below v54.heap.size v54 v56 := j57
  replace bp : v56.heap[v54.heap.size]? = some (.cells #[.bool P.s, .slice P.A P.n P.c, .int .i64 P.e] 24 (0, 0)) := bp
  replace bq : v56.heap[v54.heap.size + 1]? = some (.cells #[.bool Q.s, .slice Q.A Q.n Q.c, .int .i64 Q.e] 24 (0, 0)) := bq
  have s58 : v54.heap.size < v56.heap.size := by omega
  have s58b : v54.heap.size + 1 < v56.heap.size := by omega
  obtain ⟨⟨q59_0, q59_1, q59_2, q59_3, q59_4, q59_5, q59_6, q59_7, q59_8, q59_9, q59_10, q59_11⟩, q59f⟩ := MBox.cells (box_later ba (later j46 (later j48 (later j51 (later j53 (later j55 j57))))) sa)
  go_wp2_with fail
  refine (Between_num v56 a 2 6 (by decide) (by decide) (MRows.on Ra (later j46 (later j48 (later j51 (later j53 (later j55 j57)))))) (tab_later hT (later j2 (later j4 (later j6 (later j8 (later bw (later j46 (later j48 (later j51 (later j53 (later j55 j57))))))))))) true 0 E2.out).mono ?_
  rintro e' v60 ⟨rfl, j61⟩
  clear q59_0 q59_1 q59_2 q59_3 q59_4 q59_5 q59_6 q59_7 q59_8 q59_9 q59_10 q59_11 q59f
  try clear hw
  go_wp2_with fail
  try clear hw
  try clear hw
  refine region_E (Keeps v60) [] (m := 62) (L := #[zF,zF,zF,zF,zF,zF,zF,zF,zF,zF,zF,zF,zF,zF,zF,zF,zF,zF,zF,zF,zF,zF,zF,zF,zF,zF,zF,zF,zF,zF,zF,zF,zF,zF,zF,zF,zF,zF,zF,zF,zF,zF,zF,zF,zF,zF,zF,zF,zF,zF,zF,zF,zF,zF,zF,zF,zF,zF,zF,zF,zF,zF]) (by kernel_rfl) (by rfl) (by rfl) ?_
  have j63 : Below v60.heap.size v60 v60.drew := (Below.refl _ _).drew
  generalize v60.drew = v62 at *
  refine zE 0 #[zT,zF,zF,zF,zF,zF,zF,zF,zF,zF,zF,zF,zF,zF,zF,zF,zF,zF,zF,zF,zF,zF,zF,zF,zF,zF,zF,zF,zF,zF,zF,zF,zF,zF,zF,zF,zF,zF,zF,zF,zF,zF,zF,zF,zF,zF,zF,zF,zF,zF,zF,zF,zF,zF,zF,zF,zF,zF,zF,zF,zF,zF] ?_ rfl ?hy26 ?rest26
  case hy26 => intro w; go_simp; (try with_reducible rfl)
  try simp only [Act.put, zp]
  refine zE 1 #[zT,zT,zF,zF,zF,zF,zF,zF,zF,zF,zF,zF,zF,zF,zF,zF,zF,zF,zF,zF,zF,zF,zF,zF,zF,zF,zF,zF,zF,zF,zF,zF,zF,zF,zF,zF,zF,zF,zF,zF,zF,zF,zF,zF,zF,zF,zF,zF,zF,zF,zF,zF,zF,zF,zF,zF,zF,zF,zF,zF,zF,zF] ?_ rfl ?hy27 ?rest27
  case hy27 => intro w; go_simp; (try with_reducible rfl)
  try simp only [Act.put, zp]
  refine zE 2 #[zT,zT,zT,zF,zF,zF,zF,zF,zF,zF,zF,zF,zF,zF,zF,zF,zF,zF,zF,zF,zF,zF,zF,zF,zF,zF,zF,zF,zF,zF,zF,zF,zF,zF,zF,zF,zF,zF,zF,zF,zF,zF,zF,zF,zF,zF,zF,zF,zF,zF,zF,zF,zF,zF,zF,zF,zF,zF,zF,zF,zF,zF] ?_ rfl ?hy28 ?rest28
  case hy28 => intro w; go_simp; (try with_reducible rfl)
  try simp only [Act.put, zp]
  have kpy64 : Keeps v60 v62 := fun p hp => Below.block j63 p hp
  refine readE (i := 3) (L := #[zT,zT,zT,zT,zF,zF,zF,zF,zF,zF,zF,zF,zF,zF,zF,zF,zF,zF,zF,zF,zF,zF,zF,zF,zF,zF,zF,zF,zF,zF,zF,zF,zF,zF,zF,zF,zF,zF,zF,zF,zF,zF,zF,zF,zF,zF,zF,zF,zF,zF,zF,zF,zF,zF,zF,zF,zF,zF,zF,zF,zF,zF]) (v := .agg #[.bool k.S.s, .slice k.S.A k.S.n k.S.c, .int .i64 k.S.e, .bool k.W.s, .slice k.W.A k.W.n k.W.c, .int .i64 k.W.e, .bool k.C.s, .slice k.C.A k.C.n k.C.c, .int .i64 k.C.e, .bool k.A.s, .slice k.A.A k.A.n k.A.c, .int .i64 k.A.e]) rfl (by rfl) (by kernel_rfl) (by kernel_rfl) (by kernel_rfl) (fun _ _ _ h => h) (by assumption) (by rfl) ?y64 ?z65
  case y64 =>
   intro w' h1
   obtain ⟨⟨k0, k1, k2, k3, k4, k5, k6, k7, k8, k9, k10, k11⟩, kf⟩ := MBox.cells ((h1 _ (Nat.lt_of_lt_of_le s9 (Below.size (later bw (later j46 (later j48 (later j51 (later j53 (later j55 (later j57 j61)))))))))).trans (box_later bk (later bw (later j46 (later j48 (later j51 (later j53 (later j55 (later j57 j61))))))) s9))
   go_simp
  try simp only [Act.put, zp]
  refine stepK (i := 4) (L := #[zT,zT,zT,zT,zT,zF,zF,zF,zF,zF,zF,zF,zF,zF,zF,zF,zF,zF,zF,zF,zF,zF,zF,zF,zF,zF,zF,zF,zF,zF,zF,zF,zF,zF,zF,zF,zF,zF,zF,zF,zF,zF,zF,zF,zF,zF,zF,zF,zF,zF,zF,zF,zF,zF,zF,zF,zF,zF,zF,zF,zF,zF]) rfl (by rfl) (by kernel_rfl) (by rfl) (fun K hK => ?_)
  go_simp
  go_at_call 25
  refine (Of_any v62 3 (by decide) (by decide) false 3 rfl rfl).mono ?_
  rintro e' v66 ⟨A5, n5, rfl, j67, I5⟩
  replace I5 := ints_all I5
  refine hK _ _ ⟨fun _ _ => fun p hp => Below.block (later j63 j67) p hp, ?_⟩
  clear hK K
  try simp only []
  refine stepK (i := 5) (L := #[zT,zT,zT,zT,zT,zT,zF,zF,zF,zF,zF,zF,zF,zF,zF,zF,zF,zF,zF,zF,zF,zF,zF,zF,zF,zF,zF,zF,zF,zF,zF,zF,zF,zF,zF,zF,zF,zF,zF,zF,zF,zF,zF,zF,zF,zF,zF,zF,zF,zF,zF,zF,zF,zF,zF,zF,zF,zF,zF,zF,zF,zF]) rfl (by rfl) (by kernel_rfl) (by rfl) (fun K hK => ?_)
  go_simp
  go_at_call 56
  refine (half15_any v66).mono ?_
  rintro e' v68 ⟨A6, n6, o6, rfl, j69, I6⟩
  replace I6 := ints_all I6
  refine hK _ _ ⟨fun _ _ => fun p hp => Below.block (later j63 (later j67 j69)) p hp, ?_⟩
  clear hK K
  try simp only []
  refine zE 6 #[zT,zT,zT,zT,zT,zT,zT,zF,zF,zF,zF,zF,zF,zF,zF,zF,zF,zF,zF,zF,zF,zF,zF,zF,zF,zF,zF,zF,zF,zF,zF,zF,zF,zF,zF,zF,zF,zF,zF,zF,zF,zF,zF,zF,zF,zF,zF,zF,zF,zF,zF,zF,zF,zF,zF,zF,zF,zF,zF,zF,zF,zF] ?_ rfl ?hy32 ?rest32
  case hy32 => intro w; go_simp; (try with_reducible rfl)
  try simp only [Act.put, zp]
  have i5 : IsM (twoR ⟨false, 3, 0⟩ ⟨false, 1, 1⟩) ⟨⟨false, A5, n5, n5, 0, canon 4294967296 3⟩, ⟨false, A6, n6, o6, 1, canon 4294967296 1⟩, ZM.C, ZM.A⟩ := twoR_is ⟨rfl, rfl, rfl⟩ ⟨rfl, rfl, rfl⟩
  have ik2 := Lib.hid (alive_k ik.out gk.out)
  have is2 := Lib.hid (alive_k is.out gs.out)
  refine stepK (i := 7) (L := #[zT,zT,zT,zT,zT,zT,zT,zT,zF,zF,zF,zF,zF,zF,zF,zF,zF,zF,zF,zF,zF,zF,zF,zF,zF,zF,zF,zF,zF,zF,zF,zF,zF,zF,zF,zF,zF,zF,zF,zF,zF,zF,zF,zF,zF,zF,zF,zF,zF,zF,zF,zF,zF,zF,zF,zF,zF,zF,zF,zF,zF,zF]) rfl (by rfl) (by kernel_rfl) (by rfl) (fun K hK => ?_)
  go_simp
  go_at_call 32
  refine (MSame_any v68 k ⟨⟨false, A5, n5, n5, 0, canon 4294967296 3⟩, ⟨false, A6, n6, o6, 1, canon 4294967296 1⟩, ZM.C, ZM.A⟩ (MRows.on Rk (later j8 (later bw (later j46 (later j48 (later j51 (later j53 (later j55 (later j57 (later j61 (later j63 (later j67 j69)))))))))))) ⟨(ints_on I5 j69), I6, Ints.nil_ .., Ints.nil_ ..⟩ true (ik2.out.same i5)).mono ?_
  rintro e' v70 ⟨rfl, j71⟩
  clear i5
  refine hK _ _ ⟨fun _ _ => fun p hp => Below.block (later j63 (later j67 (later j69 j71))) p hp, ?_⟩
  clear hK K
  try simp only []
  refine zE 8 #[zT,zT,zT,zT,zT,zT,zT,zT,zT,zF,zF,zF,zF,zF,zF,zF,zF,zF,zF,zF,zF,zF,zF,zF,zF,zF,zF,zF,zF,zF,zF,zF,zF,zF,zF,zF,zF,zF,zF,zF,zF,zF,zF,zF,zF,zF,zF,zF,zF,zF,zF,zF,zF,zF,zF,zF,zF,zF,zF,zF,zF,zF] ?_ rfl ?hy34 ?rest34
  case hy34 => intro w; go_simp; (try with_reducible rfl)
  try simp only [Act.put, zp]
  refine zE 9 #[zT,zT,zT,zT,zT,zT,zT,zT,zT,zT,zF,zF,zF,zF,zF,zF,zF,zF,zF,zF,zF,zF,zF,zF,zF,zF,zF,zF,zF,zF,zF,zF,zF,zF,zF,zF,zF,zF,zF,zF,zF,zF,zF,zF,zF,zF,zF,zF,zF,zF,zF,zF,zF,zF,zF,zF,zF,zF,zF,zF,zF,zF] ?_ rfl ?hy35 ?rest35
  case hy35 => intro w; go_simp; (try with_reducible rfl)
  try simp only [Act.put, zp]
  have kpy72 : Keeps v60 v70 := fun p hp => Below.block (later j63 (later j67 (later j69 j71))) p hp
  refine readE (i := 10) (L := #[zT,zT,zT,zT,zT,zT,zT,zT,zT,zT,zT,zF,zF,zF,zF,zF,zF,zF,zF,zF,zF,zF,zF,zF,zF,zF,zF,zF,zF,zF,zF,zF,zF,zF,zF,zF,zF,zF,zF,zF,zF,zF,zF,zF,zF,zF,zF,zF,zF,zF,zF,zF,zF,zF,zF,zF,zF,zF,zF,zF,zF,zF]) (v := .agg #[.bool s.S.s, .slice s.S.A s.S.n s.S.c, .int .i64 s.S.e, .bool s.W.s, .slice s.W.A s.W.n s.W.c, .int .i64 s.W.e, .bool s.C.s, .slice s.C.A s.C.n s.C.c, .int .i64 s.C.e, .bool s.A.s, .slice s.A.A s.A.n s.A.c, .int .i64 s.A.e]) rfl (by rfl) (by kernel_rfl) (by kernel_rfl) (by kernel_rfl) (fun _ _ _ h => h) (by assumption) (by rfl) ?y72 ?z73
  case y72 =>
   intro w' h1
   obtain ⟨⟨k0, k1, k2, k3, k4, k5, k6, k7, k8, k9, k10, k11⟩, kf⟩ := MBox.cells ((h1 _ (Nat.lt_of_lt_of_le s9b (Below.size (later bw (later j46 (later j48 (later j51 (later j53 (later j55 (later j57 j61)))))))))).trans (box_later bs (later bw (later j46 (later j48 (later j51 (later j53 (later j55 (later j57 j61))))))) s9b))
   go_simp
  try simp only [Act.put, zp]
  have kpy74 : Keeps v60 v70 := fun p hp => Below.block (later j63 (later j67 (later j69 j71))) p hp
  refine readE (i := 11) (L := #[zT,zT,zT,zT,zT,zT,zT,zT,zT,zT,zT,zT,zF,zF,zF,zF,zF,zF,zF,zF,zF,zF,zF,zF,zF,zF,zF,zF,zF,zF,zF,zF,zF,zF,zF,zF,zF,zF,zF,zF,zF,zF,zF,zF,zF,zF,zF,zF,zF,zF,zF,zF,zF,zF,zF,zF,zF,zF,zF,zF,zF,zF]) (v := .agg #[.bool k.S.s, .slice k.S.A k.S.n k.S.c, .int .i64 k.S.e, .bool k.W.s, .slice k.W.A k.W.n k.W.c, .int .i64 k.W.e, .bool k.C.s, .slice k.C.A k.C.n k.C.c, .int .i64 k.C.e, .bool k.A.s, .slice k.A.A k.A.n k.A.c, .int .i64 k.A.e]) rfl (by rfl) (by kernel_rfl) (by kernel_rfl) (by kernel_rfl) (fun _ _ _ h => h) (by assumption) (by rfl) ?y74 ?z75
  case y74 =>
   intro w' h1
   obtain ⟨⟨k0, k1, k2, k3, k4, k5, k6, k7, k8, k9, k10, k11⟩, kf⟩ := MBox.cells ((h1 _ (Nat.lt_of_lt_of_le s9 (Below.size (later bw (later j46 (later j48 (later j51 (later j53 (later j55 (later j57 j61)))))))))).trans (box_later bk (later bw (later j46 (later j48 (later j51 (later j53 (later j55 (later j57 j61))))))) s9))
   go_simp
  try simp only [Act.put, zp]
  refine stepK (i := 12) (L := #[zT,zT,zT,zT,zT,zT,zT,zT,zT,zT,zT,zT,zT,zF,zF,zF,zF,zF,zF,zF,zF,zF,zF,zF,zF,zF,zF,zF,zF,zF,zF,zF,zF,zF,zF,zF,zF,zF,zF,zF,zF,zF,zF,zF,zF,zF,zF,zF,zF,zF,zF,zF,zF,zF,zF,zF,zF,zF,zF,zF,zF,zF]) rfl (by rfl) (by kernel_rfl) (by rfl) (fun K hK => ?_)
  go_simp
  go_at_call 32
  refine (MSame_any v70 s k (MRows.on Rs (later j8 (later bw (later j46 (later j48 (later j51 (later j53 (later j55 (later j57 (later j61 (later j63 (later j67 (later j69 j71))))))))))))) (MRows.on Rk (later j8 (later bw (later j46 (later j48 (later j51 (later j53 (later j55 (later j57 (later j61 (later j63 (later j67 (later j69 j71))))))))))))) true (is2.out.same ik2.out)).mono ?_
  rintro e' v76 ⟨rfl, j77⟩
  refine hK _ _ ⟨fun _ _ => fun p hp => Below.block (later j63 (later j67 (later j69 (later j71 j77)))) p hp, ?_⟩
  clear hK K
  try simp only []
  refine zE 13 #[zT,zT,zT,zT,zT,zT,zT,zT,zT,zT,zT,zT,zT,zT,zF,zF,zF,zF,zF,zF,zF,zF,zF,zF,zF,zF,zF,zF,zF,zF,zF,zF,zF,zF,zF,zF,zF,zF,zF,zF,zF,zF,zF,zF,zF,zF,zF,zF,zF,zF,zF,zF,zF,zF,zF,zF,zF,zF,zF,zF,zF,zF] ?_ rfl ?hy39 ?rest39
  case hy39 => intro w; go_simp; (try with_reducible rfl)
  try simp only [Act.put, zp]
  refine zE 14 #[zT,zT,zT,zT,zT,zT,zT,zT,zT,zT,zT,zT,zT,zT,zT,zF,zF,zF,zF,zF,zF,zF,zF,zF,zF,zF,zF,zF,zF,zF,zF,zF,zF,zF,zF,zF,zF,zF,zF,zF,zF,zF,zF,zF,zF,zF,zF,zF,zF,zF,zF,zF,zF,zF,zF,zF,zF,zF,zF,zF,zF,zF] ?_ rfl ?hy40 ?rest40
  case hy40 => intro w; go_simp; (try with_reducible rfl)
  try simp only [Act.put, zp]
  refine zE 15 #[zT,zT,zT,zT,zT,zT,zT,zT,zT,zT,zT,zT,zT,zT,zT,zT,zF,zF,zF,zF,zF,zF,zF,zF,zF,zF,zF,zF,zF,zF,zF,zF,zF,zF,zF,zF,zF,zF,zF,zF,zF,zF,zF,zF,zF,zF,zF,zF,zF,zF,zF,zF,zF,zF,zF,zF,zF,zF,zF,zF,zF,zF] ?_ rfl ?hy41 ?rest41
  case hy41 => intro w; go_simp; (try with_reducible rfl)
  try simp only [Act.put, zp]
  refine zE 16 #[zT,zT,zT,zT,zT,zT,zT,zT,zT,zT,zT,zT,zT,zT,zT,zT,zT,zF,zF,zF,zF,zF,zF,zF,zF,zF,zF,zF,zF,zF,zF,zF,zF,zF,zF,zF,zF,zF,zF,zF,zF,zF,zF,zF,zF,zF,zF,zF,zF,zF,zF,zF,zF,zF,zF,zF,zF,zF,zF,zF,zF,zF] ?_ rfl ?hy42 ?rest42
  case hy42 => intro w; go_simp; (try with_reducible rfl)
  try simp only [Act.put, zp]
  refine zE 17 #[zT,zT,zT,zT,zT,zT,zT,zT,zT,zT,zT,zT,zT,zT,zT,zT,zT,zT,zF,zF,zF,zF,zF,zF,zF,zF,zF,zF,zF,zF,zF,zF,zF,zF,zF,zF,zF,zF,zF,zF,zF,zF,zF,zF,zF,zF,zF,zF,zF,zF,zF,zF,zF,zF,zF,zF,zF,zF,zF,zF,zF,zF] ?_ rfl ?hy43 ?rest43
  case hy43 => intro w; go_simp; (try with_reducible rfl)
  try simp only [Act.put, zp]
  refine zE 18 #[zT,zT,zT,zT,zT,zT,zT,zT,zT,zT,zT,zT,zT,zT,zT,zT,zT,zT,zT,zF,zF,zF,zF,zF,zF,zF,zF,zF,zF,zF,zF,zF,zF,zF,zF,zF,zF,zF,zF,zF,zF,zF,zF,zF,zF,zF,zF,zF,zF,zF,zF,zF,zF,zF,zF,zF,zF,zF,zF,zF,zF,zF] ?_ rfl ?hy44 ?rest44
  case hy44 => intro w; go_simp; (try with_reducible rfl)
  try simp only [Act.put, zp]
  have kpy78 : Keeps v60 v76 := fun p hp => Below.block (later j63 (later j67 (later j69 (later j71 j77)))) p hp
  refine readE (i := 19) (L := #[zT,zT,zT,zT,zT,zT,zT,zT,zT,zT,zT,zT,zT,zT,zT,zT,zT,zT,zT,zT,zF,zF,zF,zF,zF,zF,zF,zF,zF,zF,zF,zF,zF,zF,zF,zF,zF,zF,zF,zF,zF,zF,zF,zF,zF,zF,zF,zF,zF,zF,zF,zF,zF,zF,zF,zF,zF,zF,zF,zF,zF,zF]) (v := .agg #[.bool a.S.s, .slice a.S.A a.S.n a.S.c, .int .i64 a.S.e, .bool a.W.s, .slice a.W.A a.W.n a.W.c, .int .i64 a.W.e, .bool a.C.s, .slice a.C.A a.C.n a.C.c, .int .i64 a.C.e, .bool a.A.s, .slice a.A.A a.A.n a.A.c, .int .i64 a.A.e]) rfl (by rfl) (by kernel_rfl) (by kernel_rfl) (by kernel_rfl) (fun _ _ _ h => h) (by assumption) (by rfl) ?y78 ?z79
  case y78 =>
   intro w' h1
   obtain ⟨⟨k0, k1, k2, k3, k4, k5, k6, k7, k8, k9, k10, k11⟩, kf⟩ := MBox.cells ((h1 _ (Nat.lt_of_lt_of_le sa (Below.size (later j46 (later j48 (later j51 (later j53 (later j55 (later j57 j61))))))))).trans (box_later ba (later j46 (later j48 (later j51 (later j53 (later j55 (later j57 j61)))))) sa))
   go_simp
  try simp only [Act.put, zp]
  refine stepK (i := 20) (L := #[zT,zT,zT,zT,zT,zT,zT,zT,zT,zT,zT,zT,zT,zT,zT,zT,zT,zT,zT,zT,zT,zF,zF,zF,zF,zF,zF,zF,zF,zF,zF,zF,zF,zF,zF,zF,zF,zF,zF,zF,zF,zF,zF,zF,zF,zF,zF,zF,zF,zF,zF,zF,zF,zF,zF,zF,zF,zF,zF,zF,zF,zF]) rfl (by rfl) (by kernel_rfl) (by rfl) (fun K hK => ?_)
  go_simp
  go_at_call 25
  refine (Of_any v76 4 (by decide) (by decide) false 4 rfl rfl).mono ?_
  rintro e' v80 ⟨A7, n7, rfl, j81, I7⟩
  replace I7 := ints_all I7
  refine hK _ _ ⟨fun _ _ => fun p hp => Below.block (later j63 (later j67 (later j69 (later j71 (later j77 j81))))) p hp, ?_⟩
  clear hK K
  try simp only []
  refine stepK (i := 21) (L := #[zT,zT,zT,zT,zT,zT,zT,zT,zT,zT,zT,zT,zT,zT,zT,zT,zT,zT,zT,zT,zT,zT,zF,zF,zF,zF,zF,zF,zF,zF,zF,zF,zF,zF,zF,zF,zF,zF,zF,zF,zF,zF,zF,zF,zF,zF,zF,zF,zF,zF,zF,zF,zF,zF,zF,zF,zF,zF,zF,zF,zF,zF]) rfl (by rfl) (by kernel_rfl) (by rfl) (fun K hK => ?_)
  go_simp
  go_at_call 25
  refine (Of_any v80 1 (by decide) (by decide) false 1 rfl rfl).mono ?_
  rintro e' v82 ⟨A8, n8, rfl, j83, I8⟩
  replace I8 := ints_all I8
  refine hK _ _ ⟨fun _ _ => fun p hp => Below.block (later j63 (later j67 (later j69 (later j71 (later j77 (later j81 j83)))))) p hp, ?_⟩
  clear hK K
  try simp only []
  refine zE 22 #[zT,zT,zT,zT,zT,zT,zT,zT,zT,zT,zT,zT,zT,zT,zT,zT,zT,zT,zT,zT,zT,zT,zT,zF,zF,zF,zF,zF,zF,zF,zF,zF,zF,zF,zF,zF,zF,zF,zF,zF,zF,zF,zF,zF,zF,zF,zF,zF,zF,zF,zF,zF,zF,zF,zF,zF,zF,zF,zF,zF,zF,zF] ?_ rfl ?hy48 ?rest48
  case hy48 => intro w; go_simp; (try with_reducible rfl)
  try simp only [Act.put, zp]
  have i7 : IsM (twoR ⟨false, 4, 0⟩ ⟨false, 1, 0⟩) ⟨⟨false, A7, n7, n7, 0, canon 4294967296 4⟩, ⟨false, A8, n8, n8, 0, canon 4294967296 1⟩, ZM.C, ZM.A⟩ := twoR_is ⟨rfl, rfl, rfl⟩ ⟨rfl, rfl, rfl⟩
  refine stepK (i := 23) (L := #[zT,zT,zT,zT,zT,zT,zT,zT,zT,zT,zT,zT,zT,zT,zT,zT,zT,zT,zT,zT,zT,zT,zT,zT,zF,zF,zF,zF,zF,zF,zF,zF,zF,zF,zF,zF,zF,zF,zF,zF,zF,zF,zF,zF,zF,zF,zF,zF,zF,zF,zF,zF,zF,zF,zF,zF,zF,zF,zF,zF,zF,zF]) rfl (by rfl) (by kernel_rfl) (by rfl) (fun K hK => ?_)
  go_simp
  go_at_call 32
  refine (MSame_any v82 a ⟨⟨false, A7, n7, n7, 0, canon 4294967296 4⟩, ⟨false, A8, n8, n8, 0, canon 4294967296 1⟩, ZM.C, ZM.A⟩ (MRows.on Ra (later j46 (later j48 (later j51 (later j53 (later j55 (later j57 (later j61 (later j63 (later j67 (later j69 (later j71 (later j77 (later j81 j83)))))))))))))) ⟨(ints_on I7 j83), I8, Ints.nil_ .., Ints.nil_ ..⟩ true (iA.out.same i7)).mono ?_
  rintro e' v84 ⟨rfl, j85⟩
  clear i7
  refine hK _ _ ⟨fun _ _ => fun p hp => Below.block (later j63 (later j67 (later j69 (later j71 (later j77 (later j81 (later j83 j85))))))) p hp, ?_⟩
  clear hK K
  try simp only []
  refine zE 24 #[zT,zT,zT,zT,zT,zT,zT,zT,zT,zT,zT,zT,zT,zT,zT,zT,zT,zT,zT,zT,zT,zT,zT,zT,zT,zF,zF,zF,zF,zF,zF,zF,zF,zF,zF,zF,zF,zF,zF,zF,zF,zF,zF,zF,zF,zF,zF,zF,zF,zF,zF,zF,zF,zF,zF,zF,zF,zF,zF,zF,zF,zF] ?_ rfl ?hy50 ?rest50
  case hy50 => intro w; go_simp; (try with_reducible rfl)
  try simp only [Act.put, zp]
  refine zE 25 #[zT,zT,zT,zT,zT,zT,zT,zT,zT,zT,zT,zT,zT,zT,zT,zT,zT,zT,zT,zT,zT,zT,zT,zT,zT,zT,zF,zF,zF,zF,zF,zF,zF,zF,zF,zF,zF,zF,zF,zF,zF,zF,zF,zF,zF,zF,zF,zF,zF,zF,zF,zF,zF,zF,zF,zF,zF,zF,zF,zF,zF,zF] ?_ rfl ?hy51 ?rest51
  case hy51 => intro w; go_simp; (try with_reducible rfl)
  try simp only [Act.put, zp]
  refine zE 26 #[zT,zT,zT,zT,zT,zT,zT,zT,zT,zT,zT,zT,zT,zT,zT,zT,zT,zT,zT,zT,zT,zT,zT,zT,zT,zT,zT,zF,zF,zF,zF,zF,zF,zF,zF,zF,zF,zF,zF,zF,zF,zF,zF,zF,zF,zF,zF,zF,zF,zF,zF,zF,zF,zF,zF,zF,zF,zF,zF,zF,zF,zF] ?_ rfl ?hy52 ?rest52
  case hy52 => intro w; go_simp; (try with_reducible rfl)
  try simp only [Act.put, zp]
  refine zE 27 #[zT,zT,zT,zT,zT,zT,zT,zT,zT,zT,zT,zT,zT,zT,zT,zT,zT,zT,zT,zT,zT,zT,zT,zT,zT,zT,zT,zT,zF,zF,zF,zF,zF,zF,zF,zF,zF,zF,zF,zF,zF,zF,zF,zF,zF,zF,zF,zF,zF,zF,zF,zF,zF,zF,zF,zF,zF,zF,zF,zF,zF,zF] ?_ rfl ?hy53 ?rest53
  case hy53 => intro w; go_simp; (try with_reducible rfl)
  try simp only [Act.put, zp]
  refine zE 28 #[zT,zT,zT,zT,zT,zT,zT,zT,zT,zT,zT,zT,zT,zT,zT,zT,zT,zT,zT,zT,zT,zT,zT,zT,zT,zT,zT,zT,zT,zF,zF,zF,zF,zF,zF,zF,zF,zF,zF,zF,zF,zF,zF,zF,zF,zF,zF,zF,zF,zF,zF,zF,zF,zF,zF,zF,zF,zF,zF,zF,zF,zF] ?_ rfl ?hy54 ?rest54
  case hy54 => intro w; go_simp; (try with_reducible rfl)
  try simp only [Act.put, zp]
  refine zE 29 #[zT,zT,zT,zT,zT,zT,zT,zT,zT,zT,zT,zT,zT,zT,zT,zT,zT,zT,zT,zT,zT,zT,zT,zT,zT,zT,zT,zT,zT,zT,zF,zF,zF,zF,zF,zF,zF,zF,zF,zF,zF,zF,zF,zF,zF,zF,zF,zF,zF,zF,zF,zF,zF,zF,zF,zF,zF,zF,zF,zF,zF,zF] ?_ rfl ?hy55 ?rest55
  case hy55 => intro w; go_simp; (try with_reducible rfl)
  try simp only [Act.put, zp]
  have kpy86 : Keeps v60 v84 := fun p hp => Below.block (later j63 (later j67 (later j69 (later j71 (later j77 (later j81 (later j83 j85))))))) p hp
  refine readE (i := 30) (L := #[zT,zT,zT,zT,zT,zT,zT,zT,zT,zT,zT,zT,zT,zT,zT,zT,zT,zT,zT,zT,zT,zT,zT,zT,zT,zT,zT,zT,zT,zT,zT,zF,zF,zF,zF,zF,zF,zF,zF,zF,zF,zF,zF,zF,zF,zF,zF,zF,zF,zF,zF,zF,zF,zF,zF,zF,zF,zF,zF,zF,zF,zF]) (v := .agg #[.bool X.s, .slice X.A X.n X.c, .int .i64 X.e]) rfl (by rfl) (by kernel_rfl) (by kernel_rfl) (by kernel_rfl) (fun _ _ _ h => h) (by assumption) (by rfl) ?y86 ?z87
  case y86 =>
   intro w' h1
   obtain ⟨⟨p1, p2, p3⟩, p4, p5, p6⟩ := boxD ((h1 _ (Nat.lt_of_lt_of_le s49 (Below.size (later j51 (later j53 (later j55 (later j57 j61))))))).trans (box_later bx (later j51 (later j53 (later j55 (later j57 j61)))) s49))
   go_simp
  try simp only [Act.put, zp]
  refine stepK (i := 31) (L := #[zT,zT,zT,zT,zT,zT,zT,zT,zT,zT,zT,zT,zT,zT,zT,zT,zT,zT,zT,zT,zT,zT,zT,zT,zT,zT,zT,zT,zT,zT,zT,zT,zF,zF,zF,zF,zF,zF,zF,zF,zF,zF,zF,zF,zF,zF,zF,zF,zF,zF,zF,zF,zF,zF,zF,zF,zF,zF,zF,zF,zF,zF]) rfl (by rfl) (by kernel_rfl) (by rfl) (fun K hK => ?_)
  go_simp
  go_at_call 25
  refine (Of_any v84 4 (by decide) (by decide) false 4 rfl rfl).mono ?_
  rintro e' v88 ⟨A9, n9, rfl, j89, I9⟩
  replace I9 := ints_all I9
  refine hK _ _ ⟨fun _ _ => fun p hp => Below.block (later j63 (later j67 (later j69 (later j71 (later j77 (later j81 (later j83 (later j85 j89)))))))) p hp, ?_⟩
  clear hK K
  try simp only []
  refine stepK (i := 32) (L := #[zT,zT,zT,zT,zT,zT,zT,zT,zT,zT,zT,zT,zT,zT,zT,zT,zT,zT,zT,zT,zT,zT,zT,zT,zT,zT,zT,zT,zT,zT,zT,zT,zT,zF,zF,zF,zF,zF,zF,zF,zF,zF,zF,zF,zF,zF,zF,zF,zF,zF,zF,zF,zF,zF,zF,zF,zF,zF,zF,zF,zF,zF]) rfl (by rfl) (by kernel_rfl) (by rfl) (fun K hK => ?_)
  go_simp
  go_at_call 23
  refine (Pa.dyadSame_any v88 _ _ _ _ _ _ _ _ _ _ _ _ (ints_on RX (later j48 (later j51 (later j53 (later j55 (later j57 (later j61 (later j63 (later j67 (later j69 (later j71 (later j77 (later j81 (later j83 (later j85 j89))))))))))))))) I9 true (same_is iX.out)).mono ?_
  rintro e' v90 ⟨rfl, j91⟩
  refine hK _ _ ⟨fun _ _ => fun p hp => Below.block (later j63 (later j67 (later j69 (later j71 (later j77 (later j81 (later j83 (later j85 (later j89 j91))))))))) p hp, ?_⟩
  clear hK K
  try simp only []
  refine zE 33 #[zT,zT,zT,zT,zT,zT,zT,zT,zT,zT,zT,zT,zT,zT,zT,zT,zT,zT,zT,zT,zT,zT,zT,zT,zT,zT,zT,zT,zT,zT,zT,zT,zT,zT,zF,zF,zF,zF,zF,zF,zF,zF,zF,zF,zF,zF,zF,zF,zF,zF,zF,zF,zF,zF,zF,zF,zF,zF,zF,zF,zF,zF] ?_ rfl ?hy59 ?rest59
  case hy59 => intro w; go_simp; (try with_reducible rfl)
  try simp only [Act.put, zp]
  refine zE 34 #[zT,zT,zT,zT,zT,zT,zT,zT,zT,zT,zT,zT,zT,zT,zT,zT,zT,zT,zT,zT,zT,zT,zT,zT,zT,zT,zT,zT,zT,zT,zT,zT,zT,zT,zT,zF,zF,zF,zF,zF,zF,zF,zF,zF,zF,zF,zF,zF,zF,zF,zF,zF,zF,zF,zF,zF,zF,zF,zF,zF,zF,zF] ?_ rfl ?hy60 ?rest60
  case hy60 => intro w; go_simp; (try with_reducible rfl)
  try simp only [Act.put, zp]
  have kpy92 : Keeps v60 v90 := fun p hp => Below.block (later j63 (later j67 (later j69 (later j71 (later j77 (later j81 (later j83 (later j85 (later j89 j91))))))))) p hp
  refine readE (i := 35) (L := #[zT,zT,zT,zT,zT,zT,zT,zT,zT,zT,zT,zT,zT,zT,zT,zT,zT,zT,zT,zT,zT,zT,zT,zT,zT,zT,zT,zT,zT,zT,zT,zT,zT,zT,zT,zT,zF,zF,zF,zF,zF,zF,zF,zF,zF,zF,zF,zF,zF,zF,zF,zF,zF,zF,zF,zF,zF,zF,zF,zF,zF,zF]) (v := .agg #[.bool Y.s, .slice Y.A Y.n Y.c, .int .i64 Y.e]) rfl (by rfl) (by kernel_rfl) (by kernel_rfl) (by kernel_rfl) (fun _ _ _ h => h) (by assumption) (by rfl) ?y92 ?z93
  case y92 =>
   intro w' h1
   obtain ⟨⟨p1, p2, p3⟩, p4, p5, p6⟩ := boxD ((h1 _ (Nat.lt_of_lt_of_le s49b (Below.size (later j51 (later j53 (later j55 (later j57 j61))))))).trans (box_later byy (later j51 (later j53 (later j55 (later j57 j61)))) s49b))
   go_simp
  try simp only [Act.put, zp]
  have kpy94 : Keeps v60 v90 := fun p hp => Below.block (later j63 (later j67 (later j69 (later j71 (later j77 (later j81 (later j83 (later j85 (later j89 j91))))))))) p hp
  refine readE (i := 36) (L := #[zT,zT,zT,zT,zT,zT,zT,zT,zT,zT,zT,zT,zT,zT,zT,zT,zT,zT,zT,zT,zT,zT,zT,zT,zT,zT,zT,zT,zT,zT,zT,zT,zT,zT,zT,zT,zT,zF,zF,zF,zF,zF,zF,zF,zF,zF,zF,zF,zF,zF,zF,zF,zF,zF,zF,zF,zF,zF,zF,zF,zF,zF]) (v := .agg #[.bool X.s, .slice X.A X.n X.c, .int .i64 X.e]) rfl (by rfl) (by kernel_rfl) (by kernel_rfl) (by kernel_rfl) (fun _ _ _ h => h) (by assumption) (by rfl) ?y94 ?z95
  case y94 =>
   intro w' h1
   obtain ⟨⟨p1, p2, p3⟩, p4, p5, p6⟩ := boxD ((h1 _ (Nat.lt_of_lt_of_le s49 (Below.size (later j51 (later j53 (later j55 (later j57 j61))))))).trans (box_later bx (later j51 (later j53 (later j55 (later j57 j61)))) s49))
   go_simp
  try simp only [Act.put, zp]
  refine stepK (i := 37) (L := #[zT,zT,zT,zT,zT,zT,zT,zT,zT,zT,zT,zT,zT,zT,zT,zT,zT,zT,zT,zT,zT,zT,zT,zT,zT,zT,zT,zT,zT,zT,zT,zT,zT,zT,zT,zT,zT,zT,zF,zF,zF,zF,zF,zF,zF,zF,zF,zF,zF,zF,zF,zF,zF,zF,zF,zF,zF,zF,zF,zF,zF,zF]) rfl (by rfl) (by kernel_rfl) (by rfl) (fun K hK => ?_)
  go_simp
  go_at_call 23
  refine (Pa.dyadSame_any v90 _ _ _ _ _ _ _ _ _ _ _ _ (ints_on RY (later j48 (later j51 (later j53 (later j55 (later j57 (later j61 (later j63 (later j67 (later j69 (later j71 (later j77 (later j81 (later j83 (later j85 (later j89 j91)))))))))))))))) (ints_on RX (later j48 (later j51 (later j53 (later j55 (later j57 (later j61 (later j63 (later j67 (later j69 (later j71 (later j77 (later j81 (later j83 (later j85 (later j89 j91)))))))))))))))) true (iY.out.same iX.out)).mono ?_
  rintro e' v96 ⟨rfl, j97⟩
  refine hK _ _ ⟨fun _ _ => fun p hp => Below.block (later j63 (later j67 (later j69 (later j71 (later j77 (later j81 (later j83 (later j85 (later j89 (later j91 j97)))))))))) p hp, ?_⟩
  clear hK K
  try simp only []
  refine zE 38 #[zT,zT,zT,zT,zT,zT,zT,zT,zT,zT,zT,zT,zT,zT,zT,zT,zT,zT,zT,zT,zT,zT,zT,zT,zT,zT,zT,zT,zT,zT,zT,zT,zT,zT,zT,zT,zT,zT,zT,zF,zF,zF,zF,zF,zF,zF,zF,zF,zF,zF,zF,zF,zF,zF,zF,zF,zF,zF,zF,zF,zF,zF] ?_ rfl ?hy64 ?rest64
  case hy64 => intro w; go_simp; (try with_reducible rfl)
  try simp only [Act.put, zp]
  refine zE 39 #[zT,zT,zT,zT,zT,zT,zT,zT,zT,zT,zT,zT,zT,zT,zT,zT,zT,zT,zT,zT,zT,zT,zT,zT,zT,zT,zT,zT,zT,zT,zT,zT,zT,zT,zT,zT,zT,zT,zT,zT,zF,zF,zF,zF,zF,zF,zF,zF,zF,zF,zF,zF,zF,zF,zF,zF,zF,zF,zF,zF,zF,zF] ?_ rfl ?hy65 ?rest65
  case hy65 => intro w; go_simp; (try with_reducible rfl)
  try simp only [Act.put, zp]
  refine zE 40 #[zT,zT,zT,zT,zT,zT,zT,zT,zT,zT,zT,zT,zT,zT,zT,zT,zT,zT,zT,zT,zT,zT,zT,zT,zT,zT,zT,zT,zT,zT,zT,zT,zT,zT,zT,zT,zT,zT,zT,zT,zT,zF,zF,zF,zF,zF,zF,zF,zF,zF,zF,zF,zF,zF,zF,zF,zF,zF,zF,zF,zF,zF] ?_ rfl ?hy66 ?rest66
  case hy66 => intro w; go_simp; (try with_reducible rfl)
  try simp only [Act.put, zp]
  refine zE 41 #[zT,zT,zT,zT,zT,zT,zT,zT,zT,zT,zT,zT,zT,zT,zT,zT,zT,zT,zT,zT,zT,zT,zT,zT,zT,zT,zT,zT,zT,zT,zT,zT,zT,zT,zT,zT,zT,zT,zT,zT,zT,zT,zF,zF,zF,zF,zF,zF,zF,zF,zF,zF,zF,zF,zF,zF,zF,zF,zF,zF,zF,zF] ?_ rfl ?hy67 ?rest67
  case hy67 => intro w; go_simp; (try with_reducible rfl)
  try simp only [Act.put, zp]
  refine zE 42 #[zT,zT,zT,zT,zT,zT,zT,zT,zT,zT,zT,zT,zT,zT,zT,zT,zT,zT,zT,zT,zT,zT,zT,zT,zT,zT,zT,zT,zT,zT,zT,zT,zT,zT,zT,zT,zT,zT,zT,zT,zT,zT,zT,zF,zF,zF,zF,zF,zF,zF,zF,zF,zF,zF,zF,zF,zF,zF,zF,zF,zF,zF] ?_ rfl ?hy68 ?rest68
  case hy68 => intro w; go_simp; (try with_reducible rfl)
  try simp only [Act.put, zp]
  refine zE 43 #[zT,zT,zT,zT,zT,zT,zT,zT,zT,zT,zT,zT,zT,zT,zT,zT,zT,zT,zT,zT,zT,zT,zT,zT,zT,zT,zT,zT,zT,zT,zT,zT,zT,zT,zT,zT,zT,zT,zT,zT,zT,zT,zT,zT,zF,zF,zF,zF,zF,zF,zF,zF,zF,zF,zF,zF,zF,zF,zF,zF,zF,zF] ?_ rfl ?hy69 ?rest69
  case hy69 => intro w; go_simp; (try with_reducible rfl)
  try simp only [Act.put, zp]
  have kpy98 : Keeps v60 v96 := fun p hp => Below.block (later j63 (later j67 (later j69 (later j71 (later j77 (later j81 (later j83 (later j85 (later j89 (later j91 j97)))))))))) p hp
  refine readE (i := 44) (L := #[zT,zT,zT,zT,zT,zT,zT,zT,zT,zT,zT,zT,zT,zT,zT,zT,zT,zT,zT,zT,zT,zT,zT,zT,zT,zT,zT,zT,zT,zT,zT,zT,zT,zT,zT,zT,zT,zT,zT,zT,zT,zT,zT,zT,zT,zF,zF,zF,zF,zF,zF,zF,zF,zF,zF,zF,zF,zF,zF,zF,zF,zF]) (v := .agg #[.bool P.s, .slice P.A P.n P.c, .int .i64 P.e]) rfl (by rfl) (by kernel_rfl) (by kernel_rfl) (by kernel_rfl) (fun _ _ _ h => h) (by assumption) (by rfl) ?y98 ?z99
  case y98 =>
   intro w' h1
   obtain ⟨⟨p1, p2, p3⟩, p4, p5, p6⟩ := boxD ((h1 _ (Nat.lt_of_lt_of_le s58 (Below.size j61))).trans (box_later bp j61 s58))
   go_simp
  try simp only [Act.put, zp]
  refine stepK (i := 45) (L := #[zT,zT,zT,zT,zT,zT,zT,zT,zT,zT,zT,zT,zT,zT,zT,zT,zT,zT,zT,zT,zT,zT,zT,zT,zT,zT,zT,zT,zT,zT,zT,zT,zT,zT,zT,zT,zT,zT,zT,zT,zT,zT,zT,zT,zT,zT,zF,zF,zF,zF,zF,zF,zF,zF,zF,zF,zF,zF,zF,zF,zF,zF]) rfl (by rfl) (by kernel_rfl) (by rfl) (fun K hK => ?_)
  go_simp
  obtain ⟨v100, hc_, T1, j101, s102⟩ := alloc_one v96
  rw [hc_]
  clear hc_
  have I10 : Ints v100 0 v100.heap.size .u32 (some ⟨v96.heap.size, 0, none⟩) 1 (canon 4294967296 1) := (row_one T1 (by decide) (by decide)).more (Nat.zero_le _) (by omega)
  refine hK _ _ ⟨fun _ _ => fun p hp => Below.block (later j63 (later j67 (later j69 (later j71 (later j77 (later j81 (later j83 (later j85 (later j89 (later j91 (later j97 j101))))))))))) p hp, ?_⟩
  clear hK K
  try simp only []
  refine zE 46 #[zT,zT,zT,zT,zT,zT,zT,zT,zT,zT,zT,zT,zT,zT,zT,zT,zT,zT,zT,zT,zT,zT,zT,zT,zT,zT,zT,zT,zT,zT,zT,zT,zT,zT,zT,zT,zT,zT,zT,zT,zT,zT,zT,zT,zT,zT,zT,zF,zF,zF,zF,zF,zF,zF,zF,zF,zF,zF,zF,zF,zF,zF] ?_ rfl ?hy72 ?rest72
  case hy72 => intro w; go_simp; (try with_reducible rfl)
  try simp only [Act.put, zp]
  refine stepK (i := 47) (L := #[zT,zT,zT,zT,zT,zT,zT,zT,zT,zT,zT,zT,zT,zT,zT,zT,zT,zT,zT,zT,zT,zT,zT,zT,zT,zT,zT,zT,zT,zT,zT,zT,zT,zT,zT,zT,zT,zT,zT,zT,zT,zT,zT,zT,zT,zT,zT,zT,zF,zF,zF,zF,zF,zF,zF,zF,zF,zF,zF,zF,zF,zF]) rfl (by rfl) (by kernel_rfl) (by rfl) (fun K hK => ?_)
  go_simp
  go_at_call 23
  refine (Pa.dyadSame_any v100 _ _ _ _ _ _ _ _ _ _ _ _ (ints_on RP (later j57 (later j61 (later j63 (later j67 (later j69 (later j71 (later j77 (later j81 (later j83 (later j85 (later j89 (later j91 (later j97 j101)))))))))))))) I10 true (same_is iP.out)).mono ?_
  rintro e' v103 ⟨rfl, j104⟩
  refine hK _ _ ⟨fun _ _ => fun p hp => Below.block (later j63 (later j67 (later j69 (later j71 (later j77 (later j81 (later j83 (later j85 (later j89 (later j91 (later j97 (later j101 j104)))))))))))) p hp, ?_⟩
  clear hK K
  try simp only []
  refine zE 48 #[zT,zT,zT,zT,zT,zT,zT,zT,zT,zT,zT,zT,zT,zT,zT,zT,zT,zT,zT,zT,zT,zT,zT,zT,zT,zT,zT,zT,zT,zT,zT,zT,zT,zT,zT,zT,zT,zT,zT,zT,zT,zT,zT,zT,zT,zT,zT,zT,zT,zF,zF,zF,zF,zF,zF,zF,zF,zF,zF,zF,zF,zF] ?_ rfl ?hy74 ?rest74
  case hy74 => intro w; go_simp; (try with_reducible rfl)
  try simp only [Act.put, zp]
  refine zE 49 #[zT,zT,zT,zT,zT,zT,zT,zT,zT,zT,zT,zT,zT,zT,zT,zT,zT,zT,zT,zT,zT,zT,zT,zT,zT,zT,zT,zT,zT,zT,zT,zT,zT,zT,zT,zT,zT,zT,zT,zT,zT,zT,zT,zT,zT,zT,zT,zT,zT,zT,zF,zF,zF,zF,zF,zF,zF,zF,zF,zF,zF,zF] ?_ rfl ?hy75 ?rest75
  case hy75 => intro w; go_simp; (try with_reducible rfl)
  try simp only [Act.put, zp]
  have kpy105 : Keeps v60 v103 := fun p hp => Below.block (later j63 (later j67 (later j69 (later j71 (later j77 (later j81 (later j83 (later j85 (later j89 (later j91 (later j97 (later j101 j104)))))))))))) p hp
  refine readE (i := 50) (L := #[zT,zT,zT,zT,zT,zT,zT,zT,zT,zT,zT,zT,zT,zT,zT,zT,zT,zT,zT,zT,zT,zT,zT,zT,zT,zT,zT,zT,zT,zT,zT,zT,zT,zT,zT,zT,zT,zT,zT,zT,zT,zT,zT,zT,zT,zT,zT,zT,zT,zT,zT,zF,zF,zF,zF,zF,zF,zF,zF,zF,zF,zF]) (v := .agg #[.bool Q.s, .slice Q.A Q.n Q.c, .int .i64 Q.e]) rfl (by rfl) (by kernel_rfl) (by kernel_rfl) (by kernel_rfl) (fun _ _ _ h => h) (by assumption) (by rfl) ?y105 ?z106
  case y105 =>
   intro w' h1
   obtain ⟨⟨p1, p2, p3⟩, p4, p5, p6⟩ := boxD ((h1 _ (Nat.lt_of_lt_of_le s58b (Below.size j61))).trans (box_later bq j61 s58b))
   go_simp
  try simp only [Act.put, zp]
  refine stepK (i := 51) (L := #[zT,zT,zT,zT,zT,zT,zT,zT,zT,zT,zT,zT,zT,zT,zT,zT,zT,zT,zT,zT,zT,zT,zT,zT,zT,zT,zT,zT,zT,zT,zT,zT,zT,zT,zT,zT,zT,zT,zT,zT,zT,zT,zT,zT,zT,zT,zT,zT,zT,zT,zT,zT,zF,zF,zF,zF,zF,zF,zF,zF,zF,zF]) rfl (by rfl) (by kernel_rfl) (by rfl) (fun K hK => ?_)
  go_simp
  go_at_call 56
  refine (half15_any v103).mono ?_
  rintro e' v107 ⟨B6, k6, p6, rfl, j108, I11⟩
  replace I11 := ints_all I11
  refine hK _ _ ⟨fun _ _ => fun p hp => Below.block (later j63 (later j67 (later j69 (later j71 (later j77 (later j81 (later j83 (later j85 (later j89 (later j91 (later j97 (later j101 (later j104 j108))))))))))))) p hp, ?_⟩
  clear hK K
  try simp only []
  refine stepK (i := 52) (L := #[zT,zT,zT,zT,zT,zT,zT,zT,zT,zT,zT,zT,zT,zT,zT,zT,zT,zT,zT,zT,zT,zT,zT,zT,zT,zT,zT,zT,zT,zT,zT,zT,zT,zT,zT,zT,zT,zT,zT,zT,zT,zT,zT,zT,zT,zT,zT,zT,zT,zT,zT,zT,zT,zF,zF,zF,zF,zF,zF,zF,zF,zF]) rfl (by rfl) (by kernel_rfl) (by rfl) (fun K hK => ?_)
  go_simp
  go_at_call 23
  refine (Pa.dyadSame_any v107 _ _ _ _ _ _ _ _ _ _ _ _ (ints_on RQ (later j57 (later j61 (later j63 (later j67 (later j69 (later j71 (later j77 (later j81 (later j83 (later j85 (later j89 (later j91 (later j97 (later j101 (later j104 j108)))))))))))))))) I11 true (same_is iQ.out)).mono ?_
  rintro e' v109 ⟨rfl, j110⟩
  refine hK _ _ ⟨fun _ _ => fun p hp => Below.block (later j63 (later j67 (later j69 (later j71 (later j77 (later j81 (later j83 (later j85 (later j89 (later j91 (later j97 (later j101 (later j104 (later j108 j110)))))))))))))) p hp, ?_⟩
  clear hK K
  try simp only []
  refine zE 53 #[zT,zT,zT,zT,zT,zT,zT,zT,zT,zT,zT,zT,zT,zT,zT,zT,zT,zT,zT,zT,zT,zT,zT,zT,zT,zT,zT,zT,zT,zT,zT,zT,zT,zT,zT,zT,zT,zT,zT,zT,zT,zT,zT,zT,zT,zT,zT,zT,zT,zT,zT,zT,zT,zT,zF,zF,zF,zF,zF,zF,zF,zF] ?_ rfl ?hy79 ?rest79
  case hy79 => intro w; go_simp; (try with_reducible rfl)
  try simp only [Act.put, zp]
  refine zE 54 #[zT,zT,zT,zT,zT,zT,zT,zT,zT,zT,zT,zT,zT,zT,zT,zT,zT,zT,zT,zT,zT,zT,zT,zT,zT,zT,zT,zT,zT,zT,zT,zT,zT,zT,zT,zT,zT,zT,zT,zT,zT,zT,zT,zT,zT,zT,zT,zT,zT,zT,zT,zT,zT,zT,zT,zF,zF,zF,zF,zF,zF,zF] ?_ rfl ?hy80 ?rest80
  case hy80 => intro w; go_simp; (try with_reducible rfl)
  try simp only [Act.put, zp]
  refine zE 55 #[zT,zT,zT,zT,zT,zT,zT,zT,zT,zT,zT,zT,zT,zT,zT,zT,zT,zT,zT,zT,zT,zT,zT,zT,zT,zT,zT,zT,zT,zT,zT,zT,zT,zT,zT,zT,zT,zT,zT,zT,zT,zT,zT,zT,zT,zT,zT,zT,zT,zT,zT,zT,zT,zT,zT,zT,zF,zF,zF,zF,zF,zF] ?_ rfl ?hy81 ?rest81
  case hy81 => intro w; go_simp; (try with_reducible rfl)
  try simp only [Act.put, zp]
  refine zE 56 #[zT,zT,zT,zT,zT,zT,zT,zT,zT,zT,zT,zT,zT,zT,zT,zT,zT,zT,zT,zT,zT,zT,zT,zT,zT,zT,zT,zT,zT,zT,zT,zT,zT,zT,zT,zT,zT,zT,zT,zT,zT,zT,zT,zT,zT,zT,zT,zT,zT,zT,zT,zT,zT,zT,zT,zT,zT,zF,zF,zF,zF,zF] ?_ rfl ?hy82 ?rest82
  case hy82 => intro w; go_simp; (try with_reducible rfl)
  try simp only [Act.put, zp]
  refine zE 57 #[zT,zT,zT,zT,zT,zT,zT,zT,zT,zT,zT,zT,zT,zT,zT,zT,zT,zT,zT,zT,zT,zT,zT,zT,zT,zT,zT,zT,zT,zT,zT,zT,zT,zT,zT,zT,zT,zT,zT,zT,zT,zT,zT,zT,zT,zT,zT,zT,zT,zT,zT,zT,zT,zT,zT,zT,zT,zT,zF,zF,zF,zF] ?_ rfl ?hy83 ?rest83
  case hy83 => intro w; go_simp; (try with_reducible rfl)
  try simp only [Act.put, zp]
  refine zE 58 #[zT,zT,zT,zT,zT,zT,zT,zT,zT,zT,zT,zT,zT,zT,zT,zT,zT,zT,zT,zT,zT,zT,zT,zT,zT,zT,zT,zT,zT,zT,zT,zT,zT,zT,zT,zT,zT,zT,zT,zT,zT,zT,zT,zT,zT,zT,zT,zT,zT,zT,zT,zT,zT,zT,zT,zT,zT,zT,zT,zF,zF,zF] ?_ rfl ?hy84 ?rest84
  case hy84 => intro w; go_simp; (try with_reducible rfl)
  try simp only [Act.put, zp]
  refine zE 59 #[zT,zT,zT,zT,zT,zT,zT,zT,zT,zT,zT,zT,zT,zT,zT,zT,zT,zT,zT,zT,zT,zT,zT,zT,zT,zT,zT,zT,zT,zT,zT,zT,zT,zT,zT,zT,zT,zT,zT,zT,zT,zT,zT,zT,zT,zT,zT,zT,zT,zT,zT,zT,zT,zT,zT,zT,zT,zT,zT,zT,zF,zF] ?_ rfl ?hy85 ?rest85
  case hy85 => intro w; go_simp; (try with_reducible rfl)
  try simp only [Act.put, zp]
  refine zE 60 #[zT,zT,zT,zT,zT,zT,zT,zT,zT,zT,zT,zT,zT,zT,zT,zT,zT,zT,zT,zT,zT,zT,zT,zT,zT,zT,zT,zT,zT,zT,zT,zT,zT,zT,zT,zT,zT,zT,zT,zT,zT,zT,zT,zT,zT,zT,zT,zT,zT,zT,zT,zT,zT,zT,zT,zT,zT,zT,zT,zT,zT,zF] ?_ rfl ?hy86 ?rest86
  case hy86 => intro w; go_simp; (try with_reducible rfl)
  try simp only [Act.put, zp]
  refine zE 61 #[zT,zT,zT,zT,zT,zT,zT,zT,zT,zT,zT,zT,zT,zT,zT,zT,zT,zT,zT,zT,zT,zT,zT,zT,zT,zT,zT,zT,zT,zT,zT,zT,zT,zT,zT,zT,zT,zT,zT,zT,zT,zT,zT,zT,zT,zT,zT,zT,zT,zT,zT,zT,zT,zT,zT,zT,zT,zT,zT,zT,zT,zT] ?_ rfl ?hy87 ?rest87
  case hy87 => intro w; go_simp; (try with_reducible rfl)
  try simp only [Act.put, zp]
  refine doneE (by kernel_rfl) ?_ _
  go_wp2
  go_ret
  exact ⟨rfl, (later j2 (later j4 (later j6 (later j8 (later bw (later j46 (later j48 (later j51 (later j53 (later j55 (later j57 (later j61 (later j63 (later j67 (later j69 (later j71 (later j77 (later j81 (later j83 (later j85 (later j89 (later j91 (later j97 (later j101 (later j104 (later j108 j110))))))))))))))))))))))))))⟩
end Ma
end Go.Proofs.YtbbnbgllgomolaaDoor
namespace Go.Proofs.YtbbnbgllgomolaaDoor
open Go.RowKit
namespace Ma
open Dp Dy
/-- Both halved, up. -/
theorem scale_ceil {a b : Dn} (hn : b.neg = false) (h0 : b.m ≠ 0) (h1 : (halfD a).2 = 0) (h2 : (halfD b).2 = 0) (k : Nat) : toD (halfD a).1 (halfD b).1 k (!(halfD a).1.neg) = toD a b k (!a.neg) := by
 obtain ⟨a1, a2⟩ := half_vl h1
 obtain ⟨b1, b2⟩ := half_vl h2
 obtain ⟨K, hK⟩ : ∃ K, a.e + b.e + 2 ≤ K := ⟨_, Nat.le_refl _⟩
 have a3 := a2 K (by omega)
 have b3 := b2 K (by omega)
 obtain ⟨p1, p2⟩ := vl_pos hn h0 K
 generalize hc : (halfD a).1 = c at *
 generalize hd : (halfD b).1 = d at *
 have dp : 0 < vl d K := by omega
 obtain ⟨d1, d2⟩ := pos_vl dp
 obtain ⟨N, hN, sN⟩ := toD_ceil hn h0 k (a := a) (K := K) (by omega)
 obtain ⟨N2, hN2, sN2⟩ := toD_ceil d1 d2 k (a := c) (K := K) (by omega)
 have e2 : sg c.neg N2 = sg a.neg N := by
  have e4 : -(2 * vl c K * 2 ^ k) = 2 * -(vl c K * 2 ^ k) := by rw [Int.mul_assoc, Int.mul_neg]
  rw [sN, sN2, ← a3, ← b3, e4, Int.mul_ediv_mul_of_pos _ _ (by decide)]
 rw [hN, hN2]
 exact formed_sg e2 k
/-- Both halved, down. -/
theorem scale_floor {a b : Dn} (hn : b.neg = false) (h0 : b.m ≠ 0) (h1 : (halfD a).2 = 0) (h2 : (halfD b).2 = 0) (k : Nat) : ((halfD b).1.neg = false ∧ (halfD b).1.m ≠ 0) ∧ toD (halfD a).1 (halfD b).1 k (halfD a).1.neg = toD a b k a.neg := by
 obtain ⟨a1, a2⟩ := half_vl h1
 obtain ⟨b1, b2⟩ := half_vl h2
 obtain ⟨K, hK⟩ : ∃ K, a.e + b.e + 2 ≤ K := ⟨_, Nat.le_refl _⟩
 have a3 := a2 K (by omega)
 have b3 := b2 K (by omega)
 obtain ⟨p1, p2⟩ := vl_pos hn h0 K
 generalize hc : (halfD a).1 = c at *
 generalize hd : (halfD b).1 = d at *
 have dp : 0 < vl d K := by omega
 obtain ⟨d1, d2⟩ := pos_vl dp
 obtain ⟨N, hN, sN⟩ := toD_floor hn h0 k (a := a) (K := K) (by omega)
 obtain ⟨N2, hN2, sN2⟩ := toD_floor d1 d2 k (a := c) (K := K) (by omega)
 have e2 : sg c.neg N2 = sg a.neg N := by
  rw [sN, sN2, ← a3, ← b3, Int.mul_assoc, Int.mul_ediv_mul_of_pos _ _ (by decide)]
 refine ⟨⟨d1, d2⟩, ?_⟩
 rw [hN, hN2]
 exact formed_sg e2 k
theorem give_inv {w : World} {lo hi : Nat} {m : Mv} {kR sR : Nat → Dn} (hR : MRows w lo hi m) (hg : giveM m = ((kR, sR), 0)) :
  m.share ∧ m.W.n ≠ 0 ∧ (halfD (dnM m 0)).2 = 0 ∧ (halfD (dnM m 1)).2 = 0 ∧ (∀ x, x < 4 → kR x = if x = 0 then (halfD (dnM m 0)).1 else if x = 1 then (halfD (dnM m 1)).1 else dnM m x) ∧ (∀ x, x < 4 → sR x = if x = 0 then (halfD (dnM m 0)).1 else if x = 1 then (halfD (dnM m 1)).1 else Dn.zero) := by
 unfold giveM at hg
 split at hg
 · injection hg with _ h
   omega
 · rename_i hb
   have hs := badS_one.1 (by simpa using hb)
   split at hg
   · injection hg with _ h
     omega
   · rename_i hn
     have hI := IsM.of hR hs.1
     have hM := dnM_may hR hs.1
     have e0 : halfX m.S.s m.S.xs m.S.e = halfD (dnM m 0) := (hI 0 (by decide)).half (hM 0 (by decide))
     have e1 : halfX m.W.s m.W.xs m.W.e = halfD (dnM m 1) := (hI 1 (by decide)).half (hM 1 (by decide))
     unfold splitM at hg
     rw [if_pos hs.1, e0, e1] at hg
     split at hg
     · rename_i hc
       injection hg with h1 _
       injection h1 with h1 h2
       subst h1 h2
       exact ⟨hs, hn, hc.1, hc.2, fun _ _ => rfl, fun _ _ => rfl⟩
     · injection hg with _ h
       omega
/-- A share and its halves have one mean. -/
theorem half_mean {w w' : World} {lo hi lo' hi' : Nat} {m k : Mv} {R : Nat → Dn} (hR : MRows w lo hi m) (hs : m.share) (hn : m.W.n ≠ 0) (h1 : (halfD (dnM m 0)).2 = 0) (h2 : (halfD (dnM m 1)).2 = 0) (hK : MRows w' lo' hi' k) (hI : IsM R k) (hr : MayR R)
  (k0 : R 0 = (halfD (dnM m 0)).1) (k1 : R 1 = (halfD (dnM m 1)).1) : k.share ∧ k.W.n ≠ 0 ∧ ∀ n, meanM k n = meanM m n := by
 obtain ⟨_, _, b1, b2⟩ := share_down hR hs hn 0 (by decide) (by decide)
 obtain ⟨⟨c1, c2⟩, _⟩ := scale_floor b1 b2 h1 h2 0
 have sk : k.share := (share_is hK hI hr).2 ⟨by rw [k1]; exact c1, fun h => absurd h (by rw [k1]; exact c2)⟩
 have nk : k.W.n ≠ 0 := fun h => c2 (by rw [← k1]; exact (Is.len (hI 1 (by decide)) hK.W).1 h)
 refine ⟨sk, nk, fun n => ?_⟩
 have ek : ¬ badS [k] = true := by rw [badS_one.2 sk]; simp
 have em : ¬ badS [m] = true := by rw [badS_one.2 hs]; simp
 unfold meanM
 by_cases hk : n < 0 ∨ 64 < n
 · rw [if_neg ek, if_pos hk, if_neg em, if_pos hk]
 · rw [if_neg ek, if_neg hk, if_neg nk, if_neg em, if_neg hk, if_neg hn]
   obtain ⟨d1, d2, _, _⟩ := share_down hR hs hn n (by omega) (by omega)
   obtain ⟨f1, f2, _, _⟩ := share_down hK sk nk n (by omega) (by omega)
   rw [d1, d2, f1, f2, hI.dn (by decide), hI.dn (by decide), k0, k1, (scale_floor b1 b2 h1 h2 n.toNat).2, scale_ceil b1 b2 h1 h2 n.toNat]
theorem cmp_two {x y : Dn} {X Y : Dv} (h : Is x X) (k : Is y Y) (hx : x.May) (hy : y.May) : cmpX X.s X.xs X.e Y.s Y.xs Y.e = (cmpD x y, 0) := by
 rw [h.1, h.2.1, h.2.2, k.1, k.2.1, k.2.2]
 exact cmpX_dn hx hy
theorem mean_may {m : Mv} {k : Int} {x y : Dn} {c : Int} (h : meanM m k = ((x, y), c)) : x.May ∧ y.May := by
 unfold meanM at h
 have z : ∀ {c' : Int}, (((Dn.zero, Dn.zero), c') : (Dn × Dn) × Int) = ((x, y), c) → x.May ∧ y.May := fun h => by
  injection h with h1 _
  injection h1 with h1 h2
  subst h1 h2
  exact ⟨zero_may, zero_may⟩
 split at h
 · exact z h
 · split at h
   · exact z h
   · split at h
     · exact z h
     · unfold bothD at h
       split at h
       · split at h
         · injection h with h1 _
           injection h1 with h1 h2
           subst h1 h2
           exact ⟨toX_may (x := (downM m k).1) (c := (downM m k).2) rfl, toX_may (x := (upM m k).1) (c := (upM m k).2) rfl⟩
         · exact z h
       · exact z h
/-- A mean lies between what its share lies between, and down is not above up. -/
theorem band_share {w : World} {lo hi : Nat} {m : Mv} (hR : MRows w lo hi m) {k low high : Int} {x y : Dn} {r : Bool} (hm : meanM m k = ((x, y), 0)) (hb : betweenM m low high = (r, 0)) :
  cmpD x y ≤ 0 ∧ (r = true → cmpD (whole low) x ≤ 0 ∧ cmpD y (whole high) ≤ 0) := by
 unfold meanM at hm
 split at hm
 · injection hm with _ h
   omega
 · rename_i hbad
   have hs := badS_one.1 (by simpa using hbad)
   split at hm
   · injection hm with _ h
     omega
   · rename_i hk
     split at hm
     · injection hm with _ h
       omega
     · rename_i hn
       have hlim : -2147483647 ≤ low ∧ high ≤ 2147483647 ∧ low ≤ high := by
        unfold betweenM at hb
        rw [if_neg (by rw [badS_one.2 hs]; simp)] at hb
        split at hb
        · injection hb with _ h
          omega
        · rename_i h
          omega
       obtain ⟨r', e1, e2⟩ := between_share hR hs hlim.1 hlim.2.1 hlim.2.2
       rw [hb] at e1
       injection e1 with e1 _
       subst e1
       obtain ⟨d1, d2, d3, d4⟩ := share_down hR hs hn k (by omega) (by omega)
       rw [d1, d2] at hm
       obtain ⟨K, hK⟩ : ∃ K, (dnM m 0).e + (dnM m 1).e ≤ K := ⟨_, Nat.le_refl _⟩
       obtain ⟨N, hN, sN⟩ := toD_floor d3 d4 k.toNat hK
       obtain ⟨M, hM, sM⟩ := toD_ceil d3 d4 k.toNat hK
       rw [hN, hM] at hm
       unfold bothD at hm
       split at hm
       · rename_i k1
         split at hm
         · rename_i k2
           injection hm with h1 _
           injection h1 with h1 h2
           obtain ⟨x1, x2⟩ := formed_vl k1
           obtain ⟨y1, y2⟩ := formed_vl k2
           have x3 := x2 k.toNat (Nat.le_refl _)
           have y3 := y2 k.toNat (Nat.le_refl _)
           rw [h1] at x1 x3
           rw [h2] at y1 y3
           simp only [Nat.sub_self, Nat.pow_zero, Nat.mul_one] at x3 y3
           rw [sN] at x3
           rw [sM] at y3
           obtain ⟨bp, bq⟩ := vl_pos d3 d4 K
           have hB : 0 < vl (dnM m 1) K := by rw [bp]; exact_mod_cast bq
           have hlies : r = true → low * vl (dnM m 1) K ≤ vl (dnM m 0) K ∧ vl (dnM m 0) K ≤ high * vl (dnM m 1) K := fun h => lies_at (e2.1 h) (by omega) (by omega)
           have hp : (0 : Int) < 2 ^ k.toNat := Int.pow_pos (by omega)
           have l2 := vl_more (whole low) (k := 0) (l := k.toNat) (Nat.le_refl _) (Nat.zero_le _)
           have h2' := vl_more (whole high) (k := 0) (l := k.toNat) (Nat.le_refl _) (Nat.zero_le _)
           rw [vl_whole, Nat.sub_zero] at l2 h2'
           generalize vl (dnM m 0) K = Z at *
           generalize vl (dnM m 1) K = B at *
           generalize (2 : Int) ^ k.toNat = P at *
           have f1 := Int.mul_ediv_add_emod (Z * P) B
           have f2 := Int.emod_nonneg (Z * P) (show B ≠ 0 by omega)
           have f3 := Int.emod_lt_of_pos (Z * P) hB
           have g1 := Int.mul_ediv_add_emod (-(Z * P)) B
           have g2 := Int.emod_nonneg (-(Z * P)) (show B ≠ 0 by omega)
           have g3 := Int.emod_lt_of_pos (-(Z * P)) hB
           generalize Z * P / B = q at *
           generalize -(Z * P) / B = p at *
           generalize Z * P % B = r1 at *
           generalize -(Z * P) % B = r2 at *
           have le : ∀ x y : Int, x * B < y * B + B → x ≤ y := fun x y h => by
            have : x * B < (y + 1) * B := by rw [Int.add_mul, Int.one_mul]; exact h
            have := Int.lt_of_mul_lt_mul_right this (Int.le_of_lt hB)
            omega
           have e3 : B * q = q * B := Int.mul_comm ..
           have e4 : B * p = p * B := Int.mul_comm ..
           have e5 : -p * B = -(p * B) := Int.neg_mul ..
           have qp : q ≤ -p := le _ _ (by omega)
           have cm : ∀ a b : Dn, a.e ≤ k.toNat → b.e ≤ k.toNat → vl a k.toNat ≤ vl b k.toNat → cmpD a b ≤ 0 := fun a b ha hb hab => by
            rcases cmp_spec a b ha hb with ⟨k1, k2⟩ | ⟨k1, k2⟩ | ⟨k1, k2⟩ <;> omega
           refine ⟨cm _ _ x1 y1 (by rw [x3, y3]; exact qp), fun h => ?_⟩
           obtain ⟨t1, t2⟩ := hlies h
           have u1 : low * B * P ≤ Z * P := Int.mul_le_mul_of_nonneg_right t1 (Int.le_of_lt hp)
           have u2 : Z * P ≤ high * B * P := Int.mul_le_mul_of_nonneg_right t2 (Int.le_of_lt hp)
           have v1 : low * P * B = low * B * P := Int.mul_right_comm ..
           have v2 : high * P * B = high * B * P := Int.mul_right_comm ..
           have v3 : -(high * P) * B = -(high * P * B) := Int.neg_mul ..
           refine ⟨cm _ _ (Nat.zero_le _) x1 ?_, cm _ _ y1 (Nat.zero_le _) ?_⟩
           · rw [l2, x3]
             exact le _ _ (by omega)
           · rw [h2', y3]
             have : -(high * P) ≤ p := le _ _ (by omega)
             omega
         · rename_i k2
           injection hm with _ h
           exact absurd h k2
       · rename_i k1
         injection hm with _ h
         exact absurd h k1
end Ma
end Go.Proofs.YtbbnbgllgomolaaDoor