/- headcountlaw06.alive: a walk (printed by a program of mine). -/
/- headcountref06.Great: a walk (printed by a program of mine). -/
/- What every statement's row asks beside its walk: arguments that read as data hold what our predicates say; behind the call they read as before. -/
/- Dyads among the arguments. -/
import Derived.Test.YtlbkepiflhchdaaDoorBn22
import Derived.Test.YtlbkepiflhchdaaDoorBn15
import Derived.Test.YtlbkepiflhchdaaDoorBn01
import Derived.ProofKit
import Derived.Test.YtlbkepiflhchdaaDoorBn02
import Derived.Lib.SmallJoins
import Derived.Deep.SlicePairs
namespace Go.Proofs.YtlbkepiflhchdaaDoor
open Go.RowKit
namespace Ma
open Dp Dy
set_option maxHeartbeats 12800000 in
set_option maxRecDepth 100000 in
theorem aliveM_any (w : World) (hT : Tab w) : Calls Tryd.prog 47 #[] w fun e w' => e = .returned (.bool true) ∧ Below w.heap.size w w' := by
  have a_ : Amid w w := ⟨Below.refl _ _, hT⟩
  obtain ⟨r, hr⟩ : ∃ r : Dn, r = ⟨false, 1, 1⟩ := ⟨_, rfl⟩
  have HR := Lib.hid hr
  clear hr
  go_enter Tryd.func47, Tryd.ntmps47
  go_wp2_with fail
  refine (MSeed_ok w 6 (by decide) (by decide) true).mono ?_
  rintro e' w_1 ⟨m, rfl, hB, hm⟩
  have lw_1 : w.heap.size ≤ w_1.heap.size := hB.size
  replace a_ := Amid.on a_ hB
  have R1 := MRows.more (rows_res hm) (Nat.zero_le _) (Nat.le_refl _)
  have M1 := Lib.hid (IsM.of_eq (S := aR) (R := seedD 6 true) (fun x hx => (hm x hx).is) (four rfl rfl rfl rfl))
  clear hm
  clear hB
  have hB := (Below.refl w_1.heap.size w_1).alloc (Nat.le_refl _) (.cells #[.bool m.S.s, .slice m.S.A m.S.n m.S.c, .int .i64 m.S.e, .bool m.W.s, .slice m.W.A m.W.n m.W.c, .int .i64 m.W.e, .bool m.C.s, .slice m.C.A m.C.n m.C.c, .int .i64 m.C.e, .bool m.A.s, .slice m.A.A m.A.n m.A.c, .int .i64 m.A.e] 39)
  have hM : MBox (w_1.alloc (.cells #[.bool m.S.s, .slice m.S.A m.S.n m.S.c, .int .i64 m.S.e, .bool m.W.s, .slice m.W.A m.W.n m.W.c, .int .i64 m.W.e, .bool m.C.s, .slice m.C.A m.C.n m.C.c, .int .i64 m.C.e, .bool m.A.s, .slice m.A.A m.A.n m.A.c, .int .i64 m.A.e] 39)) w_1.heap.size m := heap_alloc_last _ _
  have mw_2 : w_1.heap.size < (w_1.alloc (.cells #[.bool m.S.s, .slice m.S.A m.S.n m.S.c, .int .i64 m.S.e, .bool m.W.s, .slice m.W.A m.W.n m.W.c, .int .i64 m.W.e, .bool m.C.s, .slice m.C.A m.C.n m.C.c, .int .i64 m.C.e, .bool m.A.s, .slice m.A.A m.A.n m.A.c, .int .i64 m.A.e] 39)).heap.size := by simp
  generalize hww_2 : w_1.alloc (.cells #[.bool m.S.s, .slice m.S.A m.S.n m.S.c, .int .i64 m.S.e, .bool m.W.s, .slice m.W.A m.W.n m.W.c, .int .i64 m.W.e, .bool m.C.s, .slice m.C.A m.C.n m.C.c, .int .i64 m.C.e, .bool m.A.s, .slice m.A.A m.A.n m.A.c, .int .i64 m.A.e] 39) = w_2 at *
  have lw_2 : w_1.heap.size ≤ w_2.heap.size := hB.size
  replace R1 := MRows.on R1 hB
  replace a_ := Amid.on a_ hB
  clear hB
  obtain ⟨⟨q_3_0, q_3_1, q_3_2, q_3_3, q_3_4, q_3_5, q_3_6, q_3_7, q_3_8, q_3_9, q_3_10, q_3_11⟩, q_3f⟩ := MBox.cells hM
  go_wp2_with fail
  refine (ASplit w_2 m R1 a_.tab M1.out).mono ?_
  rintro e' w_4 ⟨k, s, rfl, hB, hk, hs, Rk, Rs⟩
  clear q_3_0 q_3_1 q_3_2 q_3_3 q_3_4 q_3_5 q_3_6 q_3_7 q_3_8 q_3_9 q_3_10 q_3_11 q_3f
  have lw_4 : w_2.heap.size ≤ w_4.heap.size := hB.size
  replace hM := box_on hM hB (by omega)
  replace R1 := MRows.on R1 hB
  replace a_ := Amid.on a_ hB
  clear hB
  replace hk := Lib.hid hk
  replace hs := Lib.hid hs
  generalize hww_5 : (w_4.alloc (.cells #[.bool k.S.s, .slice k.S.A k.S.n k.S.c, .int .i64 k.S.e, .bool k.W.s, .slice k.W.A k.W.n k.W.c, .int .i64 k.W.e, .bool k.C.s, .slice k.C.A k.C.n k.C.c, .int .i64 k.C.e, .bool k.A.s, .slice k.A.A k.A.n k.A.c, .int .i64 k.A.e] 39)).alloc (.cells #[.bool s.S.s, .slice s.S.A s.S.n s.S.c, .int .i64 s.S.e, .bool s.W.s, .slice s.W.A s.W.n s.W.c, .int .i64 s.W.e, .bool s.C.s, .slice s.C.A s.C.n s.C.c, .int .i64 s.C.e, .bool s.A.s, .slice s.A.A s.A.n s.A.c, .int .i64 s.A.e] 39) = w_5 at *
  obtain ⟨hMk, hMs, hB, low_5, hiw_5⟩ := boxes2 w_4 _ _ hww_5
  replace hB : Below w_4.heap.size w_4 w_5 := hB
  have lw_5 : w_4.heap.size ≤ w_5.heap.size := hB.size
  replace hM := box_on hM hB (by omega)
  replace R1 := MRows.on R1 hB
  replace Rk := MRows.on Rk hB
  replace Rs := MRows.on Rs hB
  replace a_ := Amid.on a_ hB
  replace hMk : MBox w_5 w_4.heap.size k := hMk
  replace hMs : MBox w_5 (w_4.heap.size + 1) s := hMs
  clear hB
  go_wp2_with fail
  try clear hww_5
  refine region_E (Keeps w_5) [] (m := 32) (L := #[false, false, false, false, false, false, false, false, false, false, false, false, false, false, false, false, false, false, false, false, false, false, false, false, false, false, false, false, false, false, false, false]) (by kernel_rfl) (by rfl) (by rfl) ?_
  have kp_ : Keeps w_5 w_5.drew := fun _ _ => rfl
  have hB : Below w_5.heap.size w_5 w_5.drew := (Below.refl _ _).drew
  replace R1 : MRows w_5.drew 0 w_5.drew.heap.size _ := MRows.on R1 hB
  replace Rk : MRows w_5.drew 0 w_5.drew.heap.size _ := MRows.on Rk hB
  replace Rs : MRows w_5.drew 0 w_5.drew.heap.size _ := MRows.on Rs hB
  replace a_ := Amid.on a_ hB
  have lw_6 : w_5.heap.size ≤ w_5.drew.heap.size := hB.size
  clear hB
  generalize w_5.drew = w_6 at *
  refine pureE (i := 0) (L := #[true, false, false, false, false, false, false, false, false, false, false, false, false, false, false, false, false, false, false, false, false, false, false, false, false, false, false, false, false, false, false, false]) (v := ?_) rfl (by rfl) (by kernel_rfl) (by kernel_rfl) (by kernel_rfl) (fun _ _ _ h => h) (by rfl) ?hy1 ?rest1
  case hy1 => intro w; go_simp; (try with_reducible rfl)
  try simp only [Act.put, List.setIfInBounds_toArray, List.set_cons_zero, List.set_cons_succ]
  refine pureE (i := 1) (L := #[true, true, false, false, false, false, false, false, false, false, false, false, false, false, false, false, false, false, false, false, false, false, false, false, false, false, false, false, false, false, false, false]) (v := ?_) rfl (by rfl) (by kernel_rfl) (by kernel_rfl) (by kernel_rfl) (fun _ _ _ h => h) (by rfl) ?hy2 ?rest2
  case hy2 => intro w; go_simp; (try with_reducible rfl)
  try simp only [Act.put, List.setIfInBounds_toArray, List.set_cons_zero, List.set_cons_succ]
  refine pureE (i := 2) (L := #[true, true, true, false, false, false, false, false, false, false, false, false, false, false, false, false, false, false, false, false, false, false, false, false, false, false, false, false, false, false, false, false]) (v := ?_) rfl (by rfl) (by kernel_rfl) (by kernel_rfl) (by kernel_rfl) (fun _ _ _ h => h) (by rfl) ?hy3 ?rest3
  case hy3 => intro w; go_simp; (try with_reducible rfl)
  try simp only [Act.put, List.setIfInBounds_toArray, List.set_cons_zero, List.set_cons_succ]
  refine readE (i := 3) (L := #[true, true, true, true, false, false, false, false, false, false, false, false, false, false, false, false, false, false, false, false, false, false, false, false, false, false, false, false, false, false, false, false]) (v := .agg #[.bool m.S.s, .slice m.S.A m.S.n m.S.c, .int .i64 m.S.e, .bool m.W.s, .slice m.W.A m.W.n m.W.c, .int .i64 m.W.e, .bool m.C.s, .slice m.C.A m.C.n m.C.c, .int .i64 m.C.e, .bool m.A.s, .slice m.A.A m.A.n m.A.c, .int .i64 m.A.e]) rfl (by rfl) (by kernel_rfl) (by kernel_rfl) (by kernel_rfl) (fun _ _ _ h => h) (by assumption) (by rfl) ?yr_7 ?zr_7
  case yr_7 =>
    intro w' h1
    obtain ⟨⟨k0, k1, k2, k3, k4, k5, k6, k7, k8, k9, k10, k11⟩, kf⟩ := MBox.cells ((h1 _ (by omega)).trans hM)
    go_simp
  try simp only [Act.put, List.setIfInBounds_toArray, List.set_cons_zero, List.set_cons_succ]
  refine stepK (i := 4) (L := #[true, true, true, true, true, false, false, false, false, false, false, false, false, false, false, false, false, false, false, false, false, false, false, false, false, false, false, false, false, false, false, false]) rfl (by rfl) (by kernel_rfl) (by rfl) (fun K hK => ?_)
  go_simp
  go_at_call 38
  refine (Of_any w_6 6 (by decide) (by decide) false 6 rfl rfl).mono ?_
  rintro e' w_8 ⟨Aa, na, rfl, hB, hI⟩
  replace kp_ := Keeps.on kp_ (by omega) hB
  have lw_8 : w_6.heap.size ≤ w_8.heap.size := hB.size
  replace R1 := MRows.on R1 hB
  replace Rk := MRows.on Rk hB
  replace Rs := MRows.on Rs hB
  replace a_ := Amid.on a_ hB
  have ia := ints_all hI
  clear hI
  clear hB
  refine hK _ _ ⟨fun _ _ => kp_, ?_⟩
  clear hK K
  try simp only [Act.put, List.setIfInBounds_toArray, List.set_cons_zero, List.set_cons_succ]
  refine stepK (i := 5) (L := #[true, true, true, true, true, true, false, false, false, false, false, false, false, false, false, false, false, false, false, false, false, false, false, false, false, false, false, false, false, false, false, false]) rfl (by rfl) (by kernel_rfl) (by rfl) (fun K hK => ?_)
  go_simp
  go_at_call 38
  refine (Of_any w_8 1 (by decide) (by decide) false 1 rfl rfl).mono ?_
  rintro e' w_9 ⟨Ab, nb, rfl, hB, hI⟩
  replace kp_ := Keeps.on kp_ (by omega) hB
  have lw_9 : w_8.heap.size ≤ w_9.heap.size := hB.size
  replace R1 := MRows.on R1 hB
  replace Rk := MRows.on Rk hB
  replace Rs := MRows.on Rs hB
  replace ia := ints_on ia hB
  replace a_ := Amid.on a_ hB
  have ib := ints_all hI
  clear hI
  clear hB
  refine hK _ _ ⟨fun _ _ => kp_, ?_⟩
  clear hK K
  try simp only [Act.put, List.setIfInBounds_toArray, List.set_cons_zero, List.set_cons_succ]
  refine stepK (i := 6) (L := #[true, true, true, true, true, true, true, false, false, false, false, false, false, false, false, false, false, false, false, false, false, false, false, false, false, false, false, false, false, false, false, false]) rfl (by rfl) (by kernel_rfl) (by rfl) (fun K hK => ?_)
  go_simp
  go_at_call 38
  refine (Of_any w_9 1 (by decide) (by decide) false 1 rfl rfl).mono ?_
  rintro e' w_10 ⟨Ac, nc, rfl, hB, hI⟩
  replace kp_ := Keeps.on kp_ (by omega) hB
  have lw_10 : w_9.heap.size ≤ w_10.heap.size := hB.size
  replace R1 := MRows.on R1 hB
  replace Rk := MRows.on Rk hB
  replace Rs := MRows.on Rs hB
  replace ia := ints_on ia hB
  replace ib := ints_on ib hB
  replace a_ := Amid.on a_ hB
  have ic := ints_all hI
  clear hI
  clear hB
  refine hK _ _ ⟨fun _ _ => kp_, ?_⟩
  clear hK K
  try simp only [Act.put, List.setIfInBounds_toArray, List.set_cons_zero, List.set_cons_succ]
  refine stepK (i := 7) (L := #[true, true, true, true, true, true, true, true, false, false, false, false, false, false, false, false, false, false, false, false, false, false, false, false, false, false, false, false, false, false, false, false]) rfl (by rfl) (by kernel_rfl) (by rfl) (fun K hK => ?_)
  go_simp
  go_at_call 38
  refine (Of_any w_10 6 (by decide) (by decide) false 6 rfl rfl).mono ?_
  rintro e' w_11 ⟨Ad, nd, rfl, hB, hI⟩
  replace kp_ := Keeps.on kp_ (by omega) hB
  have lw_11 : w_10.heap.size ≤ w_11.heap.size := hB.size
  replace R1 := MRows.on R1 hB
  replace Rk := MRows.on Rk hB
  replace Rs := MRows.on Rs hB
  replace ia := ints_on ia hB
  replace ib := ints_on ib hB
  replace ic := ints_on ic hB
  replace a_ := Amid.on a_ hB
  have id := ints_all hI
  clear hI
  clear hB
  refine hK _ _ ⟨fun _ _ => kp_, ?_⟩
  clear hK K
  try simp only [Act.put, List.setIfInBounds_toArray, List.set_cons_zero, List.set_cons_succ]
  refine pureE (i := 8) (L := #[true, true, true, true, true, true, true, true, true, false, false, false, false, false, false, false, false, false, false, false, false, false, false, false, false, false, false, false, false, false, false, false]) (v := ?_) rfl (by rfl) (by kernel_rfl) (by kernel_rfl) (by kernel_rfl) (fun _ _ _ h => h) (by rfl) ?hy9 ?rest9
  case hy9 => intro w; go_simp; (try with_reducible rfl)
  try simp only [Act.put, List.setIfInBounds_toArray, List.set_cons_zero, List.set_cons_succ]
  refine stepK (i := 9) (L := #[true, true, true, true, true, true, true, true, true, true, false, false, false, false, false, false, false, false, false, false, false, false, false, false, false, false, false, false, false, false, false, false]) rfl (by rfl) (by kernel_rfl) (by rfl) (fun K hK => ?_)
  go_simp
  go_at_call 50
  refine (MSame_any w_11 m ⟨⟨false, Aa, na, na, 0, canon 4294967296 6⟩, ⟨false, Ab, nb, nb, 0, canon 4294967296 1⟩, ⟨false, Ac, nc, nc, 0, canon 4294967296 1⟩, ⟨false, Ad, nd, nd, 0, canon 4294967296 6⟩⟩ R1 ⟨ia, ib, ic, id⟩ true (M1.out.same (four ⟨rfl, rfl, rfl⟩ ⟨rfl, rfl, rfl⟩ ⟨rfl, rfl, rfl⟩ ⟨rfl, rfl, rfl⟩))).mono ?_
  rintro e' w_12 ⟨rfl, hB⟩
  replace kp_ := Keeps.on kp_ (by omega) hB
  have lw_12 : w_11.heap.size ≤ w_12.heap.size := hB.size
  replace R1 := MRows.on R1 hB
  replace Rk := MRows.on Rk hB
  replace Rs := MRows.on Rs hB
  replace ia := ints_on ia hB
  replace ib := ints_on ib hB
  replace ic := ints_on ic hB
  replace id := ints_on id hB
  replace a_ := Amid.on a_ hB
  clear hB
  refine hK _ _ ⟨fun _ _ => kp_, ?_⟩
  clear hK K
  try simp only [Act.put, List.setIfInBounds_toArray, List.set_cons_zero, List.set_cons_succ]
  refine pureE (i := 10) (L := #[true, true, true, true, true, true, true, true, true, true, true, false, false, false, false, false, false, false, false, false, false, false, false, false, false, false, false, false, false, false, false, false]) (v := ?_) rfl (by rfl) (by kernel_rfl) (by kernel_rfl) (by kernel_rfl) (fun _ _ _ h => h) (by rfl) ?hy11 ?rest11
  case hy11 => intro w; go_simp; (try with_reducible rfl)
  try simp only [Act.put, List.setIfInBounds_toArray, List.set_cons_zero, List.set_cons_succ]
  refine pureE (i := 11) (L := #[true, true, true, true, true, true, true, true, true, true, true, true, false, false, false, false, false, false, false, false, false, false, false, false, false, false, false, false, false, false, false, false]) (v := ?_) rfl (by rfl) (by kernel_rfl) (by kernel_rfl) (by kernel_rfl) (fun _ _ _ h => h) (by rfl) ?hy12 ?rest12
  case hy12 => intro w; go_simp; (try with_reducible rfl)
  try simp only [Act.put, List.setIfInBounds_toArray, List.set_cons_zero, List.set_cons_succ]
  refine pureE (i := 12) (L := #[true, true, true, true, true, true, true, true, true, true, true, true, true, false, false, false, false, false, false, false, false, false, false, false, false, false, false, false, false, false, false, false]) (v := ?_) rfl (by rfl) (by kernel_rfl) (by kernel_rfl) (by kernel_rfl) (fun _ _ _ h => h) (by rfl) ?hy13 ?rest13
  case hy13 => intro w; go_simp; (try with_reducible rfl)
  try simp only [Act.put, List.setIfInBounds_toArray, List.set_cons_zero, List.set_cons_succ]
  refine pureE (i := 13) (L := #[true, true, true, true, true, true, true, true, true, true, true, true, true, true, false, false, false, false, false, false, false, false, false, false, false, false, false, false, false, false, false, false]) (v := ?_) rfl (by rfl) (by kernel_rfl) (by kernel_rfl) (by kernel_rfl) (fun _ _ _ h => h) (by rfl) ?hy14 ?rest14
  case hy14 => intro w; go_simp; (try with_reducible rfl)
  try simp only [Act.put, List.setIfInBounds_toArray, List.set_cons_zero, List.set_cons_succ]
  refine pureE (i := 14) (L := #[true, true, true, true, true, true, true, true, true, true, true, true, true, true, true, false, false, false, false, false, false, false, false, false, false, false, false, false, false, false, false, false]) (v := ?_) rfl (by rfl) (by kernel_rfl) (by kernel_rfl) (by kernel_rfl) (fun _ _ _ h => h) (by rfl) ?hy15 ?rest15
  case hy15 => intro w; go_simp; (try with_reducible rfl)
  try simp only [Act.put, List.setIfInBounds_toArray, List.set_cons_zero, List.set_cons_succ]
  refine pureE (i := 15) (L := #[true, true, true, true, true, true, true, true, true, true, true, true, true, true, true, true, false, false, false, false, false, false, false, false, false, false, false, false, false, false, false, false]) (v := ?_) rfl (by rfl) (by kernel_rfl) (by kernel_rfl) (by kernel_rfl) (fun _ _ _ h => h) (by rfl) ?hy16 ?rest16
  case hy16 => intro w; go_simp; (try with_reducible rfl)
  try simp only [Act.put, List.setIfInBounds_toArray, List.set_cons_zero, List.set_cons_succ]
  refine readE (i := 16) (L := #[true, true, true, true, true, true, true, true, true, true, true, true, true, true, true, true, true, false, false, false, false, false, false, false, false, false, false, false, false, false, false, false]) (v := .agg #[.bool k.S.s, .slice k.S.A k.S.n k.S.c, .int .i64 k.S.e, .bool k.W.s, .slice k.W.A k.W.n k.W.c, .int .i64 k.W.e, .bool k.C.s, .slice k.C.A k.C.n k.C.c, .int .i64 k.C.e, .bool k.A.s, .slice k.A.A k.A.n k.A.c, .int .i64 k.A.e]) rfl (by rfl) (by kernel_rfl) (by kernel_rfl) (by kernel_rfl) (fun _ _ _ h => h) (by assumption) (by rfl) ?yr_13 ?zr_13
  case yr_13 =>
    intro w' h1
    obtain ⟨⟨k0, k1, k2, k3, k4, k5, k6, k7, k8, k9, k10, k11⟩, kf⟩ := MBox.cells ((h1 _ (by omega)).trans hMk)
    go_simp
  try simp only [Act.put, List.setIfInBounds_toArray, List.set_cons_zero, List.set_cons_succ]
  refine stepK (i := 17) (L := #[true, true, true, true, true, true, true, true, true, true, true, true, true, true, true, true, true, true, false, false, false, false, false, false, false, false, false, false, false, false, false, false]) rfl (by rfl) (by kernel_rfl) (by rfl) (fun K hK => ?_)
  go_simp
  go_at_call 38
  refine (Of_any w_12 3 (by decide) (by decide) false 3 rfl rfl).mono ?_
  rintro e' w_14 ⟨Ae, ne, rfl, hB, hI⟩
  replace kp_ := Keeps.on kp_ (by omega) hB
  have lw_14 : w_12.heap.size ≤ w_14.heap.size := hB.size
  replace R1 := MRows.on R1 hB
  replace Rk := MRows.on Rk hB
  replace Rs := MRows.on Rs hB
  replace ia := ints_on ia hB
  replace ib := ints_on ib hB
  replace ic := ints_on ic hB
  replace id := ints_on id hB
  replace a_ := Amid.on a_ hB
  have ie := ints_all hI
  clear hI
  clear hB
  refine hK _ _ ⟨fun _ _ => kp_, ?_⟩
  clear hK K
  try simp only [Act.put, List.setIfInBounds_toArray, List.set_cons_zero, List.set_cons_succ]
  refine stepK (i := 18) (L := #[true, true, true, true, true, true, true, true, true, true, true, true, true, true, true, true, true, true, true, false, false, false, false, false, false, false, false, false, false, false, false, false]) rfl (by rfl) (by kernel_rfl) (by rfl) (fun K hK => ?_)
  go_simp
  go_at_call 82
  refine (half_any w_14 a_.tab r HR.out).mono ?_
  rintro e' w_15 ⟨Af, nf, cf, rfl, hB, hI⟩
  replace kp_ := Keeps.on kp_ (by omega) hB
  have lw_15 : w_14.heap.size ≤ w_15.heap.size := hB.size
  replace R1 := MRows.on R1 hB
  replace Rk := MRows.on Rk hB
  replace Rs := MRows.on Rs hB
  replace ia := ints_on ia hB
  replace ib := ints_on ib hB
  replace ic := ints_on ic hB
  replace id := ints_on id hB
  replace ie := ints_on ie hB
  replace a_ := Amid.on a_ hB
  have if_ := ints_all hI
  clear hI
  clear hB
  refine hK _ _ ⟨fun _ _ => kp_, ?_⟩
  clear hK K
  try simp only [Act.put, List.setIfInBounds_toArray, List.set_cons_zero, List.set_cons_succ]
  refine stepK (i := 19) (L := #[true, true, true, true, true, true, true, true, true, true, true, true, true, true, true, true, true, true, true, true, false, false, false, false, false, false, false, false, false, false, false, false]) rfl (by rfl) (by kernel_rfl) (by rfl) (fun K hK => ?_)
  go_simp
  go_at_call 38
  refine (Of_any w_15 1 (by decide) (by decide) false 1 rfl rfl).mono ?_
  rintro e' w_16 ⟨Ag, ng, rfl, hB, hI⟩
  replace kp_ := Keeps.on kp_ (by omega) hB
  have lw_16 : w_15.heap.size ≤ w_16.heap.size := hB.size
  replace R1 := MRows.on R1 hB
  replace Rk := MRows.on Rk hB
  replace Rs := MRows.on Rs hB
  replace ia := ints_on ia hB
  replace ib := ints_on ib hB
  replace ic := ints_on ic hB
  replace id := ints_on id hB
  replace ie := ints_on ie hB
  replace if_ := ints_on if_ hB
  replace a_ := Amid.on a_ hB
  have ig := ints_all hI
  clear hI
  clear hB
  refine hK _ _ ⟨fun _ _ => kp_, ?_⟩
  clear hK K
  try simp only [Act.put, List.setIfInBounds_toArray, List.set_cons_zero, List.set_cons_succ]
  refine stepK (i := 20) (L := #[true, true, true, true, true, true, true, true, true, true, true, true, true, true, true, true, true, true, true, true, true, false, false, false, false, false, false, false, false, false, false, false]) rfl (by rfl) (by kernel_rfl) (by rfl) (fun K hK => ?_)
  go_simp
  go_at_call 38
  refine (Of_any w_16 6 (by decide) (by decide) false 6 rfl rfl).mono ?_
  rintro e' w_17 ⟨Ah, nh, rfl, hB, hI⟩
  replace kp_ := Keeps.on kp_ (by omega) hB
  have lw_17 : w_16.heap.size ≤ w_17.heap.size := hB.size
  replace R1 := MRows.on R1 hB
  replace Rk := MRows.on Rk hB
  replace Rs := MRows.on Rs hB
  replace ia := ints_on ia hB
  replace ib := ints_on ib hB
  replace ic := ints_on ic hB
  replace id := ints_on id hB
  replace ie := ints_on ie hB
  replace if_ := ints_on if_ hB
  replace ig := ints_on ig hB
  replace a_ := Amid.on a_ hB
  have ih := ints_all hI
  clear hI
  clear hB
  refine hK _ _ ⟨fun _ _ => kp_, ?_⟩
  clear hK K
  try simp only [Act.put, List.setIfInBounds_toArray, List.set_cons_zero, List.set_cons_succ]
  refine pureE (i := 21) (L := #[true, true, true, true, true, true, true, true, true, true, true, true, true, true, true, true, true, true, true, true, true, true, false, false, false, false, false, false, false, false, false, false]) (v := ?_) rfl (by rfl) (by kernel_rfl) (by kernel_rfl) (by kernel_rfl) (fun _ _ _ h => h) (by rfl) ?hy22 ?rest22
  case hy22 => intro w; go_simp; (try with_reducible rfl)
  try simp only [Act.put, List.setIfInBounds_toArray, List.set_cons_zero, List.set_cons_succ]
  refine stepK (i := 22) (L := #[true, true, true, true, true, true, true, true, true, true, true, true, true, true, true, true, true, true, true, true, true, true, true, false, false, false, false, false, false, false, false, false]) rfl (by rfl) (by kernel_rfl) (by rfl) (fun K hK => ?_)
  go_simp
  go_at_call 50
  refine (MSame_any w_17 k ⟨⟨false, Ae, ne, ne, 0, canon 4294967296 3⟩, ⟨r.neg, Af, nf, cf, r.e, canon 4294967296 r.m⟩, ⟨false, Ag, ng, ng, 0, canon 4294967296 1⟩, ⟨false, Ah, nh, nh, 0, canon 4294967296 6⟩⟩ Rk ⟨ie, if_, ig, ih⟩ true (hk.out.same (four ⟨rfl, rfl, rfl⟩ (by show Is ⟨false, 1, 1⟩ _; rw [← HR.out]; exact ⟨rfl, rfl, rfl⟩) ⟨rfl, rfl, rfl⟩ ⟨rfl, rfl, rfl⟩))).mono ?_
  rintro e' w_18 ⟨rfl, hB⟩
  replace kp_ := Keeps.on kp_ (by omega) hB
  have lw_18 : w_17.heap.size ≤ w_18.heap.size := hB.size
  replace R1 := MRows.on R1 hB
  replace Rk := MRows.on Rk hB
  replace Rs := MRows.on Rs hB
  replace ia := ints_on ia hB
  replace ib := ints_on ib hB
  replace ic := ints_on ic hB
  replace id := ints_on id hB
  replace ie := ints_on ie hB
  replace if_ := ints_on if_ hB
  replace ig := ints_on ig hB
  replace ih := ints_on ih hB
  replace a_ := Amid.on a_ hB
  clear hB
  refine hK _ _ ⟨fun _ _ => kp_, ?_⟩
  clear hK K
  try simp only [Act.put, List.setIfInBounds_toArray, List.set_cons_zero, List.set_cons_succ]
  refine pureE (i := 23) (L := #[true, true, true, true, true, true, true, true, true, true, true, true, true, true, true, true, true, true, true, true, true, true, true, true, false, false, false, false, false, false, false, false]) (v := ?_) rfl (by rfl) (by kernel_rfl) (by kernel_rfl) (by kernel_rfl) (fun _ _ _ h => h) (by rfl) ?hy24 ?rest24
  case hy24 => intro w; go_simp; (try with_reducible rfl)
  try simp only [Act.put, List.setIfInBounds_toArray, List.set_cons_zero, List.set_cons_succ]
  refine pureE (i := 24) (L := #[true, true, true, true, true, true, true, true, true, true, true, true, true, true, true, true, true, true, true, true, true, true, true, true, true, false, false, false, false, false, false, false]) (v := ?_) rfl (by rfl) (by kernel_rfl) (by kernel_rfl) (by kernel_rfl) (fun _ _ _ h => h) (by rfl) ?hy25 ?rest25
  case hy25 => intro w; go_simp; (try with_reducible rfl)
  try simp only [Act.put, List.setIfInBounds_toArray, List.set_cons_zero, List.set_cons_succ]
  refine readE (i := 25) (L := #[true, true, true, true, true, true, true, true, true, true, true, true, true, true, true, true, true, true, true, true, true, true, true, true, true, true, false, false, false, false, false, false]) (v := .agg #[.bool s.S.s, .slice s.S.A s.S.n s.S.c, .int .i64 s.S.e, .bool s.W.s, .slice s.W.A s.W.n s.W.c, .int .i64 s.W.e, .bool s.C.s, .slice s.C.A s.C.n s.C.c, .int .i64 s.C.e, .bool s.A.s, .slice s.A.A s.A.n s.A.c, .int .i64 s.A.e]) rfl (by rfl) (by kernel_rfl) (by kernel_rfl) (by kernel_rfl) (fun _ _ _ h => h) (by assumption) (by rfl) ?yr_19 ?zr_19
  case yr_19 =>
    intro w' h1
    obtain ⟨⟨k0, k1, k2, k3, k4, k5, k6, k7, k8, k9, k10, k11⟩, kf⟩ := MBox.cells ((h1 _ (by omega)).trans hMs)
    go_simp
  try simp only [Act.put, List.setIfInBounds_toArray, List.set_cons_zero, List.set_cons_succ]
  refine stepK (i := 26) (L := #[true, true, true, true, true, true, true, true, true, true, true, true, true, true, true, true, true, true, true, true, true, true, true, true, true, true, true, false, false, false, false, false]) rfl (by rfl) (by kernel_rfl) (by rfl) (fun K hK => ?_)
  go_simp
  go_at_call 38
  refine (Of_any w_18 3 (by decide) (by decide) false 3 rfl rfl).mono ?_
  rintro e' w_20 ⟨Aj, nj, rfl, hB, hI⟩
  replace kp_ := Keeps.on kp_ (by omega) hB
  have lw_20 : w_18.heap.size ≤ w_20.heap.size := hB.size
  replace R1 := MRows.on R1 hB
  replace Rk := MRows.on Rk hB
  replace Rs := MRows.on Rs hB
  replace ia := ints_on ia hB
  replace ib := ints_on ib hB
  replace ic := ints_on ic hB
  replace id := ints_on id hB
  replace ie := ints_on ie hB
  replace if_ := ints_on if_ hB
  replace ig := ints_on ig hB
  replace ih := ints_on ih hB
  replace a_ := Amid.on a_ hB
  have ij := ints_all hI
  clear hI
  clear hB
  refine hK _ _ ⟨fun _ _ => kp_, ?_⟩
  clear hK K
  try simp only [Act.put, List.setIfInBounds_toArray, List.set_cons_zero, List.set_cons_succ]
  refine stepK (i := 27) (L := #[true, true, true, true, true, true, true, true, true, true, true, true, true, true, true, true, true, true, true, true, true, true, true, true, true, true, true, true, false, false, false, false]) rfl (by rfl) (by kernel_rfl) (by rfl) (fun K hK => ?_)
  go_simp
  go_at_call 82
  refine (half_any w_20 a_.tab r HR.out).mono ?_
  rintro e' w_21 ⟨Al, nl, cl, rfl, hB, hI⟩
  replace kp_ := Keeps.on kp_ (by omega) hB
  have lw_21 : w_20.heap.size ≤ w_21.heap.size := hB.size
  replace R1 := MRows.on R1 hB
  replace Rk := MRows.on Rk hB
  replace Rs := MRows.on Rs hB
  replace ia := ints_on ia hB
  replace ib := ints_on ib hB
  replace ic := ints_on ic hB
  replace id := ints_on id hB
  replace ie := ints_on ie hB
  replace if_ := ints_on if_ hB
  replace ig := ints_on ig hB
  replace ih := ints_on ih hB
  replace ij := ints_on ij hB
  replace a_ := Amid.on a_ hB
  have il := ints_all hI
  clear hI
  clear hB
  refine hK _ _ ⟨fun _ _ => kp_, ?_⟩
  clear hK K
  try simp only [Act.put, List.setIfInBounds_toArray, List.set_cons_zero, List.set_cons_succ]
  refine pureE (i := 28) (L := #[true, true, true, true, true, true, true, true, true, true, true, true, true, true, true, true, true, true, true, true, true, true, true, true, true, true, true, true, true, false, false, false]) (v := ?_) rfl (by rfl) (by kernel_rfl) (by kernel_rfl) (by kernel_rfl) (fun _ _ _ h => h) (by rfl) ?hy29 ?rest29
  case hy29 => intro w; go_simp; (try with_reducible rfl)
  try simp only [Act.put, List.setIfInBounds_toArray, List.set_cons_zero, List.set_cons_succ]
  refine stepK (i := 29) (L := #[true, true, true, true, true, true, true, true, true, true, true, true, true, true, true, true, true, true, true, true, true, true, true, true, true, true, true, true, true, true, false, false]) rfl (by rfl) (by kernel_rfl) (by rfl) (fun K hK => ?_)
  go_simp
  go_at_call 50
  refine (MSame_any w_21 s ⟨⟨false, Aj, nj, nj, 0, canon 4294967296 3⟩, ⟨r.neg, Al, nl, cl, r.e, canon 4294967296 r.m⟩, ⟨false, none, 0, 0, 0, []⟩, ⟨false, none, 0, 0, 0, []⟩⟩ Rs ⟨ij, il, (Ints.nil_ ..), (Ints.nil_ ..)⟩ true (hs.out.same (four ⟨rfl, rfl, rfl⟩ (by show Is ⟨false, 1, 1⟩ _; rw [← HR.out]; exact ⟨rfl, rfl, rfl⟩) ⟨rfl, rfl, rfl⟩ ⟨rfl, rfl, rfl⟩))).mono ?_
  rintro e' w_22 ⟨rfl, hB⟩
  replace kp_ := Keeps.on kp_ (by omega) hB
  have lw_22 : w_21.heap.size ≤ w_22.heap.size := hB.size
  replace R1 := MRows.on R1 hB
  replace Rk := MRows.on Rk hB
  replace Rs := MRows.on Rs hB
  replace ia := ints_on ia hB
  replace ib := ints_on ib hB
  replace ic := ints_on ic hB
  replace id := ints_on id hB
  replace ie := ints_on ie hB
  replace if_ := ints_on if_ hB
  replace ig := ints_on ig hB
  replace ih := ints_on ih hB
  replace ij := ints_on ij hB
  replace il := ints_on il hB
  replace a_ := Amid.on a_ hB
  clear hB
  refine hK _ _ ⟨fun _ _ => kp_, ?_⟩
  clear hK K
  try simp only [Act.put, List.setIfInBounds_toArray, List.set_cons_zero, List.set_cons_succ]
  refine pureE (i := 30) (L := #[true, true, true, true, true, true, true, true, true, true, true, true, true, true, true, true, true, true, true, true, true, true, true, true, true, true, true, true, true, true, true, false]) (v := ?_) rfl (by rfl) (by kernel_rfl) (by kernel_rfl) (by kernel_rfl) (fun _ _ _ h => h) (by rfl) ?hy31 ?rest31
  case hy31 => intro w; go_simp; (try with_reducible rfl)
  try simp only [Act.put, List.setIfInBounds_toArray, List.set_cons_zero, List.set_cons_succ]
  refine pureE (i := 31) (L := #[true, true, true, true, true, true, true, true, true, true, true, true, true, true, true, true, true, true, true, true, true, true, true, true, true, true, true, true, true, true, true, true]) (v := ?_) rfl (by rfl) (by kernel_rfl) (by kernel_rfl) (by kernel_rfl) (fun _ _ _ h => h) (by rfl) ?hy32 ?rest32
  case hy32 => intro w; go_simp; (try with_reducible rfl)
  try simp only [Act.put, List.setIfInBounds_toArray, List.set_cons_zero, List.set_cons_succ]
  refine doneE (by kernel_rfl) ?_ _
  go_wp2
  go_ret
  exact ⟨rfl, a_.below⟩
end Ma
end Go.Proofs.YtlbkepiflhchdaaDoor

namespace Go.Proofs.YtlbkepiflhchdaaDoor
open Go.RowKit
namespace Ma
open Dp Dy
def Dv.great (d : Dv) : Bool := Pa.Dy.great ⟨d.s, d.xs, d.e⟩
def greatM (m : Mv) : Bool := m.S.great || m.W.great || m.C.great || m.A.great
theorem great_not {m : Mv} (h : greatM m = false) : ∀ x, x < 4 → (m.get x).xs.length ≤ 42 ∧ (m.get x).e ≤ 1100 := by
  have hd : ∀ d : Dv, d.great = false → d.xs.length ≤ 42 ∧ d.e ≤ 1100 := fun d h => by
    simp [Dv.great, Pa.Dy.great] at h
    omega
  unfold greatM at h
  simp only [Bool.or_eq_false_iff] at h
  exact four (hd _ h.1.1.1) (hd _ h.1.1.2) (hd _ h.1.2) (hd _ h.2)
set_option maxHeartbeats 6400000 in
set_option maxRecDepth 100000 in
theorem RGreat_any (w : World) (m : Mv) {lo hi : Nat} (hRm : MRows w lo hi m) (k : Bool) (hk : greatM m = k) :
    Calls Tryd.prog 28 #[.agg #[.bool m.S.s, .slice m.S.A m.S.n m.S.c, .int .i64 m.S.e, .bool m.W.s, .slice m.W.A m.W.n m.W.c, .int .i64 m.W.e, .bool m.C.s, .slice m.C.A m.C.n m.C.c, .int .i64 m.C.e, .bool m.A.s, .slice m.A.A m.A.n m.A.c, .int .i64 m.A.e]] w fun e w' => e = .returned (.bool k) ∧ Below w.heap.size w w' := by
  have L0 := Lib.hid (hRm.get 0).len
  have L1 := Lib.hid (hRm.get 1).len
  have L2 := Lib.hid (hRm.get 2).len
  have L3 := Lib.hid (hRm.get 3).len
  unfold greatM at hk
  obtain ⟨g0, h0⟩ : ∃ g, m.S.great = g := ⟨_, rfl⟩
  obtain ⟨g1, h1⟩ : ∃ g, m.W.great = g := ⟨_, rfl⟩
  obtain ⟨g2, h2⟩ : ∃ g, m.C.great = g := ⟨_, rfl⟩
  obtain ⟨g3, h3⟩ : ∃ g, m.A.great = g := ⟨_, rfl⟩
  rw [h0, h1, h2, h3] at hk
  have HK := Lib.hid hk
  have H0 := Lib.hid h0
  have H1 := Lib.hid h1
  have H2 := Lib.hid h2
  have H3 := Lib.hid h3
  clear hk h0 h1 h2 h3
  generalize hw : w.alloc (.cells #[.bool m.S.s, .slice m.S.A m.S.n m.S.c, .int .i64 m.S.e, .bool m.W.s, .slice m.W.A m.W.n m.W.c, .int .i64 m.W.e, .bool m.C.s, .slice m.C.A m.C.n m.C.c, .int .i64 m.C.e, .bool m.A.s, .slice m.A.A m.A.n m.A.c, .int .i64 m.A.e] 39) = w1
  have hM1 : MBox w1 w.heap.size m := by rw [← hw]; exact heap_alloc_last _ _
  have hb : Below w.heap.size w w1 := by rw [← hw]; exact (Below.refl _ w).alloc (Nat.le_refl _) _
  have hlo : w.heap.size + 1 ≤ w1.heap.size := by rw [← hw]; simp
  obtain ⟨⟨k0, k1, k2, k3, k4, k5, k6, k7, k8, k9, k10, k11⟩, kf⟩ := MBox.cells hM1
  go_enter Tryd.func28, Tryd.ntmps28
  go_wp2_with fail
  try clear hw
  refine (Pa.rGreat_any w1 m.S.s m.S.A m.S.n m.S.c m.S.xs m.S.e L0.out g0 H0.out).mono ?_
  rintro e w2 ⟨rfl, hB⟩
  clear k0 k1 k2 k3 k4 k5 k6 k7 k8 k9 k10 k11 kf
  have l2 := hB.size
  replace hM1 : MBox w2 w.heap.size m := box_on hM1 hB (by omega)
  replace hb := hb.trans (hB.mono (by omega))
  clear hB
  cases g0
  rotate_left
  · go_wp2
    go_ret
    exact ⟨by rw [← HK.out]; simp, hb⟩
  · skip
    obtain ⟨⟨k0, k1, k2, k3, k4, k5, k6, k7, k8, k9, k10, k11⟩, kf⟩ := MBox.cells hM1
    go_wp2_with fail
    refine (Pa.rGreat_any w2 m.W.s m.W.A m.W.n m.W.c m.W.xs m.W.e L1.out g1 H1.out).mono ?_
    rintro e w3 ⟨rfl, hB⟩
    clear k0 k1 k2 k3 k4 k5 k6 k7 k8 k9 k10 k11 kf
    have l3 := hB.size
    replace hM1 : MBox w3 w.heap.size m := box_on hM1 hB (by omega)
    replace hb := hb.trans (hB.mono (by omega))
    clear hB
    cases g1
    rotate_left
    · go_wp2
      go_ret
      exact ⟨by rw [← HK.out]; simp, hb⟩
    · skip
      obtain ⟨⟨k0, k1, k2, k3, k4, k5, k6, k7, k8, k9, k10, k11⟩, kf⟩ := MBox.cells hM1
      go_wp2_with fail
      refine (Pa.rGreat_any w3 m.C.s m.C.A m.C.n m.C.c m.C.xs m.C.e L2.out g2 H2.out).mono ?_
      rintro e w4 ⟨rfl, hB⟩
      clear k0 k1 k2 k3 k4 k5 k6 k7 k8 k9 k10 k11 kf
      have l4 := hB.size
      replace hM1 : MBox w4 w.heap.size m := box_on hM1 hB (by omega)
      replace hb := hb.trans (hB.mono (by omega))
      clear hB
      cases g2
      rotate_left
      · go_wp2
        go_ret
        exact ⟨by rw [← HK.out]; simp, hb⟩
      · skip
        obtain ⟨⟨k0, k1, k2, k3, k4, k5, k6, k7, k8, k9, k10, k11⟩, kf⟩ := MBox.cells hM1
        go_wp2_with fail
        refine (Pa.rGreat_any w4 m.A.s m.A.A m.A.n m.A.c m.A.xs m.A.e L3.out g3 H3.out).mono ?_
        rintro e w5 ⟨rfl, hB⟩
        clear k0 k1 k2 k3 k4 k5 k6 k7 k8 k9 k10 k11 kf
        have l5 := hB.size
        replace hM1 : MBox w5 w.heap.size m := box_on hM1 hB (by omega)
        replace hb := hb.trans (hB.mono (by omega))
        clear hB
        go_wp2
        go_ret
        exact ⟨by rw [← HK.out]; simp, hb⟩
end Ma
end Go.Proofs.YtlbkepiflhchdaaDoor

namespace Go.Proofs.YtlbkepiflhchdaaDoor
open Go.ChangeShapes Go.WideShapes Go.ChangeAt Go.RowKit

section
variable {H : Type} {enc : TypeId × Value → H} {P : Program} {W W' : World}

theorem trodAll_below (hl : laidOutB P = true) (hb : Below W.heap.size W W') : ∀ (ts : List TypeId) (vs : List Value) (ds : List (DataW H)) (ps : List MemPlace),
    DataW.TrodAll enc P W 0 (fun _ => true) true ts vs ds ps → (∀ t ∈ ts, P.readableRec t = true ∧ t < P.types.size) → (∀ x ∈ ps, x.block < W.heap.size) →
    DataW.TrodAll enc P W' 0 (fun b => decide (b < W.heap.size)) true ts vs ds ps
  | [], vs, ds, ps, h, _, _ => by
    obtain ⟨rfl, rfl, rfl⟩ := trodAll_nil h
    exact rfl
  | t :: ts, vs, ds, ps, h, hr, hlt => by
    obtain ⟨v, vs', d, ds', p, q, rfl, rfl, rfl, h1, h2⟩ := trodAll_cons h
    obtain ⟨r1, r2⟩ := hr t (List.mem_cons_self ..)
    exact ⟨p, q, Below.trod hl r1 r2 h1 hb fun x hx => hlt x (List.mem_append_left _ hx), trodAll_below hl hb ts vs' ds' q h2 (fun t ht => hr t (List.mem_cons_of_mem _ ht)) fun x hx => hlt x (List.mem_append_right _ hx), rfl⟩

/-- A law that answers true and leaves what was there as it was. -/
theorem law_post {f : Func} {s : ChangeSpec} {args : Array Value} {ds gs : List (DataW H)} {before : List MemPlace} (hW : DataW.Whole enc P f.params.toList s.vars false W args.toList ds gs before)
    (hv : s.vars = []) (hl : laidOutB P = true) (hr : f.params.toList.all (fun t => P.readableRec t && decide (t < P.types.size)) = true) {tb : TypeId} (hres : f.resultTypes = #[tb]) (htb : P.underlying tb = some .bool)
    (h1 : (s.fn H (ds ++ gs)).results = [.lit (.bool true)]) (h2 : (s.fn H (ds ++ gs)).args = ds) (h3 : (s.fn H (ds ++ gs)).vars = []) (hb : Below W.heap.size W W') : s.post enc P f false true false false W args (.bool true) W' := by
  have hW' := hW
  obtain ⟨p, q, hA, hV, rfl, hfz, hnd⟩ := hW
  have hr' : ∀ t ∈ f.params.toList, P.readableRec t = true ∧ t < P.types.size := fun t ht => by
    have := List.all_eq_true.1 hr t ht
    simpa using this
  refine ⟨ds, gs, _, [], p, [], hW', ?_, ?_, ?_, hb.frame _, fun h => by cases h⟩
  · rw [h1, hres]
    exact trodAll_mk1 (shut_bool htb true)
  · rw [h2]
    exact trodAll_below hl hb _ _ _ _ hA hr' fun x hx => hW'.lt x (List.mem_append_left _ hx)
  · rw [h3, hv]
    rfl

/-- A slice of whole numbers among the arguments. -/
theorem ints_open {t e : TypeId} {k : IntKind} {r : Reach} {b0 : Nat} {v : Value} {d : DataW H} {p : List MemPlace} (ht : P.underlying t = some (.slice e)) (he : P.underlying e = some (.int k)) (hc : P.cellsOf e = 1)
    (hval : Value.okWide P W r b0 t v) (h : DataW.Trod enc P W 0 (fun _ => true) true t v d p) (hfz : ∀ b off, MemPlace.cell b off ∈ p → W.frozen? ⟨b, off, none⟩ = false) (hlt : ∀ x ∈ p, x.block < W.heap.size) :
    ∃ A n c xs, v = .slice A n c ∧ n ≤ c ∧ Ints W 0 W.heap.size k A n xs := by
  obtain ⟨A, n, c, rfl⟩ := okWide_slice ht hval
  obtain ⟨fuel, hf⟩ := h
  rcases open_ints ht he hc hf with ⟨hcs, hx⟩ | ⟨a, len, cap, zs, hcs, _, hl, hm, hz, hx, hcell, hwz⟩
  · simp [Value.cells] at hcs
    obtain ⟨rfl, rfl, rfl⟩ := hcs
    exact ⟨none, 0, 0, [], rfl, Nat.le_refl _, Ints.nil_ ..⟩
  · simp [Value.cells] at hcs
    obtain ⟨rfl, rfl, rfl⟩ := hcs
    simp only [if_true] at hz
    refine ⟨some a, n, c, zs.take n, rfl, hl, by simp; omega, fun x hx => ?_, by unfold maxLen at hm; omega, fun h0 => ?_⟩
    · have := hwz x (List.mem_of_mem_take hx)
      simpa [Lit.wf] using this
    · obtain ⟨b, off, spot⟩ := a
      have hspot : spot = none := by simpa [Addr.add] using World.cell?_spot (hcell 0 (by omega))
      subst hspot
      simp only [Prod.mk.injEq] at hx
      obtain ⟨_, rfl⟩ := hx
      have hmem : ∀ j, j < n → MemPlace.cell b (off + j) ∈ MemPlace.row ⟨b, off, none⟩ zs.length := fun j hj => MemPlace.mem_row.2 ⟨j, by omega, rfl⟩
      refine ⟨b, off, rfl, Nat.zero_le _, hlt _ (hmem 0 h0), fun j hj => ⟨?_, hfz _ _ (hmem j hj)⟩⟩
      have := hcell j (by omega)
      rw [add_plain] at this
      rw [this, List.getElem?_take, if_pos hj]
      simp [List.getD]
end
end Go.Proofs.YtlbkepiflhchdaaDoor

namespace Go.Proofs.YtlbkepiflhchdaaDoor
open Go.ChangeShapes Go.WideShapes Go.ChangeAt Go.RowKit Go.Joins Go.Deep
section
variable {H : Type} {enc : TypeId × Value → H} {P : Program} {W W' : World}
theorem ints_trod {t e : TypeId} {k : IntKind} {fuel : Nat} {v : Value} {x : DataW H × List MemPlace} (ht : P.underlying t = some (.slice e)) (he : P.underlying e = some (.int k)) (hc : P.cellsOf e = 1)
    (h : DataW.trod enc P W 0 (fun _ => true) true fuel t [v] = some x) (hfz : ∀ b off, MemPlace.cell b off ∈ x.2 → W.frozen? ⟨b, off, none⟩ = false) (hlt : ∀ q ∈ x.2, q.block < W.heap.size) :
    ∃ A n c xs, v = .slice A n c ∧ n ≤ c ∧ Ints W 0 W.heap.size k A n xs := by
  rcases open_ints ht he hc h with ⟨hcs, hx⟩ | ⟨a, len, cap, zs, hcs, _, hl, hm, hz, hx, hcell, hwz⟩
  · injection hcs with hcs
    exact ⟨none, 0, 0, [], hcs, Nat.le_refl _, Ints.nil_ ..⟩
  · injection hcs with hcs
    simp only [if_true] at hz
    refine ⟨some a, len, cap, zs.take len, hcs, hl, by simp; omega, fun y hy => ?_, by unfold maxLen at hm; omega, fun h0 => ?_⟩
    · have := hwz y (List.mem_of_mem_take hy)
      simpa [Lit.wf] using this
    · obtain ⟨b, off, spot⟩ := a
      have hspot : spot = none := by simpa [Addr.add] using World.cell?_spot (hcell 0 (by omega))
      subst hspot
      have hmem : ∀ j, j < len → MemPlace.cell b (off + j) ∈ x.2 := fun j hj => by
        rw [hx]
        exact MemPlace.mem_row.2 ⟨j, by omega, rfl⟩
      refine ⟨b, off, rfl, Nat.zero_le _, hlt _ (hmem 0 h0), fun j hj => ⟨?_, hfz _ _ (hmem j hj)⟩⟩
      have := hcell j (by omega)
      rw [add_plain] at this
      rw [this, List.getElem?_take, if_pos hj]
      simp [List.getD]
/-- A dyad among the arguments. -/
theorem dyad_open {r : Reach} {b0 : Nat} {t e : TypeId} {k0 k1 k2 : Field} {v : Value} {d : DataW H} {p : List MemPlace} (hs : P.underlying t = some (.struct #[k0, k1, k2])) (hone : oneCellFields P #[k0, k1, k2] = true) (hC : P.cellsOf t = 3)
    (v0 : P.underlying k0.type = some .bool) (ht : P.underlying k1.type = some (.slice e)) (he : P.underlying e = some (.int .u32)) (hc : P.cellsOf e = 1) (v2 : P.underlying k2.type = some (.int .i64))
    (hval : Value.okWide P W r b0 t v) (h : DataW.Trod enc P W 0 (fun _ => true) true t v d p) (hfz : ∀ b off, MemPlace.cell b off ∈ p → W.frozen? ⟨b, off, none⟩ = false) (hlt : ∀ q ∈ p, q.block < W.heap.size) :
    ∃ (s : Bool) (A : Option Addr) (n c : Nat) (xs : List Int) (ex : Int), v = .agg #[.bool s, .slice A n c, .int .i64 ex] ∧ n ≤ c ∧ (Lit.int .i64 ex).wf = true ∧ Ints W 0 W.heap.size .u32 A n xs := by
  obtain ⟨w0, w1, w2, y0, y1, y2, m, rfl, _, rfl, h0, h1, h2⟩ := open_agg3 hs hone hC hval h
  obtain ⟨s, e0, _⟩ := DataW.trod_bool v0 h0
  obtain ⟨x, e2, _, z2⟩ := DataW.trod_int v2 h2
  injection e0 with e0
  injection e2 with e2
  obtain ⟨A, n, c, xs, e1, hc', hx⟩ := ints_trod ht he hc h1 (fun b off hm => hfz b off (by simp [hm])) (fun q hq => hlt q (by simp [hq]))
  exact ⟨s, A, n, c, xs, x, by rw [e0, e1, e2], hc', z2, hx⟩
end
end Go.Proofs.YtlbkepiflhchdaaDoor
