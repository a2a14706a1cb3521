/- query: count, parts, even, ends, guess: what makes closures: walks (printed by a program of mine). -/
import Derived.Test.YtmbppgjhdcmckaaGreatDoorQuW3
import Derived.Test.YtmbppgjhdcmckaaGreatDoorQuW4
namespace Go.Proofs.YtmbppgjhdcmckaaGreatDoor
open Go.RowKit
namespace Ma
open Dp Dy
/-- A maker's answer. -/
def Makes (F : FuncId) (w : World) (T : Dn × Dn × Int) (e : Ending) (w' : World) : Prop := ∃ v, e = .returned v ∧ Tells F w' T v ∧ Below w.heap.size w w'
/-- What even tells. -/
noncomputable def evenX (m : Mv) (k : Int) : Dn × Dn × Int := if aboveV m.W = false then (Dn.zero, Dn.zero, 6) else partsX m.A ⟨false, none, 1, 1, 0, canon 4294967296 1⟩ k
theorem partsX_eq {a b b' : Dv} {k : Int} (hs : b.s = b'.s) (hn : b.n = b'.n) (hx : b.xs = b'.xs) (he : b.e = b'.e) : partsX a b k = partsX a b' k := by
  unfold partsX aboveV
  rw [hs, hn, hx, he]
theorem alloc_i (w : World) (k : Int) : ∃ U, w.alloc (.cells #[.int .i64 k] 3) = U ∧ U.heap[w.heap.size]? = some (.cells #[.int .i64 k] 3 (0, 0)) ∧ Below w.heap.size w U ∧ w.heap.size < U.heap.size :=
  ⟨_, rfl, heap_alloc_last _ _, (Below.refl _ w).alloc (Nat.le_refl _) _, by simp⟩
theorem alloc_e (w : World) (h : Bool) (mn mx : Int) : ∃ U, w.alloc (.cells #[.bool h, .int .i64 mn, .int .i64 mx] 28) = U ∧ U.heap[w.heap.size]? = some (.cells #[.bool h, .int .i64 mn, .int .i64 mx] 28 (0, 0)) ∧ Below w.heap.size w U ∧ w.heap.size < U.heap.size :=
  ⟨_, rfl, heap_alloc_last _ _, (Below.refl _ w).alloc (Nat.le_refl _) _, by simp⟩
theorem alloc_s (w : World) (A : Option Addr) (n c : Nat) : ∃ U, w.alloc (.cells #[.slice A n c] 22) = U ∧ U.heap[w.heap.size]? = some (.cells #[.slice A n c] 22 (0, 0)) ∧ Below w.heap.size w U ∧ w.heap.size < U.heap.size :=
  ⟨_, rfl, heap_alloc_last _ _, (Below.refl _ w).alloc (Nat.le_refl _) _, by simp⟩
set_option maxHeartbeats 3200000 in
/-- query.count. -/
theorem qcount_any (w : World) (c : Dv) (hR : DRow w 0 w.heap.size c) : Calls Tryz.prog 36 #[.agg #[.bool c.s, .slice c.A c.n c.c, .int .i64 c.e]] w (Makes 70 w (countX c)) := by
  obtain ⟨w1, hw, bQ, j1, S1⟩ := alloc_q w c
  go_enter Tryz.func36, Tryz.ntmps36
  go_wp2
  go_ret
  exact ⟨_, rfl, ⟨_, rfl, fun w' hb => count1_any w' w.heap.size (Nat.lt_of_lt_of_le S1 hb.size) c ((hb.block _ S1).trans bQ) (drow_on (drow_on hR j1) hb) _ _ _ rfl⟩, j1⟩
set_option maxHeartbeats 3200000 in
/-- query.ends. -/
theorem qends_any (w : World) (h : Bool) (mn mx : Int) (hmn : -9223372036854775808 ≤ mn ∧ mn ≤ 9223372036854775807) (hmx : -9223372036854775808 ≤ mx ∧ mx ≤ 9223372036854775807) : Calls Tryz.prog 39 #[.agg #[.bool h, .int .i64 mn, .int .i64 mx]] w (Makes 77 w (endsX h mn mx)) := by
  obtain ⟨w1, hw, bQ, j1, S1⟩ := alloc_e w h mn mx
  go_enter Tryz.func39, Tryz.ntmps39
  go_wp2
  go_ret
  exact ⟨_, rfl, ⟨_, rfl, fun w' hb => ends1_any w' w.heap.size (Nat.lt_of_lt_of_le S1 hb.size) h mn mx ((hb.block _ S1).trans bQ) hmn hmx _ _ _ rfl⟩, j1⟩
set_option maxHeartbeats 3200000 in
/-- query.guess. -/
theorem qguess_any (w : World) (A : Option Addr) (n c : Nat) (xs : List Int) (hI : Ints w 0 w.heap.size .u32 A n xs) (hT : Tab w) (hc : Least.checkCode xs = 0) : Calls Tryz.prog 40 #[.slice A n c] w (Makes 79 w (guessX xs)) := by
  obtain ⟨w1, hw, bQ, j1, S1⟩ := alloc_s w A n c
  go_enter Tryz.func40, Tryz.ntmps40
  go_wp2
  go_ret
  exact ⟨_, rfl, ⟨_, rfl, fun w' hb => guess1_any w' w.heap.size (Nat.lt_of_lt_of_le S1 hb.size) A n c xs ((hb.block _ S1).trans bQ) (ints_on (ints_on hI j1) hb) (tab_later (tab_later hT j1) hb) hc _ _ _ rfl⟩, j1⟩
set_option maxHeartbeats 3200000 in
/-- query.parts. -/
theorem qparts_any (w : World) (a b : Dv) (k : Int) (hA : DRow w 0 w.heap.size a) (hB : DRow w 0 w.heap.size b) : Calls Tryz.prog 37 #[.agg #[.bool a.s, .slice a.A a.n a.c, .int .i64 a.e], .agg #[.bool b.s, .slice b.A b.n b.c, .int .i64 b.e], .int .i64 k] w (Makes 74 w (partsX a b k)) := by
  obtain ⟨w1, hw1, bA, j1, S1⟩ := alloc_q w a
  obtain ⟨w2, hw2, bB, j2, S2⟩ := alloc_q w1 b
  obtain ⟨w3, hw3, bK, j3, S3⟩ := alloc_i w2 k
  have s1 := j1.size
  have s2 := j2.size
  have s3 := j3.size
  have z1 : w1.heap.size = w.heap.size + 1 := by rw [← hw1]; simp
  have z2 : w2.heap.size = w.heap.size + 1 + 1 := by rw [← hw2]; simp [z1]
  subst hw1 hw2
  have j : Below w.heap.size w w3 := (j1.trans (j2.mono s1)).trans (j3.mono (by omega))
  rw [z1] at bB S2
  rw [z2] at bK S3
  go_enter Tryz.func37, Tryz.ntmps37
  go_wp2
  go_ret
  refine ⟨_, rfl, ⟨_, rfl, fun w' hb => ?_⟩, j⟩
  have hs := hb.size
  have c1 := later (later j2 j3) hb
  have c2 := later j3 hb
  exact parts1_any w' w.heap.size (w.heap.size + 1) (w.heap.size + 1 + 1) (by omega) (by omega) (by omega) a b k ((c1.block _ S1).trans bA) ((c2.block _ S2).trans bB) ((hb.block _ S3).trans bK) (drow_on hA (later j hb)) (drow_on hB (later j hb)) _ _ _ rfl
set_option maxHeartbeats 12800000 in
set_option maxRecDepth 100000 in
/-- query.even. -/
theorem qeven_any (w : World) (m : Mv) (hR : MRows w 0 w.heap.size m) (k : Int) : Calls Tryz.prog 38 #[.agg #[.bool m.S.s, .slice m.S.A m.S.n m.S.c, .int .i64 m.S.e, .bool m.W.s, .slice m.W.A m.W.n m.W.c, .int .i64 m.W.e, .bool m.C.s, .slice m.C.A m.C.n m.C.c, .int .i64 m.C.e, .bool m.A.s, .slice m.A.A m.A.n m.A.c, .int .i64 m.A.e], .int .i64 k] w (Makes 74 w (evenX m k)) := by
  obtain ⟨w1, hw, bM, j1, S1⟩ := alloc_m w m
  obtain ⟨a, ha⟩ : ∃ a, aboveV m.W = a := ⟨_, rfl⟩
  have HA := Lib.hid ha
  clear ha
  go_enter Tryz.func38, Tryz.ntmps38
  obtain ⟨⟨q1_0, q1_1, q1_2, q1_3, q1_4, q1_5, q1_6, q1_7, q1_8, q1_9, q1_10, q1_11⟩, q1f⟩ := MBox.cells bM
  go_wp2_with fail
  refine (above_any w1 m.W a HA.out).mono ?_
  rintro e' v2 ⟨rfl, j3⟩
  clear q1_0 q1_1 q1_2 q1_3 q1_4 q1_5 q1_6 q1_7 q1_8 q1_9 q1_10 q1_11 q1f
  try clear hw
  cases a
  · skip
    obtain ⟨⟨q4_0, q4_1, q4_2, q4_3, q4_4, q4_5, q4_6, q4_7, q4_8, q4_9, q4_10, q4_11⟩, q4f⟩ := MBox.cells (box_later bM j3 S1)
    go_wp2_with fail
    refine (qparts_any v2 m.A m.W k (MRows.on hR (later j1 j3)).A (MRows.on hR (later j1 j3)).W).mono ?_
    rintro e' v5 ⟨V, rfl, TV, j6⟩
    clear q4_0 q4_1 q4_2 q4_3 q4_4 q4_5 q4_6 q4_7 q4_8 q4_9 q4_10 q4_11 q4f
    try clear hw
    go_wp2
    go_ret
    have e1 : partsX m.A m.W k = evenX m k := by unfold evenX partsX; rw [if_pos HA.out, if_pos HA.out]
    rw [e1] at TV
    exact ⟨V, rfl, TV, (later j1 (later j3 j6))⟩
  · skip
    go_wp2_with fail
    try clear hw
    refine region_E (Keeps v2) [] (m := 6) (L := #[false, false, false, false, false, false]) (by kernel_rfl) (by rfl) (by rfl) ?_
    have j8 : Below v2.heap.size v2 v2.drew := (Below.refl _ _).drew
    generalize v2.drew = v7 at *
    refine pureE (i := 0) (L := #[true, false, false, false, false, false]) (v := ?_) rfl (by rfl) (by kernel_rfl) (by kernel_rfl) (by kernel_rfl) (fun _ _ _ h => h) (by rfl) ?hy1 ?rest1
    case hy1 => intro w; go_simp; (try with_reducible rfl)
    try simp only [Act.put, List.setIfInBounds_toArray, List.set_cons_zero, List.set_cons_succ]
    refine pureE (i := 3) (L := #[true, false, false, true, false, false]) (v := ?_) rfl (by rfl) (by kernel_rfl) (by kernel_rfl) (by kernel_rfl) (fun _ _ _ h => h) (by rfl) ?hy2 ?rest2
    case hy2 => intro w; go_simp; (try with_reducible rfl)
    try simp only [Act.put, List.setIfInBounds_toArray, List.set_cons_zero, List.set_cons_succ]
    have kpy9 : Keeps v2 v7 := fun p hp => Below.block j8 p hp
    refine readE (i := 1) (L := #[true, true, false, true, false, false]) (v := .agg #[.bool m.A.s, .slice m.A.A m.A.n m.A.c, .int .i64 m.A.e]) rfl (by rfl) (by kernel_rfl) (by kernel_rfl) (by kernel_rfl) (fun _ _ _ h => h) (by assumption) (by rfl) ?y9 ?z10
    case y9 =>
      intro w' h1
      obtain ⟨⟨k0, k1, k2, k3, k4, k5, k6, k7, k8, k9, k10, k11⟩, kf⟩ := MBox.cells ((h1 _ (Nat.lt_of_lt_of_le S1 (Below.size j3))).trans (box_later bM j3 S1))
      go_simp
    try simp only [Act.put, List.setIfInBounds_toArray, List.set_cons_zero, List.set_cons_succ]
    refine stepK (i := 2) (L := #[true, true, true, true, false, false]) rfl (by rfl) (by kernel_rfl) (by rfl) (fun K hK => ?_)
    go_simp
    go_at_call 19
    refine (Of_any v7 1 (by decide) (by decide) false 1 rfl rfl).mono ?_
    rintro e' v11 ⟨A1, n1, rfl, j12, I1⟩
    refine hK _ _ ⟨fun _ _ => fun p hp => Below.block (later j8 j12) p hp, ?_⟩
    clear hK K
    try simp only [Act.put, List.setIfInBounds_toArray, List.set_cons_zero, List.set_cons_succ]
    have I1' := I1.more (Nat.zero_le _) (Nat.le_refl _)
    refine stepK (i := 4) (L := #[true, true, true, true, true, false]) rfl (by rfl) (by kernel_rfl) (by rfl) (fun K hK => ?_)
    go_simp
    go_at_call 37
    refine (qparts_any v11 m.A ⟨false, A1, n1, n1, 0, canon 4294967296 1⟩ k (MRows.on hR (later j1 (later j3 (later j8 j12)))).A I1').mono ?_
    rintro e' v13 ⟨V, rfl, TV, j14⟩
    refine hK _ _ ⟨fun _ _ => fun p hp => Below.block (later j8 (later j12 j14)) p hp, ?_⟩
    clear hK K
    try simp only [Act.put, List.setIfInBounds_toArray, List.set_cons_zero, List.set_cons_succ]
    refine pureE (i := 5) (L := #[true, true, true, true, true, true]) (v := ?_) rfl (by rfl) (by kernel_rfl) (by kernel_rfl) (by kernel_rfl) (fun _ _ _ h => h) (by rfl) ?hy6 ?rest6
    case hy6 => intro w; go_simp; (try with_reducible rfl)
    try simp only [Act.put, List.setIfInBounds_toArray, List.set_cons_zero, List.set_cons_succ]
    refine doneE (by kernel_rfl) ?_ _
    have e0 : n1 = 1 := by
      have := I1.len
      rw [canon_one _ (by decide) (by decide)] at this
      simpa using this.symm
    have e1 : partsX m.A ⟨false, A1, n1, n1, 0, canon 4294967296 1⟩ k = evenX m k := by
      unfold evenX
      rw [if_neg (by rw [HA.out]; simp)]
      exact partsX_eq rfl e0 rfl rfl
    rw [e1] at TV
    go_wp2
    go_ret
    exact ⟨V, rfl, TV, (later j1 (later j3 (later j8 (later j12 j14))))⟩
end Ma
end Go.Proofs.YtmbppgjhdcmckaaGreatDoor
