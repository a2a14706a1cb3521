/- How two dyads stand: a walk (printed by a program of mine). -/
/- How two dyads stand, whatever they are. -/
/- The law DyadSums: a walk (printed by a program of mine). -/
/- mass.each, with Add and with Sub: walks (printed by a program of mine). -/
/- mass.Add and mass.Sub: walks (printed by a program of mine). -/
/- mass.Seed: a walk (printed by a program of mine). -/
/- mass.Split: a walk (printed by a program of mine). -/
import Derived.Laws.StructEq
import Derived.Test.YtlbkepiflhchdaaDoorBa05
import Derived.Test.YtlbkepiflhchdaaDoorBa06
import Derived.Test.YtlbkepiflhchdaaDoorBa09
import Derived.Test.YtlbkepiflhchdaaDoorBa01
namespace Go.Proofs.YtlbkepiflhchdaaDoor
open Go.RowKit
namespace Dy
open Dp
theorem all_range (xs ys : List Int) : ∀ (n : Nat), xs.length = n → ys.length = n → ((List.range n).all fun i => xs.getD i 0 == ys.getD i 0) = (xs == ys)
  | n, hx, hy => by
    subst hx
    revert ys
    induction xs with
    | nil => intro ys hy; have : ys = [] := List.eq_nil_of_length_eq_zero hy; subst this; rfl
    | cons x xs ih =>
      intro ys hy
      cases ys with
      | nil => simp at hy
      | cons y ys =>
        have h := ih ys (by simpa using hy)
        rw [List.length_cons, List.range_succ_eq_map, List.all_cons, List.all_map]
        simp only [List.getD_cons_zero, Function.comp_def, List.getD_cons_succ, h]
        simp [List.cons_beq_cons]
theorem run_equalIn_rows {P : Program} (w : World) (d : Nat) (t e : TypeId) (n : Nat) (ht : P.underlying t = some (.array n e)) (he : P.underlying e = some (.int .u32)) (hsz : ∀ w, (sizeOf e).run P w = .ok 1 w)
    (xs ys : List Int) (hx : xs.length = n) (hy : ys.length = n) :
    (Op.equalIn (d + 2) t (.agg (rowU xs)) (.agg (rowU ys))).run P w = .ok (xs == ys) w := by
  rw [← all_range xs ys n hx hy, List.range_eq_range', Op.equalIn]
  simp only [Sem.run_bind, run_underlying ht, Result.andThen_ok, hsz, Std.Legacy.Range.forIn_eq_forIn_range', Std.Legacy.Range.size, Nat.sub_zero, Nat.add_sub_cancel, Nat.div_one]
  have hl : ∀ i ∈ List.range' 0 n 1, i < n := fun i hi => by simpa using (List.mem_range'_1.1 hi).2
  generalize List.range' 0 n 1 = l at hl ⊢
  induction l with
  | nil => simp
  | cons i l ih =>
    have hi : i < n := hl i (by simp)
    have px : (Go.part e (rowU xs) (i * 1)).run P w = .ok (.int .u32 (xs.getD i 0)) w := by
      simp [Go.part, isAgg, run_underlying he, rowU, List.getD, List.getElem?_eq_getElem (show i < xs.length by omega)]
    have py : (Go.part e (rowU ys) (i * 1)).run P w = .ok (.int .u32 (ys.getD i 0)) w := by
      simp [Go.part, isAgg, run_underlying he, rowU, List.getD, List.getElem?_eq_getElem (show i < ys.length by omega)]
    have pe : (Op.equalIn (d + 1) e (.int .u32 (xs.getD i 0)) (.int .u32 (ys.getD i 0))).run P w = .ok (xs.getD i 0 == ys.getD i 0) w :=
      run_equalIn_int w d e .u32 .u32 _ _ he
    simp only [List.forIn_cons, Sem.run_bind, px, py, pe, Result.andThen_ok, List.all_cons]
    cases hb : (xs.getD i 0 == ys.getD i 0)
    · simp
    · simp only [Bool.not_true, Bool.false_eq_true, if_false, Sem.run_pure, Result.andThen_ok, Bool.true_and]
      exact ih fun j hj => hl j (by simp [hj])
theorem rows_zero {vs : List Int} (hl : vs.length = 74) (hd : Dig 4294967296 vs) : (vs == zero74) = decide (num 4294967296 vs = 0) := by
  have hz : num 4294967296 zero74 = 0 := num_zeros _ _
  have hzd : Dig 4294967296 zero74 := dig_zeros 74
  by_cases h : num 4294967296 vs = 0
  · have he : vs = zero74 := by
      apply List.ext_getElem
      · rw [hl]; simp [zero74]
      · intro j h1 h2
        have k1 := digit (by decide) hd j
        have k2 := digit (by decide) hzd j
        rw [h] at k1
        rw [hz] at k2
        rw [List.getElem?_eq_getElem h1] at k1
        rw [List.getElem?_eq_getElem h2] at k2
        simp only [Option.getD_some] at k1 k2
        rw [k1, k2]
    simp [he, hz]
  · have he : vs ≠ zero74 := fun e => h (by rw [e]; exact hz)
    simp [h, he]
theorem eql_zero (w : World) (vs : List Int) (hl : vs.length = 74) (hd : Dig 4294967296 vs) (r : Bool) (hr : decide (num 4294967296 vs = 0) = r) :
    (Op.equalIn 10000 81 (.agg (rowU vs)) (.agg (rowU zero74))).run Tryd.prog w = .ok r w := by
  rw [← hr, ← rows_zero hl hd]
  exact run_equalIn_rows w 9998 81 52 74 Tryd.underlying81 Tryd.underlying52 (fun w => by kernel_rfl) vs zero74 hl (by simp [zero74])
theorem built_wide : Tryd.prog.built 81 [] = some (rowU zero74) := by
  have h1 := Tryd.info81
  have h2 := infoU32
  unfold Program.built
  cases hi : Tryd.prog.info? 81 with
  | none => rw [hi] at h1; cases h1
  | some it =>
    cases hj : Tryd.prog.info? 52 with
    | none => rw [hj] at h2; cases h2
    | some ie =>
      rw [hi] at h1
      simp only [Option.map_some, Option.some.injEq, Prod.mk.injEq] at h1
      rw [Tryd.underlying81]
      simp only [h1.1, hj]
      rfl
theorem wpList_build0 {ops : Array Oper} {rest : List Oper} {o : Oper} {a : Act} {w : World} {Q : Exit → Act → World → Prop} (hg : o.guard = none) (ho : o.op = .build 81 #[])
    (h : wpList Tryd.prog ops Q rest (a.put o.dst (.agg (rowU zero74))) w) : wpList Tryd.prog ops Q (o :: rest) a w := by
  have e : ((#[] : Array (Nat × Operand)).map fun (i, x) => (i, a.eval x)).toList = [] := by simp
  refine wpList_build hg 81 #[] ho (by rw [e, built_wide]; rfl) ?_
  rw [e, built_wide]
  exact h
end Dy
end Go.Proofs.YtlbkepiflhchdaaDoor
namespace Go.Proofs.YtlbkepiflhchdaaDoor
open Go.RowKit
namespace Dy
open Dp
set_option maxHeartbeats 6400000 in
set_option maxRecDepth 100000 in
/-- dyad.Cmp: dyads that may be. -/
theorem Cmp_ok (w : World) (a b : Dn) (ha : a.May) (hb : b.May) (A1 : Option Addr) (n1 c1 : Nat) (h1 : Ints w 0 w.heap.size .u32 A1 n1 (canon 4294967296 a.m)) (A2 : Option Addr) (n2 c2 : Nat) (h2 : Ints w 0 w.heap.size .u32 A2 n2 (canon 4294967296 b.m)) (hT : Tab w) (z : Int) (h : cmpD a b = z) :
    Calls Tryd.prog 39 #[.agg #[.bool a.neg, .slice A1 n1 c1, .int .i64 a.e], .agg #[.bool b.neg, .slice A2 n2 c2, .int .i64 b.e]] w fun e w' => e = .returned (.tuple #[.int .i64 z, .int .i64 0]) ∧ Below w.heap.size w w' := by
  have hn1 := ints_may h1 ha
  have hn2 := ints_may h2 hb
  have HM1 := Lib.hid (dn_may ha)
  have HM2 := Lib.hid (dn_may hb)
  have hae := ha.2.1
  have hbe := hb.2.1
  obtain ⟨sd1, _, sn1⟩ := canon_spec 4294967296 a.m (by decide)
  obtain ⟨sd2, _, sn2⟩ := canon_spec 4294967296 b.m (by decide)
  have SN1 := Lib.hid sn1
  have SN2 := Lib.hid sn2
  have H := Lib.hid h
  obtain ⟨M, hK⟩ : ∃ M, max a.e b.e = M := ⟨_, rfl⟩
  have HK := Lib.hid hK
  have hK1 : a.e ≤ M := by omega
  have hK2 : b.e ≤ M := by omega
  have hK3 : M ≤ 1024 := by omega
  have hkab : (a.e < b.e ∧ M = b.e) ∨ (¬ a.e < b.e ∧ M = a.e) := by omega
  generalize hm1 : canon 4294967296 a.m = xs1 at *
  generalize hm2 : canon 4294967296 b.m = xs2 at *
  clear h sn1 sn2 hK hm1 hm2
  generalize hw1 : (w.alloc (.cells #[.bool a.neg, .slice A1 n1 c1, .int .i64 a.e] 24)).alloc (.cells #[.bool b.neg, .slice A2 n2 c2, .int .i64 b.e] 24) = w1
  have hs1 : w1.heap.size = w.heap.size + 2 := by rw [← hw1]; simp
  have HS1 := Lib.hid hs1
  have hB1 : Below w.heap.size w w1 := by rw [← hw1]; exact ((Below.refl _ w).alloc (Nat.le_refl _) _).alloc (by simp) _
  have hb1 : w1.heap[w.heap.size]? = some (.cells #[.bool a.neg, .slice A1 n1 c1, .int .i64 a.e] 24 (0, 0)) := by
    rw [← hw1, Below.heap_alloc _ _ _ (by simp)]
    exact heap_alloc_last _ _
  have hb2 : w1.heap[w.heap.size + 1]? = some (.cells #[.bool b.neg, .slice A2 n2 c2, .int .i64 b.e] 24 (0, 0)) := by
    rw [← hw1]
    exact heap_alloc2_new _ _ _
  have g1 := h1.below hB1 (Nat.le_refl _)
  have g2 := h2.below hB1 (Nat.le_refl _)
  have hT1 := hT.below hB1 hT.lt
  have h0 := hT.lt
  clear hs1
  obtain ⟨⟨p0, p1, p2⟩, p3, p4, p5⟩ := boxD hb1
  obtain ⟨⟨q0, q1, q2⟩, q3, q4, q5⟩ := boxD hb2
  go_enter Tryd.func39, Tryd.ntmps39
  go_wp2_with fail
  refine (Check_ok w1 0 w.heap.size a.neg A1 n1 c1 xs1 a.e g1 (by have := HS1.out; omega) HM1.out).mono ?_
  rintro e w2 ⟨rfl, hB2⟩
  have hs2 := hB2.size
  replace g1 := g1.below hB2 (by have := HS1.out; omega)
  replace g2 := g2.below hB2 (by have := HS1.out; omega)
  replace hT1 := hT1.below hB2 (by have := HS1.out; omega)
  replace hb1 := (hB2.block _ (by have := HS1.out; omega)).trans hb1
  replace hb2 := (hB2.block _ (by have := HS1.out; omega)).trans hb2
  replace hB1 := hB1.trans (hB2.mono (by have := HS1.out; omega))
  clear hB2 p0 p1 p2 p3 p4 p5 q0 q1 q2 q3 q4 q5 hw1
  obtain ⟨⟨p0, p1, p2⟩, p3, p4, p5⟩ := boxD hb1
  obtain ⟨⟨q0, q1, q2⟩, q3, q4, q5⟩ := boxD hb2
  go_wp2_with fail
  refine (Check_ok w2 0 w.heap.size b.neg A2 n2 c2 xs2 b.e g2 (by have := HS1.out; omega) HM2.out).mono ?_
  rintro e w3 ⟨rfl, hB2⟩
  have hs3 := hB2.size
  replace g1 := g1.below hB2 (by have := HS1.out; omega)
  replace g2 := g2.below hB2 (by have := HS1.out; omega)
  replace hT1 := hT1.below hB2 (by have := HS1.out; omega)
  replace hb1 := (hB2.block _ (by have := HS1.out; omega)).trans hb1
  replace hb2 := (hB2.block _ (by have := HS1.out; omega)).trans hb2
  replace hB1 := hB1.trans (hB2.mono (by have := HS1.out; omega))
  clear hB2 p0 p1 p2 p3 p4 p5 q0 q1 q2 q3 q4 q5
  obtain ⟨⟨p0, p1, p2⟩, p3, p4, p5⟩ := boxD hb1
  obtain ⟨⟨q0, q1, q2⟩, q3, q4, q5⟩ := boxD hb2
  rcases hkab with ⟨hkl, hke⟩ | ⟨hkl, hke⟩
  · have HKE := Lib.hid hke
    clear hke
    go_wp2_with fail
    refine (of_any w3 0 w.heap.size a.neg A1 n1 c1 xs1 a.e (M - a.e) g1 (by have := HS1.out; omega) sd1 hn1 (by omega) (by omega) _ (by have := HKE.out; omega)).mono ?_
    rintro e w4 ⟨g, ws, rfl, hB4, hg1, hg2, hS4, hnw⟩
    have hs4 := hB4.size
    replace g1 := g1.below hB4 (by have := HS1.out; omega)
    replace g2 := g2.below hB4 (by have := HS1.out; omega)
    replace hT1 := hT1.below hB4 (by have := HS1.out; omega)
    replace hb1 := (hB4.block _ (by have := HS1.out; omega)).trans hb1
    replace hb2 := (hB4.block _ (by have := HS1.out; omega)).trans hb2
    replace hB1 := hB1.trans (hB4.mono (by have := HS1.out; omega))
    have HNW := Lib.hid hnw
    clear hB4 p0 p1 p2 p3 p4 p5 q0 q1 q2 q3 q4 q5 hnw
    go_wp2_with fail
    have hSS : w4.drew.heap[w.heap.size + 1]? = w4.heap[w.heap.size + 1]? := rfl
    refine region_E (fun w' => w'.heap[w.heap.size + 1]? = w4.heap[w.heap.size + 1]?) [] (m := 8) (L := #[false, false, false, false, false, false, false, false]) (by kernel_rfl) (by rfl) (by rfl) ?_
    refine pureE (i := 0) (L := #[true, false, false, false, false, false, false, false]) (v := ?_) rfl (by rfl) (by kernel_rfl) (by kernel_rfl) (by kernel_rfl) (fun _ _ _ h => h) (by rfl) ?hy1 ?rest1
    case hy1 => intro w; go_simp; (try with_reducible rfl)
    try simp only [Act.put, List.setIfInBounds_toArray, List.set_cons_zero, List.set_cons_succ]
    refine pureE (i := 1) (L := #[true, true, false, false, false, false, false, false]) (v := ?_) rfl (by rfl) (by kernel_rfl) (by kernel_rfl) (by kernel_rfl) (fun _ _ _ h => h) (by rfl) ?hy2 ?rest2
    case hy2 => intro w; go_simp; (try with_reducible rfl)
    try simp only [Act.put, List.setIfInBounds_toArray, List.set_cons_zero, List.set_cons_succ]
    refine readE (i := 2) (L := #[true, true, true, false, false, false, false, false]) (v := .bool b.neg) rfl (by rfl) (by kernel_rfl) (by kernel_rfl) (by kernel_rfl) (fun _ _ _ h => h) (by assumption) (by rfl) ?hyA1 ?restA1
    case hyA1 =>
      intro w' h1
      have k := (boxD (h1.trans hb2)).1.1
      go_simp
    try simp only [Act.put, List.setIfInBounds_toArray, List.set_cons_zero, List.set_cons_succ]
    refine pureE (i := 3) (L := #[true, true, true, true, false, false, false, false]) (v := ?_) rfl (by rfl) (by kernel_rfl) (by kernel_rfl) (by kernel_rfl) (fun _ _ _ h => h) (by rfl) ?hy4 ?rest4
    case hy4 => intro w; go_simp; (try with_reducible rfl)
    try simp only [Act.put, List.setIfInBounds_toArray, List.set_cons_zero, List.set_cons_succ]
    refine readE (i := 4) (L := #[true, true, true, true, true, false, false, false]) (v := .agg #[.bool b.neg, .slice A2 n2 c2, .int .i64 b.e]) rfl (by rfl) (by kernel_rfl) (by kernel_rfl) (by kernel_rfl) (fun _ _ _ h => h) (by assumption) (by rfl) ?hyB1 ?restB1
    case hyB1 =>
      intro w' h1
      obtain ⟨⟨k1, k2, k3⟩, _⟩ := boxD (h1.trans hb2)
      go_simp
    try simp only [Act.put, List.setIfInBounds_toArray, List.set_cons_zero, List.set_cons_succ]
    refine pureE (i := 5) (L := #[true, true, true, true, true, true, false, false]) (v := ?_) rfl (by rfl) (by kernel_rfl) (by kernel_rfl) (by kernel_rfl) (fun _ _ _ h => h) (by rfl) ?hy6 ?rest6
    case hy6 => intro w; go_simp; (try with_reducible rfl)
    try simp only [Act.put, List.setIfInBounds_toArray, List.set_cons_zero, List.set_cons_succ]
    refine stepK (i := 6) (L := #[true, true, true, true, true, true, true, false]) rfl (by rfl) (by kernel_rfl) (by rfl) (fun K hK => ?_)
    go_simp
    go_at_call 64
    refine (widen_any w4.drew 0 w.heap.size b.neg A2 n2 c2 xs2 b.e (M - b.e) (g2.drewN 1) (by show w.heap.size ≤ w4.heap.size; have := HS1.out; omega) sd2 hn2 (by omega) (by omega) _ (by have := HKE.out; omega)).mono ?_
    rintro e w5 ⟨us, rfl, hB5', hul, hud, hnu⟩
    have hB5 : Below w4.heap.size w4 w5 := (Below.refl _ w4).drew.trans hB5'
    clear hB5'
    have hs5 := hB5.size
    replace g1 := g1.below hB5 (by have := HS1.out; omega)
    replace hT1 := hT1.below hB5 (by have := HS1.out; omega)
    have hb2' := hB5.block (w.heap.size + 1) (by have := HS1.out; omega)
    replace hB1 := hB1.trans (hB5.mono (by have := HS1.out; omega))
    have hS5 := hS4.of_heap (hB5.block g hg2)
    have HNU := Lib.hid hnu
    clear hB5 hnu hS4
    refine hK _ _ ⟨fun _ _ => hb2', ?_⟩
    clear hK K
    try simp only [Act.put, List.setIfInBounds_toArray, List.set_cons_zero, List.set_cons_succ]
    obtain ⟨sr, mr, hpl⟩ : ∃ sr mr, plusS a.neg (num 4294967296 ws) (!b.neg) (num 4294967296 us) = (sr, mr) := ⟨_, _, rfl⟩
    have hroom : num 4294967296 ws + num 4294967296 us < 4294967296 ^ 74 := by
      rw [HNW.out, HNU.out, SN1.out, SN2.out]
      exact sum_room (shift_lt ha.1 (by omega)) (shift_lt hb.1 (by omega))
    have hcmp : z = if mr = 0 then 0 else if sr then -1 else 1 := by
      rw [← H.out]
      refine cmp_by a b (!b.neg) (fun _ => rfl) sr mr ?_
      rw [HK.out]
      rw [HNW.out, HNU.out, SN1.out, SN2.out] at hpl
      exact hpl
    have HPL := Lib.hid hpl
    have HR := Lib.hid hroom
    have HF := Lib.hid hcmp
    clear hpl hroom hcmp
    refine stepK (i := 7) (L := #[true, true, true, true, true, true, true, true]) rfl (by rfl) (by kernel_rfl) (by rfl) (fun K hK => ?_)
    go_simp
    go_at_call 63
    refine (add_any w5 g a.neg (!b.neg) _ _ ws us hS5 (by omega) hul hud HR.out sr mr HPL.out).mono ?_
    rintro e w6 ⟨rfl, hO6, vs, hS6, hnv⟩
    have hs6 := hO6.size
    replace g1 := g1
    have hB6 := hO6.below hB1 (by have := HS1.out; omega) (by have := HS1.out; omega)
    refine hK _ _ ⟨fun _ h => (hO6.block _ (by have := HS1.out; omega) (by have := HS1.out; omega)).trans h, ?_⟩
    clear hK K hO6 g1 hT1 hB1 hS5
    try simp only [Act.put, List.setIfInBounds_toArray, List.set_cons_zero, List.set_cons_succ]
    refine doneE (by kernel_rfl) ?_ _
    have hvl := hS6.len
    obtain ⟨⟨y0, y1, y2⟩, y3⟩ := And.intro hS6.head (hS6.free 0)
    by_cases hm0 : mr = 0
    · have hz0 : z = 0 := by rw [HF.out, if_pos hm0]
      subst hz0
      have heq := eql_zero w6 vs hvl hS6.dig true (by simp [hnv, hm0])
      go_wp2_with (first
        | (refine wpList_load_wide rfl (.tmp 34) rfl g 3 rfl vs hS6.row ?_)
        | (refine wpList_build0 rfl rfl ?_))
      go_ret2
      exact ⟨rfl, hB6⟩
    · have heq := eql_zero w6 vs hvl hS6.dig false (by simp [hnv, hm0])
      cases sr
      · have hz0 : z = 1 := by rw [HF.out, if_neg hm0]; rfl
        subst hz0
        go_wp2_with (first
          | (refine wpList_load_wide rfl (.tmp 34) rfl g 3 rfl vs hS6.row ?_)
          | (refine wpList_build0 rfl rfl ?_))
        go_ret2
        exact ⟨rfl, hB6⟩
      · have hz0 : z = -1 := by rw [HF.out, if_neg hm0]; rfl
        subst hz0
        go_wp2_with (first
          | (refine wpList_load_wide rfl (.tmp 34) rfl g 3 rfl vs hS6.row ?_)
          | (refine wpList_build0 rfl rfl ?_))
        go_ret2
        exact ⟨rfl, hB6⟩
  · have HKE := Lib.hid hke
    clear hke
    go_wp2_with fail
    refine (of_any w3 0 w.heap.size a.neg A1 n1 c1 xs1 a.e (M - a.e) g1 (by have := HS1.out; omega) sd1 hn1 (by omega) (by omega) _ (by have := HKE.out; omega)).mono ?_
    rintro e w4 ⟨g, ws, rfl, hB4, hg1, hg2, hS4, hnw⟩
    have hs4 := hB4.size
    replace g1 := g1.below hB4 (by have := HS1.out; omega)
    replace g2 := g2.below hB4 (by have := HS1.out; omega)
    replace hT1 := hT1.below hB4 (by have := HS1.out; omega)
    replace hb1 := (hB4.block _ (by have := HS1.out; omega)).trans hb1
    replace hb2 := (hB4.block _ (by have := HS1.out; omega)).trans hb2
    replace hB1 := hB1.trans (hB4.mono (by have := HS1.out; omega))
    have HNW := Lib.hid hnw
    clear hB4 p0 p1 p2 p3 p4 p5 q0 q1 q2 q3 q4 q5 hnw
    go_wp2_with fail
    have hSS : w4.drew.heap[w.heap.size + 1]? = w4.heap[w.heap.size + 1]? := rfl
    refine region_E (fun w' => w'.heap[w.heap.size + 1]? = w4.heap[w.heap.size + 1]?) [] (m := 8) (L := #[false, false, false, false, false, false, false, false]) (by kernel_rfl) (by rfl) (by rfl) ?_
    refine pureE (i := 0) (L := #[true, false, false, false, false, false, false, false]) (v := ?_) rfl (by rfl) (by kernel_rfl) (by kernel_rfl) (by kernel_rfl) (fun _ _ _ h => h) (by rfl) ?hy9 ?rest9
    case hy9 => intro w; go_simp; (try with_reducible rfl)
    try simp only [Act.put, List.setIfInBounds_toArray, List.set_cons_zero, List.set_cons_succ]
    refine pureE (i := 1) (L := #[true, true, false, false, false, false, false, false]) (v := ?_) rfl (by rfl) (by kernel_rfl) (by kernel_rfl) (by kernel_rfl) (fun _ _ _ h => h) (by rfl) ?hy10 ?rest10
    case hy10 => intro w; go_simp; (try with_reducible rfl)
    try simp only [Act.put, List.setIfInBounds_toArray, List.set_cons_zero, List.set_cons_succ]
    refine readE (i := 2) (L := #[true, true, true, false, false, false, false, false]) (v := .bool b.neg) rfl (by rfl) (by kernel_rfl) (by kernel_rfl) (by kernel_rfl) (fun _ _ _ h => h) (by assumption) (by rfl) ?hyA2 ?restA2
    case hyA2 =>
      intro w' h1
      have k := (boxD (h1.trans hb2)).1.1
      go_simp
    try simp only [Act.put, List.setIfInBounds_toArray, List.set_cons_zero, List.set_cons_succ]
    refine pureE (i := 3) (L := #[true, true, true, true, false, false, false, false]) (v := ?_) rfl (by rfl) (by kernel_rfl) (by kernel_rfl) (by kernel_rfl) (fun _ _ _ h => h) (by rfl) ?hy12 ?rest12
    case hy12 => intro w; go_simp; (try with_reducible rfl)
    try simp only [Act.put, List.setIfInBounds_toArray, List.set_cons_zero, List.set_cons_succ]
    refine readE (i := 4) (L := #[true, true, true, true, true, false, false, false]) (v := .agg #[.bool b.neg, .slice A2 n2 c2, .int .i64 b.e]) rfl (by rfl) (by kernel_rfl) (by kernel_rfl) (by kernel_rfl) (fun _ _ _ h => h) (by assumption) (by rfl) ?hyB2 ?restB2
    case hyB2 =>
      intro w' h1
      obtain ⟨⟨k1, k2, k3⟩, _⟩ := boxD (h1.trans hb2)
      go_simp
    try simp only [Act.put, List.setIfInBounds_toArray, List.set_cons_zero, List.set_cons_succ]
    refine pureE (i := 5) (L := #[true, true, true, true, true, true, false, false]) (v := ?_) rfl (by rfl) (by kernel_rfl) (by kernel_rfl) (by kernel_rfl) (fun _ _ _ h => h) (by rfl) ?hy14 ?rest14
    case hy14 => intro w; go_simp; (try with_reducible rfl)
    try simp only [Act.put, List.setIfInBounds_toArray, List.set_cons_zero, List.set_cons_succ]
    refine stepK (i := 6) (L := #[true, true, true, true, true, true, true, false]) rfl (by rfl) (by kernel_rfl) (by rfl) (fun K hK => ?_)
    go_simp
    go_at_call 64
    refine (widen_any w4.drew 0 w.heap.size b.neg A2 n2 c2 xs2 b.e (M - b.e) (g2.drewN 1) (by show w.heap.size ≤ w4.heap.size; have := HS1.out; omega) sd2 hn2 (by omega) (by omega) _ (by have := HKE.out; omega)).mono ?_
    rintro e w5 ⟨us, rfl, hB5', hul, hud, hnu⟩
    have hB5 : Below w4.heap.size w4 w5 := (Below.refl _ w4).drew.trans hB5'
    clear hB5'
    have hs5 := hB5.size
    replace g1 := g1.below hB5 (by have := HS1.out; omega)
    replace hT1 := hT1.below hB5 (by have := HS1.out; omega)
    have hb2' := hB5.block (w.heap.size + 1) (by have := HS1.out; omega)
    replace hB1 := hB1.trans (hB5.mono (by have := HS1.out; omega))
    have hS5 := hS4.of_heap (hB5.block g hg2)
    have HNU := Lib.hid hnu
    clear hB5 hnu hS4
    refine hK _ _ ⟨fun _ _ => hb2', ?_⟩
    clear hK K
    try simp only [Act.put, List.setIfInBounds_toArray, List.set_cons_zero, List.set_cons_succ]
    obtain ⟨sr, mr, hpl⟩ : ∃ sr mr, plusS a.neg (num 4294967296 ws) (!b.neg) (num 4294967296 us) = (sr, mr) := ⟨_, _, rfl⟩
    have hroom : num 4294967296 ws + num 4294967296 us < 4294967296 ^ 74 := by
      rw [HNW.out, HNU.out, SN1.out, SN2.out]
      exact sum_room (shift_lt ha.1 (by omega)) (shift_lt hb.1 (by omega))
    have hcmp : z = if mr = 0 then 0 else if sr then -1 else 1 := by
      rw [← H.out]
      refine cmp_by a b (!b.neg) (fun _ => rfl) sr mr ?_
      rw [HK.out]
      rw [HNW.out, HNU.out, SN1.out, SN2.out] at hpl
      exact hpl
    have HPL := Lib.hid hpl
    have HR := Lib.hid hroom
    have HF := Lib.hid hcmp
    clear hpl hroom hcmp
    refine stepK (i := 7) (L := #[true, true, true, true, true, true, true, true]) rfl (by rfl) (by kernel_rfl) (by rfl) (fun K hK => ?_)
    go_simp
    go_at_call 63
    refine (add_any w5 g a.neg (!b.neg) _ _ ws us hS5 (by omega) hul hud HR.out sr mr HPL.out).mono ?_
    rintro e w6 ⟨rfl, hO6, vs, hS6, hnv⟩
    have hs6 := hO6.size
    replace g1 := g1
    have hB6 := hO6.below hB1 (by have := HS1.out; omega) (by have := HS1.out; omega)
    refine hK _ _ ⟨fun _ h => (hO6.block _ (by have := HS1.out; omega) (by have := HS1.out; omega)).trans h, ?_⟩
    clear hK K hO6 g1 hT1 hB1 hS5
    try simp only [Act.put, List.setIfInBounds_toArray, List.set_cons_zero, List.set_cons_succ]
    refine doneE (by kernel_rfl) ?_ _
    have hvl := hS6.len
    obtain ⟨⟨y0, y1, y2⟩, y3⟩ := And.intro hS6.head (hS6.free 0)
    by_cases hm0 : mr = 0
    · have hz0 : z = 0 := by rw [HF.out, if_pos hm0]
      subst hz0
      have heq := eql_zero w6 vs hvl hS6.dig true (by simp [hnv, hm0])
      go_wp2_with (first
        | (refine wpList_load_wide rfl (.tmp 34) rfl g 3 rfl vs hS6.row ?_)
        | (refine wpList_build0 rfl rfl ?_))
      go_ret2
      exact ⟨rfl, hB6⟩
    · have heq := eql_zero w6 vs hvl hS6.dig false (by simp [hnv, hm0])
      cases sr
      · have hz0 : z = 1 := by rw [HF.out, if_neg hm0]; rfl
        subst hz0
        go_wp2_with (first
          | (refine wpList_load_wide rfl (.tmp 34) rfl g 3 rfl vs hS6.row ?_)
          | (refine wpList_build0 rfl rfl ?_))
        go_ret2
        exact ⟨rfl, hB6⟩
      · have hz0 : z = -1 := by rw [HF.out, if_neg hm0]; rfl
        subst hz0
        go_wp2_with (first
          | (refine wpList_load_wide rfl (.tmp 34) rfl g 3 rfl vs hS6.row ?_)
          | (refine wpList_build0 rfl rfl ?_))
        go_ret2
        exact ⟨rfl, hB6⟩
end Dy
end Go.Proofs.YtlbkepiflhchdaaDoor
namespace Go.Proofs.YtlbkepiflhchdaaDoor
open Go.RowKit
namespace Dy
open Dp
set_option maxHeartbeats 1600000 in
set_option maxRecDepth 100000 in
/-- dyad.Cmp: dyads that may not be. -/
theorem Cmp_bad (w : World) (s1 s2 : Bool) (A1 A2 : Option Addr) (n1 c1 n2 c2 : Nat) (xs1 xs2 : List Int) (e1 e2 : Int) (h1 : Ints w 0 w.heap.size .u32 A1 n1 xs1) (h2 : Ints w 0 w.heap.size .u32 A2 n2 xs2) (h : ¬ MayD s1 xs1 e1 ∨ ¬ MayD s2 xs2 e2) :
    Calls Tryd.prog 39 #[.agg #[.bool s1, .slice A1 n1 c1, .int .i64 e1], .agg #[.bool s2, .slice A2 n2 c2, .int .i64 e2]] w fun e w' => e = .returned (.tuple #[.int .i64 0, .int .i64 8]) ∧ Below w.heap.size w w' := by
  generalize hw1 : (w.alloc (.cells #[.bool s1, .slice A1 n1 c1, .int .i64 e1] 24)).alloc (.cells #[.bool s2, .slice A2 n2 c2, .int .i64 e2] 24) = w1
  have hs1 : w1.heap.size = w.heap.size + 2 := by rw [← hw1]; simp
  have HS1 := Lib.hid hs1
  have hB1 : Below w.heap.size w w1 := by rw [← hw1]; exact ((Below.refl _ w).alloc (Nat.le_refl _) _).alloc (by simp) _
  have hb1 : w1.heap[w.heap.size]? = some (.cells #[.bool s1, .slice A1 n1 c1, .int .i64 e1] 24 (0, 0)) := by
    rw [← hw1, Below.heap_alloc _ _ _ (by simp)]
    exact heap_alloc_last _ _
  have hb2 : w1.heap[w.heap.size + 1]? = some (.cells #[.bool s2, .slice A2 n2 c2, .int .i64 e2] 24 (0, 0)) := by
    rw [← hw1]
    exact heap_alloc2_new _ _ _
  have g1 := h1.below hB1 (Nat.le_refl _)
  have g2 := h2.below hB1 (Nat.le_refl _)
  clear hs1
  obtain ⟨⟨p0, p1, p2⟩, p3, p4, p5⟩ := boxD hb1
  obtain ⟨⟨q0, q1, q2⟩, q3, q4, q5⟩ := boxD hb2
  by_cases hm : MayD s1 xs1 e1
  · have hm2 := h.resolve_left (fun k => k hm)
    clear h
    go_enter Tryd.func39, Tryd.ntmps39
    go_wp2_with fail
    refine (Check_ok w1 0 w.heap.size s1 A1 n1 c1 xs1 e1 g1 (by have := HS1.out; omega) hm).mono ?_
    rintro e w2 ⟨rfl, hB2⟩
    have hs2 := hB2.size
    replace g2 := g2.below hB2 (by have := HS1.out; omega)
    replace hb2 := (hB2.block _ (by have := HS1.out; omega)).trans hb2
    replace hB1 := hB1.trans (hB2.mono (by have := HS1.out; omega))
    clear hB2 p0 p1 p2 p3 p4 p5 q0 q1 q2 q3 q4 q5 hw1 hm
    obtain ⟨⟨q0, q1, q2⟩, q3, q4, q5⟩ := boxD hb2
    go_wp2_with fail
    refine (Check_bad w2 0 w.heap.size s2 A2 n2 c2 xs2 e2 g2 (by have := HS1.out; omega) hm2).mono ?_
    rintro e w3 ⟨rfl, hB2⟩
    replace hB1 := hB1.trans (hB2.mono (by have := HS1.out; omega))
    clear hB2 q0 q1 q2 q3 q4 q5 hm2
    go_wp2
    go_ret2
    exact ⟨rfl, hB1⟩
  · clear h
    go_enter Tryd.func39, Tryd.ntmps39
    go_wp2_with fail
    refine (Check_bad w1 0 w.heap.size s1 A1 n1 c1 xs1 e1 g1 (by have := HS1.out; omega) hm).mono ?_
    rintro e w2 ⟨rfl, hB2⟩
    replace hB1 := hB1.trans (hB2.mono (by have := HS1.out; omega))
    clear hB2 p0 p1 p2 p3 p4 p5 q0 q1 q2 q3 q4 q5 hw1 hm
    go_wp2
    go_ret2
    exact ⟨rfl, hB1⟩
open Classical in
noncomputable def cmpX (s1 : Bool) (xs1 : List Int) (e1 : Int) (s2 : Bool) (xs2 : List Int) (e2 : Int) : Int × Int := if MayD s1 xs1 e1 ∧ MayD s2 xs2 e2 then (cmpD (dn s1 xs1 e1) (dn s2 xs2 e2), 0) else (0, 8)
theorem Cmp_all (w : World) (s1 s2 : Bool) (A1 A2 : Option Addr) (n1 c1 n2 c2 : Nat) (xs1 xs2 : List Int) (e1 e2 : Int) (h1 : Ints w 0 w.heap.size .u32 A1 n1 xs1) (h2 : Ints w 0 w.heap.size .u32 A2 n2 xs2) (hT : Tab w) (z code : Int) (h : cmpX s1 xs1 e1 s2 xs2 e2 = (z, code)) :
    Calls Tryd.prog 39 #[.agg #[.bool s1, .slice A1 n1 c1, .int .i64 e1], .agg #[.bool s2, .slice A2 n2 c2, .int .i64 e2]] w fun e w' => e = .returned (.tuple #[.int .i64 z, .int .i64 code]) ∧ Below w.heap.size w w' := by
  unfold cmpX at h
  split at h
  · rename_i hm
    injection h with h3 h4
    subst h4
    obtain ⟨y1, c1', k1⟩ := dn_ok (dig_ints h1) hm.1
    obtain ⟨y2, c2', k2⟩ := dn_ok (dig_ints h2) hm.2
    have := Cmp_ok w (dn s1 xs1 e1) (dn s2 xs2 e2) y1 y2 A1 n1 c1 (by rw [c1']; exact h1) A2 n2 c2 (by rw [c2']; exact h2) hT z h3
    rw [k1, k2] at this
    exact this
  · rename_i hm
    injection h with h3 h4
    subst h3 h4
    exact Cmp_bad w s1 s2 A1 A2 n1 c1 n2 c2 xs1 xs2 e1 e2 h1 h2 (Classical.not_and_iff_not_or_not.1 hm)
end Dy
end Go.Proofs.YtlbkepiflhchdaaDoor
namespace Go.Proofs.YtlbkepiflhchdaaDoor
open Go.RowKit
namespace Dy
open Dp
/-- Cells that may be written. -/
def WrD (w : World) (b off n : Nat) : Prop := ∀ j, j < n → (∃ u, w.cell? ⟨b, off + j, none⟩ = some u) ∧ w.frozen? ⟨b, off + j, none⟩ = false
theorem WrD.set_ {w : World} {b off n : Nat} (h : WrD w b off n) (p : Addr) (v : Value) : WrD (w.setCell p v) b off n := fun j hj => by
  obtain ⟨⟨u, h1⟩, h2⟩ := h j hj
  refine ⟨?_, by rw [World.frozen?_setCell]; exact h2⟩
  by_cases e : p = ⟨b, off + j, none⟩
  · subst e
    exact ⟨v, World.cell?_setCell_same' _ _ _ (by rw [h1]; rfl)⟩
  · exact ⟨u, (World.cell?_setCell_other _ _ _ _ e).trans h1⟩
/-- What lies from hi on stays, too. -/
def From (hi : Nat) (w w' : World) : Prop := ∀ k, hi ≤ k → k < w.heap.size → w'.heap[k]? = w.heap[k]?
theorem From.setCell {hi : Nat} {w0 w : World} (h : From hi w0 w) {p : Addr} (hp : p.block < hi) (v : Value) : From hi w0 (w.setCell p v) := fun k h1 h2 => by
  rw [← h k h1 h2]
  exact Below.heap_setCell _ _ _ _ (by omega)
theorem ints_spoilt {w w' : World} {lo hi l h n : Nat} {k : IntKind} {A : Option Addr} {xs : List Int} (hI : Ints w l h k A n xs) (hb : Below lo w w') (hf : From hi w w') (hs : h ≤ w.heap.size) (hd : h ≤ lo ∨ hi ≤ l) : Ints w' l h k A n xs :=
  ⟨hI.len, hI.wf, hI.big, fun h0 => by
    obtain ⟨b, off, e, h1, h2, hc⟩ := hI.row h0
    have h3 : w'.heap[b]? = w.heap[b]? := by
      rcases hd with hd | hd
      · exact hb.block b (by omega)
      · exact hf b (by omega) (by omega)
    exact ⟨b, off, e, h1, h2, fun j hj => ⟨by rw [World.cell?_of_block h3]; exact (hc j hj).1, by rw [World.frozen?_of_block h3]; exact (hc j hj).2⟩⟩⟩
theorem box_spoilt {w w' : World} {lo hi g : Nat} {o : Obj} (h : w.heap[g]? = some o) (hb : Below lo w w') (hf : From hi w w') (hd : g < lo ∨ hi ≤ g) : w'.heap[g]? = some o := by
  rcases hd with hd | hd
  · exact (hb.block g hd).trans h
  · exact (hf g hd (Array.getElem?_eq_some_iff.1 h).1).trans h
theorem box_far {w : World} {g g' : Nat} (h : g ≠ g') (x y z : Value) : (((w.setCell ⟨g, 0, none⟩ x).setCell ⟨g, 1, none⟩ y).setCell ⟨g, 2, none⟩ z).heap[g']? = w.heap[g']? := by
  simp [World.setCell, Array.getElem?_modify, h]
theorem canon_big {w : World} {lo hi : Nat} {A : Option Addr} {n : Nat} {a : Dn} (h : Ints w lo hi .u32 A n (canon 4294967296 a.m)) (ha : a.May) : n ≤ 1000000 := Nat.le_trans (ints_may h ha) (by decide)
end Dy
end Go.Proofs.YtlbkepiflhchdaaDoor
namespace Go.Proofs.YtlbkepiflhchdaaDoor
open Go.RowKit
namespace Ma
open Dp Dy
attribute [local go_sem] Oper.semAt_some
def ResV (W : World) (lo : Nat) (r : Dn) (d : Dv) : Prop := d.s = r.neg ∧ d.e = r.e ∧ d.xs = canon 4294967296 r.m ∧ d.n ≤ d.c ∧ Ints W lo W.heap.size .u32 d.A d.n d.xs
noncomputable def xAdd (a b : Mv) (j : Nat) : Dn × Int := addX (a.get j).s (a.get j).xs (a.get j).e (b.get j).s (b.get j).xs (b.get j).e
/-- What stands amid the rounds. -/
structure EaAdd (w : World) (ge B : Nat) (a b : Mv) (pre : List Nat) (O : Nat → Prop) (W : World) (a' : Mv) (c : Int) : Prop where
  own : O w.heap.size ∧ O ge
  box : MBox W w.heap.size a'
  bbx : MBox W (w.heap.size + 1) b
  fn : W.heap[w.heap.size + 1 + 1]? = some (.cells #[.func (.func 20) #[] #[]] 29 (0, 0))
  res : MBox W (w.heap.size + 1 + 1 + 1) ZM
  ec : W.heap[ge]? = some (.cells #[.int .i64 c] 27 (0, 0))
  tab : Tab W
  bel : Below w.heap.size w W
  rest : c = 0 → ∀ j, j ∉ pre → j < 4 → a'.get j = a.get j
  done : c = 0 → ∀ j, j ∈ pre → j < 4 → (xAdd a b j).2 = 0 ∧ ResV W B (xAdd a b j).1 (a'.get j)
  bad : c ≠ 0 → c = 10 ∧ ∃ j, j < 4 ∧ (xAdd a b j).2 ≠ 0
theorem EaAdd.grown {w : World} {ge B : Nat} {a b : Mv} {pre : List Nat} {O : Nat → Prop} {W W' : World} {a' : Mv} {c : Int} {row : Option Nat} (h : EaAdd w ge B a b pre O W a' c) (hg : W.grownBy W' row) (h0 : 0 < w.heap.size)
    (hr : ∀ r, row = some r → (w.heap.size + 1 + 1 + 1 < r ∧ r ≠ ge) ∧ ((∃ o : Obj, W.heap[r]? = some o ∧ o.isCells = false) ∨ r < B)) : EaAdd w ge B a b pre O W' a' c where
  own := h.own
  box := (hg.block _ (lt_of_heap h.box) (fun e => by have := hr _ e.symm; omega)).trans h.box
  bbx := (hg.block _ (lt_of_heap h.bbx) (fun e => by have := hr _ e.symm; omega)).trans h.bbx
  fn := (hg.block _ (lt_of_heap h.fn) (fun e => by have := hr _ e.symm; omega)).trans h.fn
  res := (hg.block _ (lt_of_heap h.res) (fun e => by have := hr _ e.symm; omega)).trans h.res
  ec := (hg.block _ (lt_of_heap h.ec) (fun e => by have := hr _ e.symm; omega)).trans h.ec
  tab := h.tab.keep (hg.block 0 h.tab.lt (fun e => by have := hr _ e.symm; omega))
  bel := h.bel.grown hg h.bel.size (fun k e => by have := hr _ e; omega)
  rest := h.rest
  done := fun hc j h1 h2 => ⟨(h.done hc j h1 h2).1, (h.done hc j h1 h2).2.1, (h.done hc j h1 h2).2.2.1, (h.done hc j h1 h2).2.2.2.1, (h.done hc j h1 h2).2.2.2.2.1, (ints_own (h.done hc j h1 h2).2.2.2.2.2 hg (fun r e => (hr r e).2)).more (Nat.le_refl _) hg.size⟩
  bad := h.bad
noncomputable def xSub (a b : Mv) (j : Nat) : Dn × Int := subX (a.get j).s (a.get j).xs (a.get j).e (b.get j).s (b.get j).xs (b.get j).e
/-- What stands amid the rounds. -/
structure EaSub (w : World) (ge B : Nat) (a b : Mv) (pre : List Nat) (O : Nat → Prop) (W : World) (a' : Mv) (c : Int) : Prop where
  own : O w.heap.size ∧ O ge
  box : MBox W w.heap.size a'
  bbx : MBox W (w.heap.size + 1) b
  fn : W.heap[w.heap.size + 1 + 1]? = some (.cells #[.func (.func 22) #[] #[]] 29 (0, 0))
  res : MBox W (w.heap.size + 1 + 1 + 1) ZM
  ec : W.heap[ge]? = some (.cells #[.int .i64 c] 27 (0, 0))
  tab : Tab W
  bel : Below w.heap.size w W
  rest : c = 0 → ∀ j, j ∉ pre → j < 4 → a'.get j = a.get j
  done : c = 0 → ∀ j, j ∈ pre → j < 4 → (xSub a b j).2 = 0 ∧ ResV W B (xSub a b j).1 (a'.get j)
  bad : c ≠ 0 → c = 10 ∧ ∃ j, j < 4 ∧ (xSub a b j).2 ≠ 0
theorem EaSub.grown {w : World} {ge B : Nat} {a b : Mv} {pre : List Nat} {O : Nat → Prop} {W W' : World} {a' : Mv} {c : Int} {row : Option Nat} (h : EaSub w ge B a b pre O W a' c) (hg : W.grownBy W' row) (h0 : 0 < w.heap.size)
    (hr : ∀ r, row = some r → (w.heap.size + 1 + 1 + 1 < r ∧ r ≠ ge) ∧ ((∃ o : Obj, W.heap[r]? = some o ∧ o.isCells = false) ∨ r < B)) : EaSub w ge B a b pre O W' a' c where
  own := h.own
  box := (hg.block _ (lt_of_heap h.box) (fun e => by have := hr _ e.symm; omega)).trans h.box
  bbx := (hg.block _ (lt_of_heap h.bbx) (fun e => by have := hr _ e.symm; omega)).trans h.bbx
  fn := (hg.block _ (lt_of_heap h.fn) (fun e => by have := hr _ e.symm; omega)).trans h.fn
  res := (hg.block _ (lt_of_heap h.res) (fun e => by have := hr _ e.symm; omega)).trans h.res
  ec := (hg.block _ (lt_of_heap h.ec) (fun e => by have := hr _ e.symm; omega)).trans h.ec
  tab := h.tab.keep (hg.block 0 h.tab.lt (fun e => by have := hr _ e.symm; omega))
  bel := h.bel.grown hg h.bel.size (fun k e => by have := hr _ e; omega)
  rest := h.rest
  done := fun hc j h1 h2 => ⟨(h.done hc j h1 h2).1, (h.done hc j h1 h2).2.1, (h.done hc j h1 h2).2.2.1, (h.done hc j h1 h2).2.2.2.1, (h.done hc j h1 h2).2.2.2.2.1, (ints_own (h.done hc j h1 h2).2.2.2.2.2 hg (fun r e => (hr r e).2)).more (Nat.le_refl _) hg.size⟩
  bad := h.bad
end Ma
end Go.Proofs.YtlbkepiflhchdaaDoor
namespace Go.Proofs.YtlbkepiflhchdaaDoor
open Go.RowKit
namespace Ma
open Dp Dy
theorem chk_may {m : Mv} (h : m.may) : chkM m = 0 := if_pos h
theorem chk_not {m : Mv} (h : ¬ m.may) : chkM m = 8 := if_neg h
end Ma
end Go.Proofs.YtlbkepiflhchdaaDoor
namespace Go.Proofs.YtlbkepiflhchdaaDoor
open Go.RowKit
namespace Ma
open Dp Dy
theorem ints_rng {w w' : World} {lo hi n : Nat} {k : IntKind} {A : Option Addr} {xs : List Int} (h : Ints w lo hi k A n xs) (hk : ∀ b, lo ≤ b → b < hi → w'.heap[b]? = w.heap[b]?) : Ints w' lo hi k A n xs :=
  ⟨h.len, h.wf, h.big, fun h0 => by
    obtain ⟨b, off, e, h1, h2, hc⟩ := h.row h0
    have h3 := hk b h1 h2
    exact ⟨b, off, e, h1, h2, fun j hj => ⟨by rw [World.cell?_of_block h3]; exact (hc j hj).1, by rw [World.frozen?_of_block h3]; exact (hc j hj).2⟩⟩⟩
end Ma
end Go.Proofs.YtlbkepiflhchdaaDoor
namespace Go.Proofs.YtlbkepiflhchdaaDoor
open Go.RowKit
namespace Ma
open Dp Dy
theorem rows_rng {w w' : World} {lo hi : Nat} {m : Mv} (h : MRows w lo hi m) (hk : ∀ b, lo ≤ b → b < hi → w'.heap[b]? = w.heap[b]?) : MRows w' lo hi m := ⟨ints_rng h.S hk, ints_rng h.W hk, ints_rng h.C hk, ints_rng h.A hk⟩
end Ma
end Go.Proofs.YtlbkepiflhchdaaDoor
