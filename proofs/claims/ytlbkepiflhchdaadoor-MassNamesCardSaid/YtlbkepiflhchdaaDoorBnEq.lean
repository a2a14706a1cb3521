/- How two dyads stand: a walk (printed by a program of mine). -/
import Derived.Test.YtlbkepiflhchdaaDoorBn07
import Derived.Laws.StructEq
namespace Go.Proofs.YtlbkepiflhchdaaDoor
open Go.RowKit
namespace Dy
open Dp
theorem all_range (xs ys : List Int) : ∀ (n : Nat), xs.length = n → ys.length = n → ((List.range n).all fun i => xs.getD i 0 == ys.getD i 0) = (xs == ys)
  | n, hx, hy => by
    subst hx
    revert ys
    induction xs with
    | nil => intro ys hy; have : ys = [] := List.eq_nil_of_length_eq_zero hy; subst this; rfl
    | cons x xs ih =>
      intro ys hy
      cases ys with
      | nil => simp at hy
      | cons y ys =>
        have h := ih ys (by simpa using hy)
        rw [List.length_cons, List.range_succ_eq_map, List.all_cons, List.all_map]
        simp only [List.getD_cons_zero, Function.comp_def, List.getD_cons_succ, h]
        simp [List.cons_beq_cons]
theorem run_equalIn_rows {P : Program} (w : World) (d : Nat) (t e : TypeId) (n : Nat) (ht : P.underlying t = some (.array n e)) (he : P.underlying e = some (.int .u32)) (hsz : ∀ w, (sizeOf e).run P w = .ok 1 w)
    (xs ys : List Int) (hx : xs.length = n) (hy : ys.length = n) :
    (Op.equalIn (d + 2) t (.agg (rowU xs)) (.agg (rowU ys))).run P w = .ok (xs == ys) w := by
  rw [← all_range xs ys n hx hy, List.range_eq_range', Op.equalIn]
  simp only [Sem.run_bind, run_underlying ht, Result.andThen_ok, hsz, Std.Legacy.Range.forIn_eq_forIn_range', Std.Legacy.Range.size, Nat.sub_zero, Nat.add_sub_cancel, Nat.div_one]
  have hl : ∀ i ∈ List.range' 0 n 1, i < n := fun i hi => by simpa using (List.mem_range'_1.1 hi).2
  generalize List.range' 0 n 1 = l at hl ⊢
  induction l with
  | nil => simp
  | cons i l ih =>
    have hi : i < n := hl i (by simp)
    have px : (part e (rowU xs) (i * 1)).run P w = .ok (.int .u32 (xs.getD i 0)) w := by
      simp [part, isAgg, run_underlying he, rowU, List.getD, List.getElem?_eq_getElem (show i < xs.length by omega)]
    have py : (part e (rowU ys) (i * 1)).run P w = .ok (.int .u32 (ys.getD i 0)) w := by
      simp [part, isAgg, run_underlying he, rowU, List.getD, List.getElem?_eq_getElem (show i < ys.length by omega)]
    have pe : (Op.equalIn (d + 1) e (.int .u32 (xs.getD i 0)) (.int .u32 (ys.getD i 0))).run P w = .ok (xs.getD i 0 == ys.getD i 0) w :=
      run_equalIn_int w d e .u32 .u32 _ _ he
    simp only [List.forIn_cons, Sem.run_bind, px, py, pe, Result.andThen_ok, List.all_cons]
    cases hb : (xs.getD i 0 == ys.getD i 0)
    · simp
    · simp only [Bool.not_true, Bool.false_eq_true, if_false, Sem.run_pure, Result.andThen_ok, Bool.true_and]
      exact ih fun j hj => hl j (by simp [hj])
theorem run_eql_rows (w : World) (xs ys : List Int) (hx : xs.length = 74) (hy : ys.length = 74) :
    (binOp .eql 81 (.agg (rowU xs)) (.agg (rowU ys))).run Tryd.prog w = .ok (.bool (xs == ys)) w := by
  rw [run_eql_struct, run_equalIn_rows w 9998 81 52 74 Tryd.underlying81 Tryd.underlying52 (fun w => by kernel_rfl) xs ys hx hy]
  rfl
theorem rows_zero {vs : List Int} (hl : vs.length = 74) (hd : Dig 4294967296 vs) : (vs == zero74) = decide (num 4294967296 vs = 0) := by
  have hz : num 4294967296 zero74 = 0 := num_zeros _ _
  have hzd : Dig 4294967296 zero74 := dig_zeros 74
  by_cases h : num 4294967296 vs = 0
  · have he : vs = zero74 := by
      apply List.ext_getElem
      · rw [hl]; simp [zero74]
      · intro j h1 h2
        have k1 := digit (by decide) hd j
        have k2 := digit (by decide) hzd j
        rw [h] at k1
        rw [hz] at k2
        rw [List.getElem?_eq_getElem h1] at k1
        rw [List.getElem?_eq_getElem h2] at k2
        simp only [Option.getD_some] at k1 k2
        rw [k1, k2]
    simp [he, hz]
  · have he : vs ≠ zero74 := fun e => h (by rw [e]; exact hz)
    simp [h, he]
theorem eql_zero (w : World) (vs : List Int) (hl : vs.length = 74) (hd : Dig 4294967296 vs) (r : Bool) (hr : decide (num 4294967296 vs = 0) = r) :
    (Op.equalIn 10000 81 (.agg (rowU vs)) (.agg (rowU zero74))).run Tryd.prog w = .ok r w := by
  rw [← hr, ← rows_zero hl hd]
  exact run_equalIn_rows w 9998 81 52 74 Tryd.underlying81 Tryd.underlying52 (fun w => by kernel_rfl) vs zero74 hl (by simp [zero74])
theorem built_wide : Tryd.prog.built 81 [] = some (rowU zero74) := by
  have h1 := Tryd.info81
  have h2 := infoU32
  unfold Program.built
  cases hi : Tryd.prog.info? 81 with
  | none => rw [hi] at h1; cases h1
  | some it =>
    cases hj : Tryd.prog.info? 52 with
    | none => rw [hj] at h2; cases h2
    | some ie =>
      rw [hi] at h1
      simp only [Option.map_some, Option.some.injEq, Prod.mk.injEq] at h1
      rw [Tryd.underlying81]
      simp only [h1.1, hj]
      rfl
theorem wpList_build0 {ops : Array Oper} {rest : List Oper} {o : Oper} {a : Act} {w : World} {Q : Exit → Act → World → Prop} (hg : o.guard = none) (ho : o.op = .build 81 #[])
    (h : wpList Tryd.prog ops Q rest (a.put o.dst (.agg (rowU zero74))) w) : wpList Tryd.prog ops Q (o :: rest) a w := by
  have e : ((#[] : Array (Nat × Operand)).map fun (i, x) => (i, a.eval x)).toList = [] := by simp
  refine wpList_build hg 81 #[] ho (by rw [e, built_wide]; rfl) ?_
  rw [e, built_wide]
  exact h
end Dy
end Go.Proofs.YtlbkepiflhchdaaDoor
