/- A dyad under way: a walk. -/
import Derived.Test.YtlbkepiflhchdaaDoorDyW7
namespace Go.Proofs.YtlbkepiflhchdaaDoor
open Go.RowKit
namespace Dy
open Dp
theorem fold_over (off : Nat) : ∀ (vs old pre post : List Value) (k : Nat), old.length = vs.length → pre.length = off + k →
    (vs.zipIdx k).foldl (fun (cs : Array Value) (x : Value × Nat) => cs.setIfInBounds (off + x.2) x.1) (pre ++ (old ++ post)).toArray = (pre ++ (vs ++ post)).toArray
  | [], old, pre, post, k, h, _ => by
    have : old = [] := List.eq_nil_of_length_eq_zero h
    subst this
    rfl
  | v :: vs, [], pre, post, k, h, _ => by simp at h
  | v :: vs, u :: old, pre, post, k, h, hk => by
    have ih := fold_over off vs old (pre ++ [v]) post (k + 1) (by simpa using h) (by simp; omega)
    simp only [List.zipIdx_cons, List.foldl_cons]
    have e : ((pre ++ (u :: old ++ post)).toArray.setIfInBounds (off + k) v) = (pre ++ [v] ++ (old ++ post)).toArray := by
      rw [← hk]
      simp
    rw [e, ih]
    simp
theorem fill_one (place : Nat → Option (Nat × Nat)) (i off : Nat) (v : Array Value) (pre old post : List Value) (rest : List (Nat × Value)) (hp : place i = some (off, v.size)) (h1 : old.length = v.size) (h2 : pre.length = off) :
    Instr.fill place (pre ++ (old ++ post)).toArray ((i, .agg v) :: rest) = Instr.fill place (pre ++ (v.toList ++ post)).toArray rest := by
  have hf := fold_over off v.toList old pre post 0 (by simpa using h1) (by omega)
  have hc : (Value.agg v).cells = v := rfl
  have hz : (v.zipIdx.foldl (fun (cs : Array Value) (x : Value × Nat) => cs.setIfInBounds (off + x.2) x.1) (pre ++ (old ++ post)).toArray) = (pre ++ (v.toList ++ post)).toArray := by
    rw [← hf, ← Array.foldl_toList, Array.toList_zipIdx]
  simp only [Instr.fill, hp, hc]
  rw [if_neg (by simp; omega), hz]
theorem Tryd.info92 : (Tryd.prog.info? 92).map (·.zero) = some (some (.agg (#[.bool false, .slice none 0 0, .int .i64 0] ++ rowU zero74))) := by kernel_rfl
theorem places_sum : (Tryd.prog.underlying 92).map (fun d => match d with
    | .struct fields => fields.toList.mapM (fun f => (Tryd.prog.info? f.type).map fun i => (f.offset, i.size))
    | _ => none) = some (some [(0, 3), (3, 74)]) := by kernel_rfl
theorem built_sum (s : Bool) (L : Value) (ex : Int) (ws : List Int) (hl : ws.length = 74) :
    Tryd.prog.built 92 [(0, .agg #[.bool s, L, .int .i64 ex]), (1, .agg (rowU ws))] = some (#[.bool s, L, .int .i64 ex] ++ rowU ws) := by
  have h1 := Tryd.info92
  have h2 := places_sum
  unfold Program.built
  cases hi : Tryd.prog.info? 92 with
  | none => rw [hi] at h1; cases h1
  | some it =>
    cases hu : Tryd.prog.underlying 92 with
    | none => rw [hu] at h2; cases h2
    | some d =>
      rw [hi] at h1
      rw [hu] at h2
      simp only [Option.map_some, Option.some.injEq] at h1 h2
      cases d <;> first
        | (simp only at h2; cases h2; done)
        | skip
      simp only at h2 ⊢
      rw [h1, h2]
      simp only
      have e0 : (Value.agg (#[.bool false, .slice none 0 0, .int .i64 0] ++ rowU zero74)).cells = (([] : List Value) ++ ([Value.bool false, Value.slice none 0 0, Value.int .i64 0] ++ zero74.map (Value.int .u32))).toArray := by
        simp [Value.cells, rowU]
      have hz74 : (zero74.map (Value.int .u32)).length = 74 := by simp [zero74]
      rw [e0, fill_one _ 0 0 #[.bool s, L, .int .i64 ex] [] [Value.bool false, Value.slice none 0 0, Value.int .i64 0] _ _ (by rfl) (by rfl) (by rfl)]
      have e1 : (([] : List Value) ++ ((#[.bool s, L, .int .i64 ex] : Array Value).toList ++ zero74.map (Value.int .u32))).toArray = ([Value.bool s, L, Value.int .i64 ex] ++ (zero74.map (Value.int .u32) ++ [])).toArray := by simp
      rw [e1, fill_one _ 1 3 (rowU ws) [Value.bool s, L, Value.int .i64 ex] (zero74.map (Value.int .u32)) [] _ (by rw [rowU_size, hl]; rfl) (by rw [rowU_size, hl, hz74]) (by rfl)]
      simp [Instr.fill, rowU]
theorem exec_build2 {P : Program} {ev : Operand → Value} {op : Oper} {W : World} (t : TypeId) (i j : Nat) (x y : Operand) (ho : op.op = .build t #[(i, x), (j, y)]) (vx vy : Value) (hx : ev x = vx) (hy : ev y = vy) (cells : Array Value) (h : P.built t [(i, vx), (j, vy)] = some cells) :
    (execOp ev op).run P W = .ok (.value (.agg cells)) W := by
  have hm : P.built t ((#[(i, x), (j, y)] : Array (Nat × Operand)).map fun (i, x) => (i, ev x)).toList = some cells := by
    rw [← h, ← hx, ← hy]
    simp
  unfold execOp
  simp only [ho, Sem.run_bind, run_build W t _ cells hm, Result.andThen_ok, Sem.run_pure]
set_option maxHeartbeats 3200000 in
set_option maxRecDepth 100000 in
/-- dyad.of. -/
theorem of_any (w : World) (lo hi : Nat) (s : Bool) (A : Option Addr) (n c : Nat) (xs : List Int) (ex k : Nat) (hX : Ints w lo hi .u32 A n xs) (hhi : hi ≤ w.heap.size) (hd : Dig 4294967296 xs) (hn : n ≤ 40) (he : ex ≤ 2000) (hk : k ≤ 1024) (kk : Int) (hkk : kk = (ex : Int) + k) :
    Calls Tryd.prog 62 #[.agg #[.bool s, .slice A n c, .int .i64 ex], .int .i64 kk] w fun e w' => ∃ g ws, e = .returned (.pointer (some ⟨g, 0, none⟩)) ∧ Below w.heap.size w w' ∧ w.heap.size ≤ g ∧ g < w'.heap.size ∧ Sum w' g s (.slice none 0 0) kk ws ∧ num 4294967296 ws = num 4294967296 xs * 2 ^ k := by
  have HK := Lib.hid hkk
  have hX2 := hX.alloc hhi (.cells #[.bool s, .slice A n c, .int .i64 ex] 24)
  generalize hw1 : w.alloc (.cells #[.bool s, .slice A n c, .int .i64 ex] 24) = w1 at *
  have hbx : w1.heap[w.heap.size]? = some (.cells #[.bool s, .slice A n c, .int .i64 ex] 24 (0, 0)) := by rw [← hw1]; exact heap_alloc_last _ _
  have hs1 : w1.heap.size = w.heap.size + 1 := by rw [← hw1]; simp
  have HS1 := Lib.hid hs1
  have hB1 : Below w.heap.size w w1 := by rw [← hw1]; exact (Below.refl _ w).alloc (Nat.le_refl _) _
  clear hkk hs1
  go_enter Tryd.func62, Tryd.ntmps62
  go_wp2
  clear hw1
  have hSS : w1.drew.heap[w.heap.size]? = w1.heap[w.heap.size]? := rfl
  refine region_E (fun w' => w'.heap[w.heap.size]? = w1.heap[w.heap.size]?) [] (m := 10) (L := #[false, false, false, false, false, false, false, false, false, false]) (by kernel_rfl) (by rfl) (by rfl) ?_
  refine pureE (i := 0) (L := #[true, false, false, false, false, false, false, false, false, false]) (v := ?_) rfl (by rfl) (by kernel_rfl) (by kernel_rfl) (by kernel_rfl) (fun _ _ _ h => h) (by rfl) ?hy1 ?rest1
  case hy1 => intro w; go_simp; (try with_reducible rfl)
  try simp only [Act.put, List.setIfInBounds_toArray, List.set_cons_zero, List.set_cons_succ]
  refine readE (i := 1) (L := #[true, true, false, false, false, false, false, false, false, false]) (v := .bool s) rfl (by rfl) (by kernel_rfl) (by kernel_rfl) (by kernel_rfl) (fun _ _ _ h => h) (by assumption) (by rfl) ?hyA ?restA
  case hyA =>
    intro w' h1
    have k := (boxD (h1.trans hbx)).1.1
    go_simp
  try simp only [Act.put, List.setIfInBounds_toArray, List.set_cons_zero, List.set_cons_succ]
  refine pureE (i := 2) (L := #[true, true, true, false, false, false, false, false, false, false]) (v := ?_) rfl (by rfl) (by kernel_rfl) (by kernel_rfl) (by kernel_rfl) (fun _ _ _ h => h) (by rfl) ?hy3 ?rest3
  case hy3 => intro w; go_simp; (try with_reducible rfl)
  try simp only [Act.put, List.setIfInBounds_toArray, List.set_cons_zero, List.set_cons_succ]
  refine pureE (i := 3) (L := #[true, true, true, true, false, false, false, false, false, false]) (v := ?_) rfl (by rfl) (by kernel_rfl) (by kernel_rfl) (by kernel_rfl) (fun _ _ _ h => h) (by rfl) ?hy4 ?rest4
  case hy4 => intro w; go_simp; (try with_reducible rfl)
  try simp only [Act.put, List.setIfInBounds_toArray, List.set_cons_zero, List.set_cons_succ]
  refine readE (i := 4) (L := #[true, true, true, true, true, false, false, false, false, false]) (v := .agg #[.bool s, .slice A n c, .int .i64 ex]) rfl (by rfl) (by kernel_rfl) (by kernel_rfl) (by kernel_rfl) (fun _ _ _ h => h) (by assumption) (by rfl) ?hyB ?restB
  case hyB =>
    intro w' h1
    obtain ⟨⟨k1, k2, k3⟩, _⟩ := boxD (h1.trans hbx)
    go_simp
  try simp only [Act.put, List.setIfInBounds_toArray, List.set_cons_zero, List.set_cons_succ]
  refine pureE (i := 5) (L := #[true, true, true, true, true, true, false, false, false, false]) (v := ?_) rfl (by rfl) (by kernel_rfl) (by kernel_rfl) (by kernel_rfl) (fun _ _ _ h => h) (by rfl) ?hy6 ?rest6
  case hy6 => intro w; go_simp; (try with_reducible rfl)
  try simp only [Act.put, List.setIfInBounds_toArray, List.set_cons_zero, List.set_cons_succ]
  refine stepK (i := 6) (L := #[true, true, true, true, true, true, true, false, false, false]) rfl (by rfl) (by kernel_rfl) (by rfl) (fun K hK => ?_)
  go_simp
  go_at_call 64
  refine (widen_any w1.drew lo hi s A n c xs ex k (hX2.drewN 1) (by show hi ≤ w1.heap.size; have := HS1.out; omega) hd hn he hk kk HK.out).mono ?_
  rintro e w2 ⟨ws, rfl, hB2, hl, hdw, hnum⟩
  have hB2' : Below w1.heap.size w1 w2 := (Below.refl _ w1).drew.trans hB2
  have hbx2 := (hB2'.block w.heap.size (by have := HS1.out; omega)).trans hbx
  have hs2 := hB2'.size
  refine hK _ _ ⟨fun _ _ => hB2'.block w.heap.size (by have := HS1.out; omega), ?_⟩
  clear hK K
  try simp only [Act.put, List.setIfInBounds_toArray, List.set_cons_zero, List.set_cons_succ]
  have hbld := built_sum s (.slice none 0 0) kk ws hl
  refine pureE (i := 7) (L := #[true, true, true, true, true, true, true, true, false, false]) (v := .agg (#[.bool s, .slice none 0 0, .int .i64 kk] ++ rowU ws)) rfl (by rfl) (by kernel_rfl) (by kernel_rfl) (by kernel_rfl) (fun _ _ _ h => h) (by rfl) (fun W => exec_build2 92 0 1 (.tmp 8) (.tmp 11) (by rfl) _ _ (by rfl) (by rfl) _ hbld) ?_
  try simp only [Act.put, List.setIfInBounds_toArray, List.set_cons_zero, List.set_cons_succ]
  clear hbld
  
  generalize hC : #[Value.bool s, .slice none 0 0, .int .i64 kk] ++ rowU ws = C at *
  refine stepK (i := 8) (L := #[true, true, true, true, true, true, true, true, true, false]) rfl (by rfl) (by kernel_rfl) (by rfl) (fun K hK => ?_)
  go_simp
  refine hK _ _ ⟨fun _ h => (Below.heap_alloc _ _ _ (by have := HS1.out; omega)).trans h, ?_⟩
  clear hK K
  try simp only [Act.put, List.setIfInBounds_toArray, List.set_cons_zero, List.set_cons_succ]
  refine pureE (i := 9) (L := #[true, true, true, true, true, true, true, true, true, true]) (v := ?_) rfl (by rfl) (by kernel_rfl) (by kernel_rfl) (by kernel_rfl) (fun _ _ _ h => h) (by rfl) ?hy9 ?rest9
  case hy9 => intro w; go_simp; (try with_reducible rfl)
  try simp only [Act.put, List.setIfInBounds_toArray, List.set_cons_zero, List.set_cons_succ]
  refine doneE (by kernel_rfl) ?_ _
  go_wp2
  go_ret
  refine ⟨w2.heap.size, ws, rfl, ((hB1.trans (hB2'.mono (by have := HS1.out; omega))).alloc (by have := HS1.out; omega) _), by have := HS1.out; omega, by simp, ⟨?_, hl, hdw⟩, hnum⟩
  rw [heap_alloc_last, hC]
end Dy
end Go.Proofs.YtlbkepiflhchdaaDoor
