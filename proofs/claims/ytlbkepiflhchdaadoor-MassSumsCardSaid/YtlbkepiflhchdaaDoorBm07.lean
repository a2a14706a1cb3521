/- A dyad under way: a walk. -/
/- The exact sum: a walk. -/
/- Sums, differences, halves and comparisons of dyads that may not be; halves: walks. -/
/- The exact difference: walks. -/
import Derived.Test.YtlbkepiflhchdaaDoorBm06
namespace Go.Proofs.YtlbkepiflhchdaaDoor
open Go.RowKit
namespace Dy
open Dp
theorem fold_over (off : Nat) : ∀ (vs old pre post : List Value) (k : Nat), old.length = vs.length → pre.length = off + k →
    (vs.zipIdx k).foldl (fun (cs : Array Value) (x : Value × Nat) => cs.setIfInBounds (off + x.2) x.1) (pre ++ (old ++ post)).toArray = (pre ++ (vs ++ post)).toArray
  | [], old, pre, post, k, h, _ => by
    have : old = [] := List.eq_nil_of_length_eq_zero h
    subst this
    rfl
  | v :: vs, [], pre, post, k, h, _ => by simp at h
  | v :: vs, u :: old, pre, post, k, h, hk => by
    have ih := fold_over off vs old (pre ++ [v]) post (k + 1) (by simpa using h) (by simp; omega)
    simp only [List.zipIdx_cons, List.foldl_cons]
    have e : ((pre ++ (u :: old ++ post)).toArray.setIfInBounds (off + k) v) = (pre ++ [v] ++ (old ++ post)).toArray := by
      rw [← hk]
      simp
    rw [e, ih]
    simp
theorem fill_one (place : Nat → Option (Nat × Nat)) (i off : Nat) (v : Array Value) (pre old post : List Value) (rest : List (Nat × Value)) (hp : place i = some (off, v.size)) (h1 : old.length = v.size) (h2 : pre.length = off) :
    Instr.fill place (pre ++ (old ++ post)).toArray ((i, .agg v) :: rest) = Instr.fill place (pre ++ (v.toList ++ post)).toArray rest := by
  have hf := fold_over off v.toList old pre post 0 (by simpa using h1) (by omega)
  have hc : (Value.agg v).cells = v := rfl
  have hz : (v.zipIdx.foldl (fun (cs : Array Value) (x : Value × Nat) => cs.setIfInBounds (off + x.2) x.1) (pre ++ (old ++ post)).toArray) = (pre ++ (v.toList ++ post)).toArray := by
    rw [← hf, ← Array.foldl_toList, Array.toList_zipIdx]
  simp only [Instr.fill, hp, hc]
  rw [if_neg (by simp; omega), hz]
theorem Tryd.info92 : (Tryd.prog.info? 92).map (·.zero) = some (some (.agg (#[.bool false, .slice none 0 0, .int .i64 0] ++ rowU zero74))) := by kernel_rfl
theorem places_sum : (Tryd.prog.underlying 92).map (fun d => match d with
    | .struct fields => fields.toList.mapM (fun f => (Tryd.prog.info? f.type).map fun i => (f.offset, i.size))
    | _ => none) = some (some [(0, 3), (3, 74)]) := by kernel_rfl
theorem built_sum (s : Bool) (L : Value) (ex : Int) (ws : List Int) (hl : ws.length = 74) :
    Tryd.prog.built 92 [(0, .agg #[.bool s, L, .int .i64 ex]), (1, .agg (rowU ws))] = some (#[.bool s, L, .int .i64 ex] ++ rowU ws) := by
  have h1 := Tryd.info92
  have h2 := places_sum
  unfold Program.built
  cases hi : Tryd.prog.info? 92 with
  | none => rw [hi] at h1; cases h1
  | some it =>
    cases hu : Tryd.prog.underlying 92 with
    | none => rw [hu] at h2; cases h2
    | some d =>
      rw [hi] at h1
      rw [hu] at h2
      simp only [Option.map_some, Option.some.injEq] at h1 h2
      cases d <;> first
        | (simp only at h2; cases h2; done)
        | skip
      simp only at h2 ⊢
      rw [h1, h2]
      simp only
      have e0 : (Value.agg (#[.bool false, .slice none 0 0, .int .i64 0] ++ rowU zero74)).cells = (([] : List Value) ++ ([Value.bool false, Value.slice none 0 0, Value.int .i64 0] ++ zero74.map (Value.int .u32))).toArray := by
        simp [Value.cells, rowU]
      have hz74 : (zero74.map (Value.int .u32)).length = 74 := by simp [zero74]
      rw [e0, fill_one _ 0 0 #[.bool s, L, .int .i64 ex] [] [Value.bool false, Value.slice none 0 0, Value.int .i64 0] _ _ (by rfl) (by rfl) (by rfl)]
      have e1 : (([] : List Value) ++ ((#[.bool s, L, .int .i64 ex] : Array Value).toList ++ zero74.map (Value.int .u32))).toArray = ([Value.bool s, L, Value.int .i64 ex] ++ (zero74.map (Value.int .u32) ++ [])).toArray := by simp
      rw [e1, fill_one _ 1 3 (rowU ws) [Value.bool s, L, Value.int .i64 ex] (zero74.map (Value.int .u32)) [] _ (by rw [rowU_size, hl]; rfl) (by rw [rowU_size, hl, hz74]) (by rfl)]
      simp [Instr.fill, rowU]
theorem exec_build2 {P : Program} {ev : Operand → Value} {op : Oper} {W : World} (t : TypeId) (i j : Nat) (x y : Operand) (ho : op.op = .build t #[(i, x), (j, y)]) (vx vy : Value) (hx : ev x = vx) (hy : ev y = vy) (cells : Array Value) (h : P.built t [(i, vx), (j, vy)] = some cells) :
    (execOp ev op).run P W = .ok (.value (.agg cells)) W := by
  have hm : P.built t ((#[(i, x), (j, y)] : Array (Nat × Operand)).map fun (i, x) => (i, ev x)).toList = some cells := by
    rw [← h, ← hx, ← hy]
    simp
  unfold execOp
  simp only [ho, Sem.run_bind, run_build W t _ cells hm, Result.andThen_ok, Sem.run_pure]
set_option maxHeartbeats 3200000 in
set_option maxRecDepth 100000 in
/-- dyad.of. -/
theorem of_any (w : World) (lo hi : Nat) (s : Bool) (A : Option Addr) (n c : Nat) (xs : List Int) (ex k : Nat) (hX : Ints w lo hi .u32 A n xs) (hhi : hi ≤ w.heap.size) (hd : Dig 4294967296 xs) (hn : n ≤ 40) (he : ex ≤ 2000) (hk : k ≤ 1024) (kk : Int) (hkk : kk = (ex : Int) + k) :
    Calls Tryd.prog 62 #[.agg #[.bool s, .slice A n c, .int .i64 ex], .int .i64 kk] w fun e w' => ∃ g ws, e = .returned (.pointer (some ⟨g, 0, none⟩)) ∧ Below w.heap.size w w' ∧ w.heap.size ≤ g ∧ g < w'.heap.size ∧ Sum w' g s (.slice none 0 0) kk ws ∧ num 4294967296 ws = num 4294967296 xs * 2 ^ k := by
  have HK := Lib.hid hkk
  have hX2 := hX.alloc hhi (.cells #[.bool s, .slice A n c, .int .i64 ex] 24)
  generalize hw1 : w.alloc (.cells #[.bool s, .slice A n c, .int .i64 ex] 24) = w1 at *
  have hbx : w1.heap[w.heap.size]? = some (.cells #[.bool s, .slice A n c, .int .i64 ex] 24 (0, 0)) := by rw [← hw1]; exact heap_alloc_last _ _
  have hs1 : w1.heap.size = w.heap.size + 1 := by rw [← hw1]; simp
  have HS1 := Lib.hid hs1
  have hB1 : Below w.heap.size w w1 := by rw [← hw1]; exact (Below.refl _ w).alloc (Nat.le_refl _) _
  clear hkk hs1
  go_enter Tryd.func62, Tryd.ntmps62
  go_wp2
  clear hw1
  have hSS : w1.drew.heap[w.heap.size]? = w1.heap[w.heap.size]? := rfl
  refine region_E (fun w' => w'.heap[w.heap.size]? = w1.heap[w.heap.size]?) [] (m := 10) (L := #[false, false, false, false, false, false, false, false, false, false]) (by kernel_rfl) (by rfl) (by rfl) ?_
  refine pureE (i := 0) (L := #[true, false, false, false, false, false, false, false, false, false]) (v := ?_) rfl (by rfl) (by kernel_rfl) (by kernel_rfl) (by kernel_rfl) (fun _ _ _ h => h) (by rfl) ?hy1 ?rest1
  case hy1 => intro w; go_simp; (try with_reducible rfl)
  try simp only [Act.put, List.setIfInBounds_toArray, List.set_cons_zero, List.set_cons_succ]
  refine readE (i := 1) (L := #[true, true, false, false, false, false, false, false, false, false]) (v := .bool s) rfl (by rfl) (by kernel_rfl) (by kernel_rfl) (by kernel_rfl) (fun _ _ _ h => h) (by assumption) (by rfl) ?hyA ?restA
  case hyA =>
    intro w' h1
    have k := (boxD (h1.trans hbx)).1.1
    go_simp
  try simp only [Act.put, List.setIfInBounds_toArray, List.set_cons_zero, List.set_cons_succ]
  refine pureE (i := 2) (L := #[true, true, true, false, false, false, false, false, false, false]) (v := ?_) rfl (by rfl) (by kernel_rfl) (by kernel_rfl) (by kernel_rfl) (fun _ _ _ h => h) (by rfl) ?hy3 ?rest3
  case hy3 => intro w; go_simp; (try with_reducible rfl)
  try simp only [Act.put, List.setIfInBounds_toArray, List.set_cons_zero, List.set_cons_succ]
  refine pureE (i := 3) (L := #[true, true, true, true, false, false, false, false, false, false]) (v := ?_) rfl (by rfl) (by kernel_rfl) (by kernel_rfl) (by kernel_rfl) (fun _ _ _ h => h) (by rfl) ?hy4 ?rest4
  case hy4 => intro w; go_simp; (try with_reducible rfl)
  try simp only [Act.put, List.setIfInBounds_toArray, List.set_cons_zero, List.set_cons_succ]
  refine readE (i := 4) (L := #[true, true, true, true, true, false, false, false, false, false]) (v := .agg #[.bool s, .slice A n c, .int .i64 ex]) rfl (by rfl) (by kernel_rfl) (by kernel_rfl) (by kernel_rfl) (fun _ _ _ h => h) (by assumption) (by rfl) ?hyB ?restB
  case hyB =>
    intro w' h1
    obtain ⟨⟨k1, k2, k3⟩, _⟩ := boxD (h1.trans hbx)
    go_simp
  try simp only [Act.put, List.setIfInBounds_toArray, List.set_cons_zero, List.set_cons_succ]
  refine pureE (i := 5) (L := #[true, true, true, true, true, true, false, false, false, false]) (v := ?_) rfl (by rfl) (by kernel_rfl) (by kernel_rfl) (by kernel_rfl) (fun _ _ _ h => h) (by rfl) ?hy6 ?rest6
  case hy6 => intro w; go_simp; (try with_reducible rfl)
  try simp only [Act.put, List.setIfInBounds_toArray, List.set_cons_zero, List.set_cons_succ]
  refine stepK (i := 6) (L := #[true, true, true, true, true, true, true, false, false, false]) rfl (by rfl) (by kernel_rfl) (by rfl) (fun K hK => ?_)
  go_simp
  go_at_call 64
  refine (widen_any w1.drew lo hi s A n c xs ex k (hX2.drewN 1) (by show hi ≤ w1.heap.size; have := HS1.out; omega) hd hn he hk kk HK.out).mono ?_
  rintro e w2 ⟨ws, rfl, hB2, hl, hdw, hnum⟩
  have hB2' : Below w1.heap.size w1 w2 := (Below.refl _ w1).drew.trans hB2
  have hbx2 := (hB2'.block w.heap.size (by have := HS1.out; omega)).trans hbx
  have hs2 := hB2'.size
  refine hK _ _ ⟨fun _ _ => hB2'.block w.heap.size (by have := HS1.out; omega), ?_⟩
  clear hK K
  try simp only [Act.put, List.setIfInBounds_toArray, List.set_cons_zero, List.set_cons_succ]
  have hbld := built_sum s (.slice none 0 0) kk ws hl
  refine pureE (i := 7) (L := #[true, true, true, true, true, true, true, true, false, false]) (v := .agg (#[.bool s, .slice none 0 0, .int .i64 kk] ++ rowU ws)) rfl (by rfl) (by kernel_rfl) (by kernel_rfl) (by kernel_rfl) (fun _ _ _ h => h) (by rfl) (fun W => exec_build2 92 0 1 (.tmp 8) (.tmp 11) (by rfl) _ _ (by rfl) (by rfl) _ hbld) ?_
  try simp only [Act.put, List.setIfInBounds_toArray, List.set_cons_zero, List.set_cons_succ]
  clear hbld
  
  generalize hC : #[Value.bool s, .slice none 0 0, .int .i64 kk] ++ rowU ws = C at *
  refine stepK (i := 8) (L := #[true, true, true, true, true, true, true, true, true, false]) rfl (by rfl) (by kernel_rfl) (by rfl) (fun K hK => ?_)
  go_simp
  refine hK _ _ ⟨fun _ h => (Below.heap_alloc _ _ _ (by have := HS1.out; omega)).trans h, ?_⟩
  clear hK K
  try simp only [Act.put, List.setIfInBounds_toArray, List.set_cons_zero, List.set_cons_succ]
  refine pureE (i := 9) (L := #[true, true, true, true, true, true, true, true, true, true]) (v := ?_) rfl (by rfl) (by kernel_rfl) (by kernel_rfl) (by kernel_rfl) (fun _ _ _ h => h) (by rfl) ?hy9 ?rest9
  case hy9 => intro w; go_simp; (try with_reducible rfl)
  try simp only [Act.put, List.setIfInBounds_toArray, List.set_cons_zero, List.set_cons_succ]
  refine doneE (by kernel_rfl) ?_ _
  go_wp2
  go_ret
  refine ⟨w2.heap.size, ws, rfl, ((hB1.trans (hB2'.mono (by have := HS1.out; omega))).alloc (by have := HS1.out; omega) _), by have := HS1.out; omega, by simp, ⟨?_, hl, hdw⟩, hnum⟩
  rw [heap_alloc_last, hC]
end Dy
end Go.Proofs.YtlbkepiflhchdaaDoor

namespace Go.Proofs.YtlbkepiflhchdaaDoor
open Go.RowKit
namespace Dy
open Dp
theorem ints_may {w : World} {lo hi : Nat} {A : Option Addr} {n : Nat} {a : Dn} (h : Ints w lo hi .u32 A n (canon 4294967296 a.m)) (ha : a.May) : n ≤ 40 := by
  have h1 := (dn_may ha).1.1
  have h2 := h.len
  omega
def roomE : Nat := 2304
theorem shift_lt {m k : Nat} (h : m < capD) (hk : k ≤ 1024) : m * 2 ^ k < 2 ^ roomE := by
  have h1 : m * 2 ^ k < capD * 2 ^ k := Nat.mul_lt_mul_of_pos_right h (Nat.pow_pos (by decide))
  have h2 : capD * 2 ^ k ≤ 2 ^ roomE := by
    rw [capD_eq, ← Nat.pow_add]
    exact Nat.pow_le_pow_right (by decide) (by rw [capE_eq]; show 1280 + k ≤ 2304; omega)
  exact Nat.lt_of_lt_of_le h1 h2
theorem sum_room {x y : Nat} (hx : x < 2 ^ roomE) (hy : y < 2 ^ roomE) : x + y < 4294967296 ^ 74 := by
  rw [pow32]
  obtain ⟨e, he⟩ : ∃ e, e = 32 * 74 := ⟨_, rfl⟩
  rw [← he]
  have he2 : roomE + 1 ≤ e := by rw [he]; show 2304 + 1 ≤ 32 * 74; decide
  have h : 2 ^ roomE + 2 ^ roomE ≤ 2 ^ e := by
    rw [← Nat.two_mul, ← Nat.pow_succ']
    exact Nat.pow_le_pow_right (by decide) he2
  exact Nat.lt_of_lt_of_le (Nat.add_lt_add hx hy) h
set_option maxHeartbeats 6400000 in
set_option maxRecDepth 100000 in
/-- dyad.Add: dyads that may be. -/
theorem Add_ok (w : World) (a b : Dn) (ha : a.May) (hb : b.May) (A1 : Option Addr) (n1 c1 : Nat) (h1 : Ints w 0 w.heap.size .u32 A1 n1 (canon 4294967296 a.m)) (A2 : Option Addr) (n2 c2 : Nat) (h2 : Ints w 0 w.heap.size .u32 A2 n2 (canon 4294967296 b.m)) (hT : Tab w) (r : Dn) (code : Int) (h : addD a b = (r, code)) :
    Calls Tryd.prog 20 #[.agg #[.bool a.neg, .slice A1 n1 c1, .int .i64 a.e], .agg #[.bool b.neg, .slice A2 n2 c2, .int .i64 b.e]] w (Formed w r code) := by
  have hn1 := ints_may h1 ha
  have hn2 := ints_may h2 hb
  have HM1 := Lib.hid (dn_may ha)
  have HM2 := Lib.hid (dn_may hb)
  have hae := ha.2.1
  have hbe := hb.2.1
  obtain ⟨sd1, _, sn1⟩ := canon_spec 4294967296 a.m (by decide)
  obtain ⟨sd2, _, sn2⟩ := canon_spec 4294967296 b.m (by decide)
  have SN1 := Lib.hid sn1
  have SN2 := Lib.hid sn2
  have H := Lib.hid h
  obtain ⟨M, hK⟩ : ∃ M, max a.e b.e = M := ⟨_, rfl⟩
  have HK := Lib.hid hK
  have hK1 : a.e ≤ M := by omega
  have hK2 : b.e ≤ M := by omega
  have hK3 : M ≤ 1024 := by omega
  have hkab : (a.e < b.e ∧ M = b.e) ∨ (¬ a.e < b.e ∧ M = a.e) := by omega
  generalize hm1 : canon 4294967296 a.m = xs1 at *
  generalize hm2 : canon 4294967296 b.m = xs2 at *
  clear h sn1 sn2 hK hm1 hm2
  generalize hw1 : ((w.alloc (.cells #[.bool a.neg, .slice A1 n1 c1, .int .i64 a.e] 24)).alloc (.cells #[.bool b.neg, .slice A2 n2 c2, .int .i64 b.e] 24)).alloc (.cells #[.bool false, .slice none 0 0, .int .i64 0] 24) = w1
  have hs1 : w1.heap.size = w.heap.size + 3 := by rw [← hw1]; simp
  have HS1 := Lib.hid hs1
  have hB1 : Below w.heap.size w w1 := by rw [← hw1]; exact (((Below.refl _ w).alloc (Nat.le_refl _) _).alloc (by simp) _).alloc (by simp; omega) _
  have hb1 : w1.heap[w.heap.size]? = some (.cells #[.bool a.neg, .slice A1 n1 c1, .int .i64 a.e] 24 (0, 0)) := by
    rw [← hw1, Below.heap_alloc _ _ _ (by simp; omega), Below.heap_alloc _ _ _ (by simp)]
    exact heap_alloc_last _ _
  have hb2 : w1.heap[w.heap.size + 1]? = some (.cells #[.bool b.neg, .slice A2 n2 c2, .int .i64 b.e] 24 (0, 0)) := by
    rw [← hw1, Below.heap_alloc _ _ _ (by simp)]
    exact heap_alloc2_new _ _ _
  have hb3 : w1.heap[w.heap.size + 1 + 1]? = some (.cells #[.bool false, .slice none 0 0, .int .i64 0] 24 (0, 0)) := by
    rw [← hw1]
    have := heap_alloc_last ((w.alloc (.cells #[.bool a.neg, .slice A1 n1 c1, .int .i64 a.e] 24)).alloc (.cells #[.bool b.neg, .slice A2 n2 c2, .int .i64 b.e] 24)) (.cells #[.bool false, .slice none 0 0, .int .i64 0] 24)
    simpa using this
  have g1 := h1.below hB1 (Nat.le_refl _)
  have g2 := h2.below hB1 (Nat.le_refl _)
  have hT1 := hT.below hB1 hT.lt
  have h0 := hT.lt
  clear hs1
  obtain ⟨⟨p0, p1, p2⟩, p3, p4, p5⟩ := boxD hb1
  obtain ⟨⟨q0, q1, q2⟩, q3, q4, q5⟩ := boxD hb2
  go_enter Tryd.func20, Tryd.ntmps20
  go_wp2_with fail
  refine (Check_ok w1 0 w.heap.size a.neg A1 n1 c1 xs1 a.e g1 (by have := HS1.out; omega) HM1.out).mono ?_
  rintro e w2 ⟨rfl, hB2⟩
  have hs2 := hB2.size
  replace g1 := g1.below hB2 (by have := HS1.out; omega)
  replace g2 := g2.below hB2 (by have := HS1.out; omega)
  replace hT1 := hT1.below hB2 (by have := HS1.out; omega)
  replace hb1 := (hB2.block _ (by have := HS1.out; omega)).trans hb1
  replace hb2 := (hB2.block _ (by have := HS1.out; omega)).trans hb2
  replace hb3 := (hB2.block _ (by have := HS1.out; omega)).trans hb3
  replace hB1 := hB1.trans (hB2.mono (by have := HS1.out; omega))
  clear hB2 p0 p1 p2 p3 p4 p5 q0 q1 q2 q3 q4 q5 hw1
  obtain ⟨⟨p0, p1, p2⟩, p3, p4, p5⟩ := boxD hb1
  obtain ⟨⟨q0, q1, q2⟩, q3, q4, q5⟩ := boxD hb2
  go_wp2_with fail
  refine (Check_ok w2 0 w.heap.size b.neg A2 n2 c2 xs2 b.e g2 (by have := HS1.out; omega) HM2.out).mono ?_
  rintro e w3 ⟨rfl, hB2⟩
  have hs3 := hB2.size
  replace g1 := g1.below hB2 (by have := HS1.out; omega)
  replace g2 := g2.below hB2 (by have := HS1.out; omega)
  replace hT1 := hT1.below hB2 (by have := HS1.out; omega)
  replace hb1 := (hB2.block _ (by have := HS1.out; omega)).trans hb1
  replace hb2 := (hB2.block _ (by have := HS1.out; omega)).trans hb2
  replace hb3 := (hB2.block _ (by have := HS1.out; omega)).trans hb3
  replace hB1 := hB1.trans (hB2.mono (by have := HS1.out; omega))
  clear hB2 p0 p1 p2 p3 p4 p5 q0 q1 q2 q3 q4 q5
  obtain ⟨⟨p0, p1, p2⟩, p3, p4, p5⟩ := boxD hb1
  obtain ⟨⟨q0, q1, q2⟩, q3, q4, q5⟩ := boxD hb2
  rcases hkab with ⟨hkl, hke⟩ | ⟨hkl, hke⟩
  · have HKE := Lib.hid hke
    clear hke
    go_wp2_with fail
    refine (of_any w3 0 w.heap.size a.neg A1 n1 c1 xs1 a.e (M - a.e) g1 (by have := HS1.out; omega) sd1 hn1 (by omega) (by omega) _ (by have := HKE.out; omega)).mono ?_
    rintro e w4 ⟨g, ws, rfl, hB4, hg1, hg2, hS4, hnw⟩
    have hs4 := hB4.size
    replace g1 := g1.below hB4 (by have := HS1.out; omega)
    replace g2 := g2.below hB4 (by have := HS1.out; omega)
    replace hT1 := hT1.below hB4 (by have := HS1.out; omega)
    replace hb1 := (hB4.block _ (by have := HS1.out; omega)).trans hb1
    replace hb2 := (hB4.block _ (by have := HS1.out; omega)).trans hb2
    replace hb3 := (hB4.block _ (by have := HS1.out; omega)).trans hb3
    replace hB1 := hB1.trans (hB4.mono (by have := HS1.out; omega))
    have HNW := Lib.hid hnw
    clear hB4 p0 p1 p2 p3 p4 p5 q0 q1 q2 q3 q4 q5 hnw
    go_wp2_with fail
    have hSS : w4.drew.heap[w.heap.size + 1]? = w4.heap[w.heap.size + 1]? := rfl
    refine region_E (fun w' => w'.heap[w.heap.size + 1]? = w4.heap[w.heap.size + 1]?) [] (m := 7) (L := #[false, false, false, false, false, false, false]) (by kernel_rfl) (by rfl) (by rfl) ?_
    refine pureE (i := 0) (L := #[true, false, false, false, false, false, false]) (v := ?_) rfl (by rfl) (by kernel_rfl) (by kernel_rfl) (by kernel_rfl) (fun _ _ _ h => h) (by rfl) ?hy10 ?rest10
    case hy10 => intro w; go_simp; (try with_reducible rfl)
    try simp only [Act.put, List.setIfInBounds_toArray, List.set_cons_zero, List.set_cons_succ]
    refine pureE (i := 1) (L := #[true, true, false, false, false, false, false]) (v := ?_) rfl (by rfl) (by kernel_rfl) (by kernel_rfl) (by kernel_rfl) (fun _ _ _ h => h) (by rfl) ?hy11 ?rest11
    case hy11 => intro w; go_simp; (try with_reducible rfl)
    try simp only [Act.put, List.setIfInBounds_toArray, List.set_cons_zero, List.set_cons_succ]
    refine readE (i := 2) (L := #[true, true, true, false, false, false, false]) (v := .bool b.neg) rfl (by rfl) (by kernel_rfl) (by kernel_rfl) (by kernel_rfl) (fun _ _ _ h => h) (by assumption) (by rfl) ?hyA1 ?restA1
    case hyA1 =>
      intro w' h1
      have k := (boxD (h1.trans hb2)).1.1
      go_simp
    try simp only [Act.put, List.setIfInBounds_toArray, List.set_cons_zero, List.set_cons_succ]
    refine readE (i := 3) (L := #[true, true, true, true, false, false, false]) (v := .agg #[.bool b.neg, .slice A2 n2 c2, .int .i64 b.e]) rfl (by rfl) (by kernel_rfl) (by kernel_rfl) (by kernel_rfl) (fun _ _ _ h => h) (by assumption) (by rfl) ?hyB1 ?restB1
    case hyB1 =>
      intro w' h1
      obtain ⟨⟨k1, k2, k3⟩, _⟩ := boxD (h1.trans hb2)
      go_simp
    try simp only [Act.put, List.setIfInBounds_toArray, List.set_cons_zero, List.set_cons_succ]
    refine pureE (i := 4) (L := #[true, true, true, true, true, false, false]) (v := ?_) rfl (by rfl) (by kernel_rfl) (by kernel_rfl) (by kernel_rfl) (fun _ _ _ h => h) (by rfl) ?hy14 ?rest14
    case hy14 => intro w; go_simp; (try with_reducible rfl)
    try simp only [Act.put, List.setIfInBounds_toArray, List.set_cons_zero, List.set_cons_succ]
    refine stepK (i := 5) (L := #[true, true, true, true, true, true, false]) rfl (by rfl) (by kernel_rfl) (by rfl) (fun K hK => ?_)
    go_simp
    go_at_call 64
    refine (widen_any w4.drew 0 w.heap.size b.neg A2 n2 c2 xs2 b.e (M - b.e) (g2.drewN 1) (by show w.heap.size ≤ w4.heap.size; have := HS1.out; omega) sd2 hn2 (by omega) (by omega) _ (by have := HKE.out; omega)).mono ?_
    rintro e w5 ⟨us, rfl, hB5', hul, hud, hnu⟩
    have hB5 : Below w4.heap.size w4 w5 := (Below.refl _ w4).drew.trans hB5'
    clear hB5'
    have hs5 := hB5.size
    replace g1 := g1.below hB5 (by have := HS1.out; omega)
    replace hT1 := hT1.below hB5 (by have := HS1.out; omega)
    have hb2' := hB5.block (w.heap.size + 1) (by have := HS1.out; omega)
    replace hb3 := (hB5.block _ (by have := HS1.out; omega)).trans hb3
    replace hB1 := hB1.trans (hB5.mono (by have := HS1.out; omega))
    have hS5 := hS4.of_heap (hB5.block g hg2)
    have HNU := Lib.hid hnu
    clear hB5 hnu hS4
    refine hK _ _ ⟨fun _ _ => hb2', ?_⟩
    clear hK K
    try simp only [Act.put, List.setIfInBounds_toArray, List.set_cons_zero, List.set_cons_succ]
    obtain ⟨sr, mr, hpl⟩ : ∃ sr mr, plusS a.neg (num 4294967296 ws) b.neg (num 4294967296 us) = (sr, mr) := ⟨_, _, rfl⟩
    have hroom : num 4294967296 ws + num 4294967296 us < 4294967296 ^ 74 := by
      rw [HNW.out, HNU.out, SN1.out, SN2.out]
      exact sum_room (shift_lt ha.1 (by omega)) (shift_lt hb.1 (by omega))
    have hform : formed sr mr M = (r, code) := by
      have h1 := H.out
      unfold addD at h1
      rw [HK.out] at h1
      rw [HNW.out, HNU.out, SN1.out, SN2.out] at hpl
      rw [hpl] at h1
      exact h1
    have HPL := Lib.hid hpl
    have HR := Lib.hid hroom
    have HF := Lib.hid hform
    clear hpl hroom hform
    refine stepK (i := 6) (L := #[true, true, true, true, true, true, true]) rfl (by rfl) (by kernel_rfl) (by rfl) (fun K hK => ?_)
    go_simp
    go_at_call 63
    refine (add_any w5 g a.neg b.neg _ _ ws us hS5 (by omega) hul hud HR.out sr mr HPL.out).mono ?_
    rintro e w6 ⟨rfl, hO6, vs, hS6, hnv⟩
    have hs6 := hO6.size
    replace g1 := g1
    have hb6 := (hO6.block (w.heap.size + 1 + 1) (by have := HS1.out; omega) (by have := HS1.out; omega)).trans hb3
    have hT6 := hT1.keep (hO6.block 0 (by omega) (by have := HS1.out; omega))
    have hB6 := hO6.below hB1 (by have := HS1.out; omega) (by have := HS1.out; omega)
    refine hK _ _ ⟨fun _ h => (hO6.block _ (by have := HS1.out; omega) (by have := HS1.out; omega)).trans h, ?_⟩
    clear hK K hO6 g1 hb3 hT1 hB1 hS5
    try simp only [Act.put, List.setIfInBounds_toArray, List.set_cons_zero, List.set_cons_succ]
    refine doneE (by kernel_rfl) ?_ _
    go_wp2_with fail
    have hf : formed sr (num 4294967296 vs) b.e = (r, code) := by rw [hnv, ← HKE.out]; exact HF.out
    refine (form_any w6 g (by omega) sr _ b.e (by omega) vs hS6 hT6 r code hf).mono ?_
    rintro e w7 ⟨A', n', c', rfl, hc', hB7, hI7⟩
    have hs7 := hB7.size
    have hb7 := (hB7.block _ (by have := HS1.out; omega)).trans hb6
    have hBB := hB6.trans (hB7.mono (by have := HS1.out; omega))
    have HI := Lib.hid hI7
    obtain ⟨⟨x0, x1, x2⟩, x3, x4, x5⟩ := boxD hb7
    clear hf hS6 hT6 hB6 hb6 hB7 hI7 hnv
    go_wp2
    refine bodyPost_ret (v := .tuple #[.agg #[.bool r.neg, .slice A' n' c', .int .i64 r.e], .int .i64 code]) (by simp [results, Tryd.results20, go_sem, x0, x1, x2]) rfl ⟨A', n', c', rfl, hc', ?_, ?_⟩
    · exact ((hBB.setCell (by simp; omega) _).setCell (by simp; omega) _).setCell (by simp; omega) _
    · refine Ints.more (lo := w6.heap.size) (hi := w7.heap.size) ?_ (by have := HS1.out; omega) (by simp [World.setCell])
      exact ints_far (ints_far (ints_far HI.out (.inl (by have := HS1.out; simp; omega)) _) (.inl (by have := HS1.out; simp; omega)) _) (.inl (by have := HS1.out; simp; omega)) _
  · have HKE := Lib.hid hke
    clear hke
    go_wp2_with fail
    refine (of_any w3 0 w.heap.size a.neg A1 n1 c1 xs1 a.e (M - a.e) g1 (by have := HS1.out; omega) sd1 hn1 (by omega) (by omega) _ (by have := HKE.out; omega)).mono ?_
    rintro e w4 ⟨g, ws, rfl, hB4, hg1, hg2, hS4, hnw⟩
    have hs4 := hB4.size
    replace g1 := g1.below hB4 (by have := HS1.out; omega)
    replace g2 := g2.below hB4 (by have := HS1.out; omega)
    replace hT1 := hT1.below hB4 (by have := HS1.out; omega)
    replace hb1 := (hB4.block _ (by have := HS1.out; omega)).trans hb1
    replace hb2 := (hB4.block _ (by have := HS1.out; omega)).trans hb2
    replace hb3 := (hB4.block _ (by have := HS1.out; omega)).trans hb3
    replace hB1 := hB1.trans (hB4.mono (by have := HS1.out; omega))
    have HNW := Lib.hid hnw
    clear hB4 p0 p1 p2 p3 p4 p5 q0 q1 q2 q3 q4 q5 hnw
    go_wp2_with fail
    have hSS : w4.drew.heap[w.heap.size + 1]? = w4.heap[w.heap.size + 1]? := rfl
    refine region_E (fun w' => w'.heap[w.heap.size + 1]? = w4.heap[w.heap.size + 1]?) [] (m := 7) (L := #[false, false, false, false, false, false, false]) (by kernel_rfl) (by rfl) (by rfl) ?_
    refine pureE (i := 0) (L := #[true, false, false, false, false, false, false]) (v := ?_) rfl (by rfl) (by kernel_rfl) (by kernel_rfl) (by kernel_rfl) (fun _ _ _ h => h) (by rfl) ?hy17 ?rest17
    case hy17 => intro w; go_simp; (try with_reducible rfl)
    try simp only [Act.put, List.setIfInBounds_toArray, List.set_cons_zero, List.set_cons_succ]
    refine pureE (i := 1) (L := #[true, true, false, false, false, false, false]) (v := ?_) rfl (by rfl) (by kernel_rfl) (by kernel_rfl) (by kernel_rfl) (fun _ _ _ h => h) (by rfl) ?hy18 ?rest18
    case hy18 => intro w; go_simp; (try with_reducible rfl)
    try simp only [Act.put, List.setIfInBounds_toArray, List.set_cons_zero, List.set_cons_succ]
    refine readE (i := 2) (L := #[true, true, true, false, false, false, false]) (v := .bool b.neg) rfl (by rfl) (by kernel_rfl) (by kernel_rfl) (by kernel_rfl) (fun _ _ _ h => h) (by assumption) (by rfl) ?hyA2 ?restA2
    case hyA2 =>
      intro w' h1
      have k := (boxD (h1.trans hb2)).1.1
      go_simp
    try simp only [Act.put, List.setIfInBounds_toArray, List.set_cons_zero, List.set_cons_succ]
    refine readE (i := 3) (L := #[true, true, true, true, false, false, false]) (v := .agg #[.bool b.neg, .slice A2 n2 c2, .int .i64 b.e]) rfl (by rfl) (by kernel_rfl) (by kernel_rfl) (by kernel_rfl) (fun _ _ _ h => h) (by assumption) (by rfl) ?hyB2 ?restB2
    case hyB2 =>
      intro w' h1
      obtain ⟨⟨k1, k2, k3⟩, _⟩ := boxD (h1.trans hb2)
      go_simp
    try simp only [Act.put, List.setIfInBounds_toArray, List.set_cons_zero, List.set_cons_succ]
    refine pureE (i := 4) (L := #[true, true, true, true, true, false, false]) (v := ?_) rfl (by rfl) (by kernel_rfl) (by kernel_rfl) (by kernel_rfl) (fun _ _ _ h => h) (by rfl) ?hy21 ?rest21
    case hy21 => intro w; go_simp; (try with_reducible rfl)
    try simp only [Act.put, List.setIfInBounds_toArray, List.set_cons_zero, List.set_cons_succ]
    refine stepK (i := 5) (L := #[true, true, true, true, true, true, false]) rfl (by rfl) (by kernel_rfl) (by rfl) (fun K hK => ?_)
    go_simp
    go_at_call 64
    refine (widen_any w4.drew 0 w.heap.size b.neg A2 n2 c2 xs2 b.e (M - b.e) (g2.drewN 1) (by show w.heap.size ≤ w4.heap.size; have := HS1.out; omega) sd2 hn2 (by omega) (by omega) _ (by have := HKE.out; omega)).mono ?_
    rintro e w5 ⟨us, rfl, hB5', hul, hud, hnu⟩
    have hB5 : Below w4.heap.size w4 w5 := (Below.refl _ w4).drew.trans hB5'
    clear hB5'
    have hs5 := hB5.size
    replace g1 := g1.below hB5 (by have := HS1.out; omega)
    replace hT1 := hT1.below hB5 (by have := HS1.out; omega)
    have hb2' := hB5.block (w.heap.size + 1) (by have := HS1.out; omega)
    replace hb3 := (hB5.block _ (by have := HS1.out; omega)).trans hb3
    replace hB1 := hB1.trans (hB5.mono (by have := HS1.out; omega))
    have hS5 := hS4.of_heap (hB5.block g hg2)
    have HNU := Lib.hid hnu
    clear hB5 hnu hS4
    refine hK _ _ ⟨fun _ _ => hb2', ?_⟩
    clear hK K
    try simp only [Act.put, List.setIfInBounds_toArray, List.set_cons_zero, List.set_cons_succ]
    obtain ⟨sr, mr, hpl⟩ : ∃ sr mr, plusS a.neg (num 4294967296 ws) b.neg (num 4294967296 us) = (sr, mr) := ⟨_, _, rfl⟩
    have hroom : num 4294967296 ws + num 4294967296 us < 4294967296 ^ 74 := by
      rw [HNW.out, HNU.out, SN1.out, SN2.out]
      exact sum_room (shift_lt ha.1 (by omega)) (shift_lt hb.1 (by omega))
    have hform : formed sr mr M = (r, code) := by
      have h1 := H.out
      unfold addD at h1
      rw [HK.out] at h1
      rw [HNW.out, HNU.out, SN1.out, SN2.out] at hpl
      rw [hpl] at h1
      exact h1
    have HPL := Lib.hid hpl
    have HR := Lib.hid hroom
    have HF := Lib.hid hform
    clear hpl hroom hform
    refine stepK (i := 6) (L := #[true, true, true, true, true, true, true]) rfl (by rfl) (by kernel_rfl) (by rfl) (fun K hK => ?_)
    go_simp
    go_at_call 63
    refine (add_any w5 g a.neg b.neg _ _ ws us hS5 (by omega) hul hud HR.out sr mr HPL.out).mono ?_
    rintro e w6 ⟨rfl, hO6, vs, hS6, hnv⟩
    have hs6 := hO6.size
    replace g1 := g1
    have hb6 := (hO6.block (w.heap.size + 1 + 1) (by have := HS1.out; omega) (by have := HS1.out; omega)).trans hb3
    have hT6 := hT1.keep (hO6.block 0 (by omega) (by have := HS1.out; omega))
    have hB6 := hO6.below hB1 (by have := HS1.out; omega) (by have := HS1.out; omega)
    refine hK _ _ ⟨fun _ h => (hO6.block _ (by have := HS1.out; omega) (by have := HS1.out; omega)).trans h, ?_⟩
    clear hK K hO6 g1 hb3 hT1 hB1 hS5
    try simp only [Act.put, List.setIfInBounds_toArray, List.set_cons_zero, List.set_cons_succ]
    refine doneE (by kernel_rfl) ?_ _
    go_wp2_with fail
    have hf : formed sr (num 4294967296 vs) a.e = (r, code) := by rw [hnv, ← HKE.out]; exact HF.out
    refine (form_any w6 g (by omega) sr _ a.e (by omega) vs hS6 hT6 r code hf).mono ?_
    rintro e w7 ⟨A', n', c', rfl, hc', hB7, hI7⟩
    have hs7 := hB7.size
    have hb7 := (hB7.block _ (by have := HS1.out; omega)).trans hb6
    have hBB := hB6.trans (hB7.mono (by have := HS1.out; omega))
    have HI := Lib.hid hI7
    obtain ⟨⟨x0, x1, x2⟩, x3, x4, x5⟩ := boxD hb7
    clear hf hS6 hT6 hB6 hb6 hB7 hI7 hnv
    go_wp2
    refine bodyPost_ret (v := .tuple #[.agg #[.bool r.neg, .slice A' n' c', .int .i64 r.e], .int .i64 code]) (by simp [results, Tryd.results20, go_sem, x0, x1, x2]) rfl ⟨A', n', c', rfl, hc', ?_, ?_⟩
    · exact ((hBB.setCell (by simp; omega) _).setCell (by simp; omega) _).setCell (by simp; omega) _
    · refine Ints.more (lo := w6.heap.size) (hi := w7.heap.size) ?_ (by have := HS1.out; omega) (by simp [World.setCell])
      exact ints_far (ints_far (ints_far HI.out (.inl (by have := HS1.out; simp; omega)) _) (.inl (by have := HS1.out; simp; omega)) _) (.inl (by have := HS1.out; simp; omega)) _
end Dy
end Go.Proofs.YtlbkepiflhchdaaDoor

namespace Go.Proofs.YtlbkepiflhchdaaDoor
open Go.RowKit
namespace Dy
open Dp
/-- What is answered of dyads that may not be. -/
def Bad (w : World) (e : Ending) (w' : World) : Prop := e = .returned (.tuple #[.agg #[.bool false, .slice none 0 0, .int .i64 0], .int .i64 8]) ∧ Below w.heap.size w w'

set_option maxHeartbeats 1600000 in
set_option maxRecDepth 100000 in
/-- dyad.Add: dyads that may not be. -/
theorem Add_bad (w : World) (s1 s2 : Bool) (A1 A2 : Option Addr) (n1 c1 n2 c2 : Nat) (xs1 xs2 : List Int) (e1 e2 : Int) (h1 : Ints w 0 w.heap.size .u32 A1 n1 xs1) (h2 : Ints w 0 w.heap.size .u32 A2 n2 xs2) (h : ¬ MayD s1 xs1 e1 ∨ ¬ MayD s2 xs2 e2) :
    Calls Tryd.prog 20 #[.agg #[.bool s1, .slice A1 n1 c1, .int .i64 e1], .agg #[.bool s2, .slice A2 n2 c2, .int .i64 e2]] w (Bad w) := by
  generalize hw1 : ((w.alloc (.cells #[.bool s1, .slice A1 n1 c1, .int .i64 e1] 24)).alloc (.cells #[.bool s2, .slice A2 n2 c2, .int .i64 e2] 24)).alloc (.cells #[.bool false, .slice none 0 0, .int .i64 0] 24) = w1
  have hs1 : w1.heap.size = w.heap.size + 3 := by rw [← hw1]; simp
  have HS1 := Lib.hid hs1
  have hB1 : Below w.heap.size w w1 := by rw [← hw1]; exact (((Below.refl _ w).alloc (Nat.le_refl _) _).alloc (by simp) _).alloc (by simp; omega) _
  have hb1 : w1.heap[w.heap.size]? = some (.cells #[.bool s1, .slice A1 n1 c1, .int .i64 e1] 24 (0, 0)) := by
    rw [← hw1, Below.heap_alloc _ _ _ (by simp; omega), Below.heap_alloc _ _ _ (by simp)]
    exact heap_alloc_last _ _
  have hb2 : w1.heap[w.heap.size + 1]? = some (.cells #[.bool s2, .slice A2 n2 c2, .int .i64 e2] 24 (0, 0)) := by
    rw [← hw1, Below.heap_alloc _ _ _ (by simp)]
    exact heap_alloc2_new _ _ _
  have hb3 : w1.heap[w.heap.size + 1 + 1]? = some (.cells #[.bool false, .slice none 0 0, .int .i64 0] 24 (0, 0)) := by
    rw [← hw1]
    have := heap_alloc_last ((w.alloc (.cells #[.bool s1, .slice A1 n1 c1, .int .i64 e1] 24)).alloc (.cells #[.bool s2, .slice A2 n2 c2, .int .i64 e2] 24)) (.cells #[.bool false, .slice none 0 0, .int .i64 0] 24)
    simpa using this
  have g1 := h1.below hB1 (Nat.le_refl _)
  have g2 := h2.below hB1 (Nat.le_refl _)
  clear hs1
  obtain ⟨⟨p0, p1, p2⟩, p3, p4, p5⟩ := boxD hb1
  obtain ⟨⟨q0, q1, q2⟩, q3, q4, q5⟩ := boxD hb2
  by_cases hm : MayD s1 xs1 e1
  · have hm2 := h.resolve_left (fun k => k hm)
    clear h
    go_enter Tryd.func20, Tryd.ntmps20
    go_wp2_with fail
    refine (Check_ok w1 0 w.heap.size s1 A1 n1 c1 xs1 e1 g1 (by have := HS1.out; omega) hm).mono ?_
    rintro e w2 ⟨rfl, hB2⟩
    have hs2 := hB2.size
    replace g2 := g2.below hB2 (by have := HS1.out; omega)
    replace hb2 := (hB2.block _ (by have := HS1.out; omega)).trans hb2
    replace hb3 := (hB2.block _ (by have := HS1.out; omega)).trans hb3
    replace hB1 := hB1.trans (hB2.mono (by have := HS1.out; omega))
    clear hB2 p0 p1 p2 p3 p4 p5 q0 q1 q2 q3 q4 q5 hw1 hm
    obtain ⟨⟨q0, q1, q2⟩, q3, q4, q5⟩ := boxD hb2
    go_wp2_with fail
    refine (Check_bad w2 0 w.heap.size s2 A2 n2 c2 xs2 e2 g2 (by have := HS1.out; omega) hm2).mono ?_
    rintro e w3 ⟨rfl, hB2⟩
    replace hb3 := (hB2.block _ (by have := HS1.out; omega)).trans hb3
    replace hB1 := hB1.trans (hB2.mono (by have := HS1.out; omega))
    clear hB2 q0 q1 q2 q3 q4 q5 hm2
    obtain ⟨⟨x0, x1, x2⟩, x3, x4, x5⟩ := boxD hb3
    go_wp2
    refine bodyPost_ret (v := .tuple #[.agg #[.bool false, .slice none 0 0, .int .i64 0], .int .i64 8]) (by simp [results, Tryd.results20, go_sem, x0, x1, x2]) rfl ⟨rfl, ?_⟩
    exact ((hB1.setCell (by simp; omega) _).setCell (by simp; omega) _).setCell (by simp; omega) _
  · clear h
    go_enter Tryd.func20, Tryd.ntmps20
    go_wp2_with fail
    refine (Check_bad w1 0 w.heap.size s1 A1 n1 c1 xs1 e1 g1 (by have := HS1.out; omega) hm).mono ?_
    rintro e w2 ⟨rfl, hB2⟩
    replace hb3 := (hB2.block _ (by have := HS1.out; omega)).trans hb3
    replace hB1 := hB1.trans (hB2.mono (by have := HS1.out; omega))
    clear hB2 p0 p1 p2 p3 p4 p5 q0 q1 q2 q3 q4 q5 hw1 hm
    obtain ⟨⟨x0, x1, x2⟩, x3, x4, x5⟩ := boxD hb3
    go_wp2
    refine bodyPost_ret (v := .tuple #[.agg #[.bool false, .slice none 0 0, .int .i64 0], .int .i64 8]) (by simp [results, Tryd.results20, go_sem, x0, x1, x2]) rfl ⟨rfl, ?_⟩
    exact ((hB1.setCell (by simp; omega) _).setCell (by simp; omega) _).setCell (by simp; omega) _

set_option maxHeartbeats 1600000 in
set_option maxRecDepth 100000 in
/-- dyad.Sub: dyads that may not be. -/
theorem Sub_bad (w : World) (s1 s2 : Bool) (A1 A2 : Option Addr) (n1 c1 n2 c2 : Nat) (xs1 xs2 : List Int) (e1 e2 : Int) (h1 : Ints w 0 w.heap.size .u32 A1 n1 xs1) (h2 : Ints w 0 w.heap.size .u32 A2 n2 xs2) (h : ¬ MayD s1 xs1 e1 ∨ ¬ MayD s2 xs2 e2) :
    Calls Tryd.prog 22 #[.agg #[.bool s1, .slice A1 n1 c1, .int .i64 e1], .agg #[.bool s2, .slice A2 n2 c2, .int .i64 e2]] w (Bad w) := by
  generalize hw1 : ((w.alloc (.cells #[.bool s1, .slice A1 n1 c1, .int .i64 e1] 24)).alloc (.cells #[.bool s2, .slice A2 n2 c2, .int .i64 e2] 24)).alloc (.cells #[.bool false, .slice none 0 0, .int .i64 0] 24) = w1
  have hs1 : w1.heap.size = w.heap.size + 3 := by rw [← hw1]; simp
  have HS1 := Lib.hid hs1
  have hB1 : Below w.heap.size w w1 := by rw [← hw1]; exact (((Below.refl _ w).alloc (Nat.le_refl _) _).alloc (by simp) _).alloc (by simp; omega) _
  have hb1 : w1.heap[w.heap.size]? = some (.cells #[.bool s1, .slice A1 n1 c1, .int .i64 e1] 24 (0, 0)) := by
    rw [← hw1, Below.heap_alloc _ _ _ (by simp; omega), Below.heap_alloc _ _ _ (by simp)]
    exact heap_alloc_last _ _
  have hb2 : w1.heap[w.heap.size + 1]? = some (.cells #[.bool s2, .slice A2 n2 c2, .int .i64 e2] 24 (0, 0)) := by
    rw [← hw1, Below.heap_alloc _ _ _ (by simp)]
    exact heap_alloc2_new _ _ _
  have hb3 : w1.heap[w.heap.size + 1 + 1]? = some (.cells #[.bool false, .slice none 0 0, .int .i64 0] 24 (0, 0)) := by
    rw [← hw1]
    have := heap_alloc_last ((w.alloc (.cells #[.bool s1, .slice A1 n1 c1, .int .i64 e1] 24)).alloc (.cells #[.bool s2, .slice A2 n2 c2, .int .i64 e2] 24)) (.cells #[.bool false, .slice none 0 0, .int .i64 0] 24)
    simpa using this
  have g1 := h1.below hB1 (Nat.le_refl _)
  have g2 := h2.below hB1 (Nat.le_refl _)
  clear hs1
  obtain ⟨⟨p0, p1, p2⟩, p3, p4, p5⟩ := boxD hb1
  obtain ⟨⟨q0, q1, q2⟩, q3, q4, q5⟩ := boxD hb2
  by_cases hm : MayD s1 xs1 e1
  · have hm2 := h.resolve_left (fun k => k hm)
    clear h
    go_enter Tryd.func22, Tryd.ntmps22
    go_wp2_with fail
    refine (Check_ok w1 0 w.heap.size s1 A1 n1 c1 xs1 e1 g1 (by have := HS1.out; omega) hm).mono ?_
    rintro e w2 ⟨rfl, hB2⟩
    have hs2 := hB2.size
    replace g2 := g2.below hB2 (by have := HS1.out; omega)
    replace hb2 := (hB2.block _ (by have := HS1.out; omega)).trans hb2
    replace hb3 := (hB2.block _ (by have := HS1.out; omega)).trans hb3
    replace hB1 := hB1.trans (hB2.mono (by have := HS1.out; omega))
    clear hB2 p0 p1 p2 p3 p4 p5 q0 q1 q2 q3 q4 q5 hw1 hm
    obtain ⟨⟨q0, q1, q2⟩, q3, q4, q5⟩ := boxD hb2
    go_wp2_with fail
    refine (Check_bad w2 0 w.heap.size s2 A2 n2 c2 xs2 e2 g2 (by have := HS1.out; omega) hm2).mono ?_
    rintro e w3 ⟨rfl, hB2⟩
    replace hb3 := (hB2.block _ (by have := HS1.out; omega)).trans hb3
    replace hB1 := hB1.trans (hB2.mono (by have := HS1.out; omega))
    clear hB2 q0 q1 q2 q3 q4 q5 hm2
    obtain ⟨⟨x0, x1, x2⟩, x3, x4, x5⟩ := boxD hb3
    go_wp2
    refine bodyPost_ret (v := .tuple #[.agg #[.bool false, .slice none 0 0, .int .i64 0], .int .i64 8]) (by simp [results, Tryd.results22, go_sem, x0, x1, x2]) rfl ⟨rfl, ?_⟩
    exact ((hB1.setCell (by simp; omega) _).setCell (by simp; omega) _).setCell (by simp; omega) _
  · clear h
    go_enter Tryd.func22, Tryd.ntmps22
    go_wp2_with fail
    refine (Check_bad w1 0 w.heap.size s1 A1 n1 c1 xs1 e1 g1 (by have := HS1.out; omega) hm).mono ?_
    rintro e w2 ⟨rfl, hB2⟩
    replace hb3 := (hB2.block _ (by have := HS1.out; omega)).trans hb3
    replace hB1 := hB1.trans (hB2.mono (by have := HS1.out; omega))
    clear hB2 p0 p1 p2 p3 p4 p5 q0 q1 q2 q3 q4 q5 hw1 hm
    obtain ⟨⟨x0, x1, x2⟩, x3, x4, x5⟩ := boxD hb3
    go_wp2
    refine bodyPost_ret (v := .tuple #[.agg #[.bool false, .slice none 0 0, .int .i64 0], .int .i64 8]) (by simp [results, Tryd.results22, go_sem, x0, x1, x2]) rfl ⟨rfl, ?_⟩
    exact ((hB1.setCell (by simp; omega) _).setCell (by simp; omega) _).setCell (by simp; omega) _

set_option maxHeartbeats 1600000 in
set_option maxRecDepth 100000 in
/-- dyad.Half: dyads that may not be. -/
theorem Half_bad (w : World) (s1 : Bool) (A1 : Option Addr) (n1 c1 : Nat) (xs1 : List Int) (e1 : Int) (h1 : Ints w 0 w.heap.size .u32 A1 n1 xs1) (hm : ¬ MayD s1 xs1 e1) :
    Calls Tryd.prog 24 #[.agg #[.bool s1, .slice A1 n1 c1, .int .i64 e1]] w (Bad w) := by
  generalize hw1 : (w.alloc (.cells #[.bool s1, .slice A1 n1 c1, .int .i64 e1] 24)).alloc (.cells #[.bool false, .slice none 0 0, .int .i64 0] 24) = w1
  have hs1 : w1.heap.size = w.heap.size + 2 := by rw [← hw1]; simp
  have HS1 := Lib.hid hs1
  have hB1 : Below w.heap.size w w1 := by rw [← hw1]; exact ((Below.refl _ w).alloc (Nat.le_refl _) _).alloc (by simp) _
  have hb1 : w1.heap[w.heap.size]? = some (.cells #[.bool s1, .slice A1 n1 c1, .int .i64 e1] 24 (0, 0)) := by
    rw [← hw1, Below.heap_alloc _ _ _ (by simp)]
    exact heap_alloc_last _ _
  have hb3 : w1.heap[w.heap.size + 1]? = some (.cells #[.bool false, .slice none 0 0, .int .i64 0] 24 (0, 0)) := by
    rw [← hw1]
    exact heap_alloc2_new _ _ _
  have g1 := h1.below hB1 (Nat.le_refl _)
  clear hs1
  obtain ⟨⟨p0, p1, p2⟩, p3, p4, p5⟩ := boxD hb1
  go_enter Tryd.func24, Tryd.ntmps24
  go_wp2_with fail
  refine (Check_bad w1 0 w.heap.size s1 A1 n1 c1 xs1 e1 g1 (by have := HS1.out; omega) hm).mono ?_
  rintro e w2 ⟨rfl, hB2⟩
  replace hb3 := (hB2.block _ (by have := HS1.out; omega)).trans hb3
  replace hB1 := hB1.trans (hB2.mono (by have := HS1.out; omega))
  clear hB2 p0 p1 p2 p3 p4 p5 hw1 hm
  obtain ⟨⟨x0, x1, x2⟩, x3, x4, x5⟩ := boxD hb3
  go_wp2
  refine bodyPost_ret (v := .tuple #[.agg #[.bool false, .slice none 0 0, .int .i64 0], .int .i64 8]) (by simp [results, Tryd.results24, go_sem, x0, x1, x2]) rfl ⟨rfl, ?_⟩
  exact ((hB1.setCell (by simp) _).setCell (by simp) _).setCell (by simp) _

theorem Sum.expo {w : World} {g : Nat} {s : Bool} {L : Value} {ex : Int} {ws : List Int} (h : Sum w g s L ex ws) (t : Int) : Sum (w.setCell ⟨g, 2, none⟩ (.int .i64 t)) g s L t ws :=
  ⟨by rw [heap_setCell_same w g _ _ _ _ h.blk]; congr 2; apply Array.ext'; simp, h.len, h.dig⟩
set_option maxHeartbeats 1600000 in
set_option maxRecDepth 100000 in
/-- dyad.Half: dyads that may be. -/
theorem Half_ok (w : World) (a : Dn) (ha : a.May) (A1 : Option Addr) (n1 c1 : Nat) (h1 : Ints w 0 w.heap.size .u32 A1 n1 (canon 4294967296 a.m)) (hT : Tab w) (r : Dn) (code : Int) (h : halfD a = (r, code)) :
    Calls Tryd.prog 24 #[.agg #[.bool a.neg, .slice A1 n1 c1, .int .i64 a.e]] w (Formed w r code) := by
  have hn1 := ints_may h1 ha
  have HM1 := Lib.hid (dn_may ha)
  have hae := ha.2.1
  obtain ⟨sd1, _, sn1⟩ := canon_spec 4294967296 a.m (by decide)
  have SN1 := Lib.hid sn1
  have H := Lib.hid h
  generalize hm1 : canon 4294967296 a.m = xs1 at *
  clear h sn1 hm1
  have h0 := hT.lt
  generalize hw1 : (w.alloc (.cells #[.bool a.neg, .slice A1 n1 c1, .int .i64 a.e] 24)).alloc (.cells #[.bool false, .slice none 0 0, .int .i64 0] 24) = w1
  have hs1 : w1.heap.size = w.heap.size + 2 := by rw [← hw1]; simp
  have HS1 := Lib.hid hs1
  have hB1 : Below w.heap.size w w1 := by rw [← hw1]; exact ((Below.refl _ w).alloc (Nat.le_refl _) _).alloc (by simp) _
  have hb1 : w1.heap[w.heap.size]? = some (.cells #[.bool a.neg, .slice A1 n1 c1, .int .i64 a.e] 24 (0, 0)) := by
    rw [← hw1, Below.heap_alloc _ _ _ (by simp)]
    exact heap_alloc_last _ _
  have hb3 : w1.heap[w.heap.size + 1]? = some (.cells #[.bool false, .slice none 0 0, .int .i64 0] 24 (0, 0)) := by
    rw [← hw1]
    exact heap_alloc2_new _ _ _
  have g1 := h1.below hB1 (Nat.le_refl _)
  clear hs1
  obtain ⟨⟨p0, p1, p2⟩, p3, p4, p5⟩ := boxD hb1
  have hT1 := hT.below hB1 hT.lt
  go_enter Tryd.func24, Tryd.ntmps24
  go_wp2_with fail
  refine (Check_ok w1 0 w.heap.size a.neg A1 n1 c1 xs1 a.e g1 (by have := HS1.out; omega) HM1.out).mono ?_
  rintro e w2 ⟨rfl, hB2⟩
  have hs2 := hB2.size
  replace g1 := g1.below hB2 (by have := HS1.out; omega)
  replace hT1 := hT1.below hB2 (by have := HS1.out; omega)
  replace hb1 := (hB2.block _ (by have := HS1.out; omega)).trans hb1
  replace hb3 := (hB2.block _ (by have := HS1.out; omega)).trans hb3
  replace hB1 := hB1.trans (hB2.mono (by have := HS1.out; omega))
  clear hB2 p0 p1 p2 p3 p4 p5 hw1
  obtain ⟨⟨p0, p1, p2⟩, p3, p4, p5⟩ := boxD hb1
  go_wp2_with fail
  refine (of_any w2 0 w.heap.size a.neg A1 n1 c1 xs1 a.e 0 g1 (by have := HS1.out; omega) sd1 hn1 (by omega) (by omega) _ (by simp)).mono ?_
  rintro e w4 ⟨g, ws, rfl, hB4, hg1, hg2, hS4, hnw⟩
  have hs4 := hB4.size
  replace hT1 := hT1.below hB4 (by have := HS1.out; omega)
  replace hb3 := (hB4.block _ (by have := HS1.out; omega)).trans hb3
  replace hB1 := hB1.trans (hB4.mono (by have := HS1.out; omega))
  have HNW := Lib.hid hnw
  clear hB4 p0 p1 p2 p3 p4 p5 hnw g1 hb1
  obtain ⟨z0, z1, z2⟩ := hS4.head
  have z3 := hS4.free 2
  go_wp2_with fail
  have hS5 := hS4.expo ((a.e : Int) + 1)
  have hT5 := hT1.keep (heap_setCell_other w4 ⟨g, 2, none⟩ 0 (.int .i64 ((a.e : Int) + 1)) (by have := HS1.out; simp; omega))
  have hb5 := (heap_setCell_other w4 ⟨g, 2, none⟩ (w.heap.size + 1) (.int .i64 ((a.e : Int) + 1)) (by simp; have := HS1.out; omega)).trans hb3
  have hB5 := hB1.setCell (p := ⟨g, 2, none⟩) (by simp; have := HS1.out; omega) (.int .i64 ((a.e : Int) + 1))
  have hs5 : (w4.setCell ⟨g, 2, none⟩ (.int .i64 ((a.e : Int) + 1))).heap.size = w4.heap.size := by simp [World.setCell]
  have HS5 := Lib.hid hs5
  generalize w4.setCell ⟨g, 2, none⟩ (.int .i64 ((a.e : Int) + 1)) = w5 at *
  clear hs5 hT1 hb3 hB1 hS4 z0 z1 z2 z3
  have hf : formed a.neg (num 4294967296 ws) (a.e + 1) = (r, code) := by rw [HNW.out, SN1.out, Nat.pow_zero, Nat.mul_one]; exact H.out
  have hS6 : Sum w5 g a.neg (.slice none 0 0) ((a.e + 1 : Nat) : Int) ws := hS5
  refine (form_any w5 g (by have := HS5.out; omega) a.neg _ (a.e + 1) (by omega) ws hS6 hT5 r code hf).mono ?_
  rintro e w7 ⟨A', n', c', rfl, hc', hB7, hI7⟩
  have hs7 := hB7.size
  have hb7 := (hB7.block _ (by have := HS1.out; have := HS5.out; omega)).trans hb5
  have hBB := hB5.trans (hB7.mono (by have := HS1.out; have := HS5.out; omega))
  have HI := Lib.hid hI7
  obtain ⟨⟨x0, x1, x2⟩, x3, x4, x5⟩ := boxD hb7
  clear hf hS5 hS6 hT5 hB5 hb5 hB7 hI7
  go_wp2
  refine bodyPost_ret (v := .tuple #[.agg #[.bool r.neg, .slice A' n' c', .int .i64 r.e], .int .i64 code]) (by simp [results, Tryd.results24, go_sem, x0, x1, x2]) rfl ⟨A', n', c', rfl, hc', ?_, ?_⟩
  · exact ((hBB.setCell (by simp) _).setCell (by simp) _).setCell (by simp) _
  · refine Ints.more (lo := w5.heap.size) (hi := w7.heap.size) ?_ (by have := HS1.out; have := HS5.out; omega) (by simp [World.setCell])
    exact ints_far (ints_far (ints_far HI.out (.inl (by have := HS1.out; have := HS5.out; simp; omega)) _) (.inl (by have := HS1.out; have := HS5.out; simp; omega)) _) (.inl (by have := HS1.out; have := HS5.out; simp; omega)) _
end Dy
end Go.Proofs.YtlbkepiflhchdaaDoor

namespace Go.Proofs.YtlbkepiflhchdaaDoor
open Go.RowKit
namespace Dy
open Dp
set_option maxHeartbeats 800000 in
set_option maxRecDepth 100000 in
/-- dyad.Sub$1. -/
theorem Sub1_any (w : World) (b : Nat) (s : Bool) (A : Option Addr) (n c : Nat) (ex : Int) (hb : w.heap[b]? = some (.cells #[.bool s, .slice A n c, .int .i64 ex] 24 (0, 0))) (hn : n ≤ 1000000) (s' : Bool) (hs : (!s && decide (n ≠ 0)) = s') :
    Calls Tryd.prog 70 #[.pointer (some ⟨b, 0, none⟩)] w fun e w' => e = .returned (.agg #[.bool s', .slice A n c, .int .i64 ex]) ∧ OnlyAt b w w' := by
  have hlt : b < w.heap.size := (Array.getElem?_eq_some_iff.1 hb).1
  generalize hw1 : w.alloc (.cells #[.bool false, .slice none 0 0, .int .i64 0] 24) = w1
  have hO1 : OnlyAt b w w1 := by rw [← hw1]; exact (OnlyAt.refl b w).alloc _
  have hb1 : w1.heap[b]? = some (.cells #[.bool s, .slice A n c, .int .i64 ex] 24 (0, 0)) := by rw [← hw1]; exact (Below.heap_alloc _ _ _ hlt).trans hb
  have hr1 : w1.heap[w.heap.size]? = some (.cells #[.bool false, .slice none 0 0, .int .i64 0] 24 (0, 0)) := by rw [← hw1]; exact heap_alloc_last _ _
  obtain ⟨⟨p0, p1, p2⟩, p3, p4, p5⟩ := boxD hb1
  obtain ⟨⟨q0, q1, q2⟩, q3, q4, q5⟩ := boxD hr1
  have hne : b ≠ w.heap.size := Nat.ne_of_lt hlt
  have hne2 : w.heap.size ≠ b := fun e => hne e.symm
  cases s
  · by_cases h0 : n = 0
    · subst h0
      have : s' = false := by rw [← hs]; rfl
      subst this
      clear hs
      go_enter Tryd.func70, Tryd.ntmps70
      go_wp2
      refine bodyPost_ret (v := .agg #[.bool false, .slice A 0 c, .int .i64 ex]) (by simp [results, Tryd.results70, go_sem, q0, q1, q2]) rfl ⟨rfl, ?_⟩
      exact (((hO1.setCell _).setFar (Nat.le_refl _) 0 _).setFar (Nat.le_refl _) 1 _).setFar (Nat.le_refl _) 2 _
    · have : s' = true := by rw [← hs]; simp [h0]
      subst this
      have h1 : (0 : Int) < n := by omega
      have h2 : 0 < n := by omega
      clear hs
      go_enter Tryd.func70, Tryd.ntmps70
      go_wp2
      refine bodyPost_ret (v := .agg #[.bool true, .slice A n c, .int .i64 ex]) (by simp [results, Tryd.results70, go_sem, q0, q1, q2]) rfl ⟨rfl, ?_⟩
      exact (((hO1.setCell _).setFar (Nat.le_refl _) 0 _).setFar (Nat.le_refl _) 1 _).setFar (Nat.le_refl _) 2 _
  · have : s' = false := by rw [← hs]; rfl
    subst this
    clear hs
    go_enter Tryd.func70, Tryd.ntmps70
    go_wp2
    refine bodyPost_ret (v := .agg #[.bool false, .slice A n c, .int .i64 ex]) (by simp [results, Tryd.results70, go_sem, q0, q1, q2]) rfl ⟨rfl, ?_⟩
    exact (((hO1.setCell _).setFar (Nat.le_refl _) 0 _).setFar (Nat.le_refl _) 1 _).setFar (Nat.le_refl _) 2 _

theorem canon_len0 {w : World} {lo hi : Nat} {A : Option Addr} {n : Nat} {m : Nat} (h : Ints w lo hi .u32 A n (canon 4294967296 m)) : decide (n ≠ 0) = decide (m ≠ 0) := by
  have hl := h.len
  by_cases h0 : m = 0
  · subst h0
    rw [canon_zero] at hl
    simp at hl
    simp [← hl]
  · have hn : n ≠ 0 := fun e => by
      rw [e] at hl
      exact h0 (canon_nil (B := 4294967296) (by decide) (List.eq_nil_of_length_eq_zero hl))
    simp [h0, hn]
set_option maxHeartbeats 6400000 in
set_option maxRecDepth 100000 in
/-- dyad.Sub: dyads that may be. -/
theorem Sub_ok (w : World) (a b : Dn) (ha : a.May) (hb : b.May) (A1 : Option Addr) (n1 c1 : Nat) (h1 : Ints w 0 w.heap.size .u32 A1 n1 (canon 4294967296 a.m)) (A2 : Option Addr) (n2 c2 : Nat) (h2 : Ints w 0 w.heap.size .u32 A2 n2 (canon 4294967296 b.m)) (hT : Tab w) (r : Dn) (code : Int) (h : subD a b = (r, code)) :
    Calls Tryd.prog 22 #[.agg #[.bool a.neg, .slice A1 n1 c1, .int .i64 a.e], .agg #[.bool b.neg, .slice A2 n2 c2, .int .i64 b.e]] w (Formed w r code) := by
  have hmf : ∀ (fn : Fn) (first cap : Array Value) (w : World), (Instr.makeFunc fn first cap).run Tryd.prog w = .ok (.func fn first cap) w := fun _ _ _ _ => rfl
  have hn1 := ints_may h1 ha
  have hn2 := ints_may h2 hb
  have HM1 := Lib.hid (dn_may ha)
  have HM2 := Lib.hid (dn_may hb)
  have H := Lib.hid h
  have h0 := hT.lt
  have HN := Lib.hid (show (!b.neg && decide (n2 ≠ 0)) = (negD b).neg by rw [canon_len0 h2]; rfl)
  clear h
  generalize hw1 : ((w.alloc (.cells #[.bool a.neg, .slice A1 n1 c1, .int .i64 a.e] 24)).alloc (.cells #[.bool b.neg, .slice A2 n2 c2, .int .i64 b.e] 24)).alloc (.cells #[.bool false, .slice none 0 0, .int .i64 0] 24) = w1
  have hs1 : w1.heap.size = w.heap.size + 3 := by rw [← hw1]; simp
  have HS1 := Lib.hid hs1
  have hB1 : Below w.heap.size w w1 := by rw [← hw1]; exact (((Below.refl _ w).alloc (Nat.le_refl _) _).alloc (by simp) _).alloc (by simp; omega) _
  have hb1 : w1.heap[w.heap.size]? = some (.cells #[.bool a.neg, .slice A1 n1 c1, .int .i64 a.e] 24 (0, 0)) := by
    rw [← hw1, Below.heap_alloc _ _ _ (by simp; omega), Below.heap_alloc _ _ _ (by simp)]
    exact heap_alloc_last _ _
  have hb2 : w1.heap[w.heap.size + 1]? = some (.cells #[.bool b.neg, .slice A2 n2 c2, .int .i64 b.e] 24 (0, 0)) := by
    rw [← hw1, Below.heap_alloc _ _ _ (by simp)]
    exact heap_alloc2_new _ _ _
  have hb3 : w1.heap[w.heap.size + 1 + 1]? = some (.cells #[.bool false, .slice none 0 0, .int .i64 0] 24 (0, 0)) := by
    rw [← hw1]
    have := heap_alloc_last ((w.alloc (.cells #[.bool a.neg, .slice A1 n1 c1, .int .i64 a.e] 24)).alloc (.cells #[.bool b.neg, .slice A2 n2 c2, .int .i64 b.e] 24)) (.cells #[.bool false, .slice none 0 0, .int .i64 0] 24)
    simpa using this
  have g1 := h1.below hB1 (Nat.le_refl _)
  have g2 := h2.below hB1 (Nat.le_refl _)
  have hT1 := hT.below hB1 hT.lt
  clear hs1
  obtain ⟨⟨p0, p1, p2⟩, p3, p4, p5⟩ := boxD hb1
  obtain ⟨⟨q0, q1, q2⟩, q3, q4, q5⟩ := boxD hb2
  go_enter Tryd.func22, Tryd.ntmps22
  go_wp2_with fail
  refine (Check_ok w1 0 w.heap.size a.neg A1 n1 c1 _ a.e g1 (by have := HS1.out; omega) HM1.out).mono ?_
  rintro e w2 ⟨rfl, hB2⟩
  have hs2 := hB2.size
  replace g1 := g1.below hB2 (by have := HS1.out; omega)
  replace g2 := g2.below hB2 (by have := HS1.out; omega)
  replace hT1 := hT1.below hB2 (by have := HS1.out; omega)
  replace hb1 := (hB2.block _ (by have := HS1.out; omega)).trans hb1
  replace hb2 := (hB2.block _ (by have := HS1.out; omega)).trans hb2
  replace hb3 := (hB2.block _ (by have := HS1.out; omega)).trans hb3
  replace hB1 := hB1.trans (hB2.mono (by have := HS1.out; omega))
  clear hB2 p0 p1 p2 p3 p4 p5 q0 q1 q2 q3 q4 q5 hw1
  obtain ⟨⟨p0, p1, p2⟩, p3, p4, p5⟩ := boxD hb1
  obtain ⟨⟨q0, q1, q2⟩, q3, q4, q5⟩ := boxD hb2
  go_wp2_with fail
  refine (Check_ok w2 0 w.heap.size b.neg A2 n2 c2 _ b.e g2 (by have := HS1.out; omega) HM2.out).mono ?_
  rintro e w3 ⟨rfl, hB2⟩
  have hs3 := hB2.size
  replace g1 := g1.below hB2 (by have := HS1.out; omega)
  replace g2 := g2.below hB2 (by have := HS1.out; omega)
  replace hT1 := hT1.below hB2 (by have := HS1.out; omega)
  replace hb1 := (hB2.block _ (by have := HS1.out; omega)).trans hb1
  replace hb2 := (hB2.block _ (by have := HS1.out; omega)).trans hb2
  replace hb3 := (hB2.block _ (by have := HS1.out; omega)).trans hb3
  replace hB1 := hB1.trans (hB2.mono (by have := HS1.out; omega))
  clear hB2 p0 p1 p2 p3 p4 p5 q0 q1 q2 q3 q4 q5
  obtain ⟨⟨p0, p1, p2⟩, p3, p4, p5⟩ := boxD hb1
  obtain ⟨⟨q0, q1, q2⟩, q3, q4, q5⟩ := boxD hb2
  go_wp2_with fail
  have hSS : w3.drew.heap[w.heap.size]? = w3.heap[w.heap.size]? := rfl
  refine region_E (fun w' => w'.heap[w.heap.size]? = w3.heap[w.heap.size]?) [] (m := 8) (L := #[false, false, false, false, false, false, false, false]) (by kernel_rfl) (by rfl) (by rfl) ?_
  refine readE (i := 0) (L := #[true, false, false, false, false, false, false, false]) (v := .agg #[.bool a.neg, .slice A1 n1 c1, .int .i64 a.e]) rfl (by rfl) (by kernel_rfl) (by kernel_rfl) (by kernel_rfl) (fun _ _ _ h => h) (by assumption) (by rfl) ?hyA ?restA
  case hyA =>
    intro w' h1
    obtain ⟨⟨k1, k2, k3⟩, _⟩ := boxD (h1.trans hb1)
    go_simp
  try simp only [Act.put, List.setIfInBounds_toArray, List.set_cons_zero, List.set_cons_succ]
  refine pureE (i := 1) (L := #[true, true, false, false, false, false, false, false]) (v := ?_) rfl (by rfl) (by kernel_rfl) (by kernel_rfl) (by kernel_rfl) (fun _ _ _ h => h) (by rfl) ?hy25 ?rest25
  case hy25 => intro w; go_simp; (try with_reducible rfl)
  try simp only [Act.put, List.setIfInBounds_toArray, List.set_cons_zero, List.set_cons_succ]
  refine stepK (i := 2) (L := #[true, true, true, false, false, false, false, false]) rfl (by rfl) (by kernel_rfl) (by rfl) (fun K hK => ?_)
  go_simp
  go_at_call 70
  refine (Sub1_any w3.drew (w.heap.size + 1) b.neg A2 n2 c2 b.e hb2 (by omega) (negD b).neg HN.out).mono ?_
  rintro e w4 ⟨rfl, hO4⟩
  have hs4 : w3.heap.size ≤ w4.heap.size := hO4.size
  have hT4 := hT1.keep (hO4.block 0 (by show 0 < w3.heap.size; have := HS1.out; omega) (by omega))
  have hb14 := hO4.block w.heap.size (by show w.heap.size < w3.heap.size; have := HS1.out; omega) (by omega)
  have hb4 := (hO4.block (w.heap.size + 1 + 1) (by show w.heap.size + 1 + 1 < w3.heap.size; have := HS1.out; omega) (by omega)).trans hb3
  have hB4 := hO4.below hB1.drew (by omega) (by show w.heap.size ≤ w3.heap.size; have := HS1.out; omega)
  have g14 := (h1.below hB4 (Nat.le_refl _)).more (lo' := 0) (hi' := w4.heap.size) (Nat.le_refl _) (by have := HS1.out; omega)
  have g24 := (h2.below hB4 (Nat.le_refl _)).more (lo' := 0) (hi' := w4.heap.size) (Nat.le_refl _) (by have := HS1.out; omega)
  refine hK _ _ ⟨fun _ _ => hb14, ?_⟩
  clear hK K hO4 g1 g2 hT1 hB1 hb1 hb2 hb3 p0 p1 p2 p3 p4 p5 q0 q1 q2 q3 q4 q5 hSS
  try simp only [Act.put, List.setIfInBounds_toArray, List.set_cons_zero, List.set_cons_succ]
  refine stepK (i := 3) (L := #[true, true, true, true, false, false, false, false]) rfl (by rfl) (by kernel_rfl) (by rfl) (fun K hK => ?_)
  go_simp
  go_at_call 20
  refine (Add_ok w4 a (negD b) ha (neg_may hb) A1 n1 c1 g14 A2 n2 c2 g24 hT4 r code H.out).mono ?_
  rintro e w5 ⟨A', n', c', rfl, hc', hB5, hI5⟩
  have hs5 := hB5.size
  have hb5 := (hB5.block _ (by have := HS1.out; omega)).trans hb4
  have hBB := hB4.trans (hB5.mono (by have := HS1.out; omega))
  have hb15 := hB5.block w.heap.size (by have := HS1.out; omega)
  have HI := Lib.hid hI5
  obtain ⟨⟨x0, x1, x2⟩, x3, x4, x5⟩ := boxD hb5
  refine hK _ _ ⟨fun _ h => hb15.trans h, ?_⟩
  clear hK K hb4 hB4 hB5 hI5 g14 g24 hT4
  try simp only [Act.put, List.setIfInBounds_toArray, List.set_cons_zero, List.set_cons_succ]
  refine pureE (i := 4) (L := #[true, true, true, true, true, false, false, false]) (v := ?_) rfl (by rfl) (by kernel_rfl) (by kernel_rfl) (by kernel_rfl) (fun _ _ _ h => h) (by rfl) ?hy28 ?rest28
  case hy28 => intro w; go_simp; (try with_reducible rfl)
  try simp only [Act.put, List.setIfInBounds_toArray, List.set_cons_zero, List.set_cons_succ]
  refine pureE (i := 5) (L := #[true, true, true, true, true, true, false, false]) (v := ?_) rfl (by rfl) (by kernel_rfl) (by kernel_rfl) (by kernel_rfl) (fun _ _ _ h => h) (by rfl) ?hy29 ?rest29
  case hy29 => intro w; go_simp; (try with_reducible rfl)
  try simp only [Act.put, List.setIfInBounds_toArray, List.set_cons_zero, List.set_cons_succ]
  refine stepK (i := 6) (L := #[true, true, true, true, true, true, true, false]) rfl (by rfl) (by kernel_rfl) (by rfl) (fun K hK => ?_)
  go_simp
  have hbx := setCell3_other w5 (g := w.heap.size + 1 + 1) (k := w.heap.size) (by omega) (.bool r.neg) (.slice A' n' c') (.int .i64 r.e)
  refine hK _ _ ⟨fun _ h => hbx.trans h, ?_⟩
  clear hK K
  try simp only [Act.put, List.setIfInBounds_toArray, List.set_cons_zero, List.set_cons_succ]
  refine pureE (i := 7) (L := #[true, true, true, true, true, true, true, true]) (v := ?_) rfl (by rfl) (by kernel_rfl) (by kernel_rfl) (by kernel_rfl) (fun _ _ _ h => h) (by rfl) ?hy31 ?rest31
  case hy31 => intro w; go_simp; (try with_reducible rfl)
  try simp only [Act.put, List.setIfInBounds_toArray, List.set_cons_zero, List.set_cons_succ]
  refine doneE (by kernel_rfl) ?_ _
  go_wp2
  refine bodyPost_ret (v := .tuple #[.agg #[.bool r.neg, .slice A' n' c', .int .i64 r.e], .int .i64 code]) (by simp [results, Tryd.results22, go_sem, x0, x1, x2]) rfl ⟨A', n', c', rfl, hc', ?_, ?_⟩
  · exact ((hBB.setCell (by simp; omega) _).setCell (by simp; omega) _).setCell (by simp; omega) _
  · refine Ints.more (lo := w4.heap.size) (hi := w5.heap.size) ?_ (by have := HS1.out; omega) (by simp [World.setCell])
    exact ints_far (ints_far (ints_far HI.out (.inl (by have := HS1.out; simp; omega)) _) (.inl (by have := HS1.out; simp; omega)) _) (.inl (by have := HS1.out; simp; omega)) _
end Dy
end Go.Proofs.YtlbkepiflhchdaaDoor
