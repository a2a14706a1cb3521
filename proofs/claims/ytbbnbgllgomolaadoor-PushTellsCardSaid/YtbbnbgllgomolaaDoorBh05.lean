/- A dyad under way: a walk. -/
/- The exact sum: a walk. -/
/- Sums, differences, halves and comparisons of dyads that may not be; halves: walks. -/
/- A number's dyad: walks. -/
/- limb.at, limb.asked, limb.Right: walks. -/
/- Bits with 0 ahead of them; the bits of limbs, by walks. -/
/- The bits of limbs, by a walk. -/
/- The limbs of bits, by a walk. -/
import Derived.Test.YtbbnbgllgomolaaDoorBh04
import Derived.Test.YtbbnbgllgomolaaDoorBh01
import Derived.Test.YtbbnbgllgomolaaDoorBh02
namespace Go.Proofs.YtbbnbgllgomolaaDoor
open Go.RowKit
namespace Dy
open Dp
theorem fold_over (off : Nat) : ∀ (vs old pre post : List Value) (k : Nat), old.length = vs.length → pre.length = off + k →
    (vs.zipIdx k).foldl (fun (cs : Array Value) (x : Value × Nat) => cs.setIfInBounds (off + x.2) x.1) (pre ++ (old ++ post)).toArray = (pre ++ (vs ++ post)).toArray
  | [], old, pre, post, k, h, _ => by
    have : old = [] := List.eq_nil_of_length_eq_zero h
    subst this
    rfl
  | v :: vs, [], pre, post, k, h, _ => by simp at h
  | v :: vs, u :: old, pre, post, k, h, hk => by
    have ih := fold_over off vs old (pre ++ [v]) post (k + 1) (by simpa using h) (by simp; omega)
    simp only [List.zipIdx_cons, List.foldl_cons]
    have e : ((pre ++ (u :: old ++ post)).toArray.setIfInBounds (off + k) v) = (pre ++ [v] ++ (old ++ post)).toArray := by
      rw [← hk]
      simp
    rw [e, ih]
    simp
theorem fill_one (place : Nat → Option (Nat × Nat)) (i off : Nat) (v : Array Value) (pre old post : List Value) (rest : List (Nat × Value)) (hp : place i = some (off, v.size)) (h1 : old.length = v.size) (h2 : pre.length = off) :
    Instr.fill place (pre ++ (old ++ post)).toArray ((i, .agg v) :: rest) = Instr.fill place (pre ++ (v.toList ++ post)).toArray rest := by
  have hf := fold_over off v.toList old pre post 0 (by simpa using h1) (by omega)
  have hc : (Value.agg v).cells = v := rfl
  have hz : (v.zipIdx.foldl (fun (cs : Array Value) (x : Value × Nat) => cs.setIfInBounds (off + x.2) x.1) (pre ++ (old ++ post)).toArray) = (pre ++ (v.toList ++ post)).toArray := by
    rw [← hf, ← Array.foldl_toList, Array.toList_zipIdx]
  simp only [Instr.fill, hp, hc]
  rw [if_neg (by simp; omega), hz]
theorem Tryd.info74 : (Tryd.prog.info? 74).map (·.zero) = some (some (.agg (#[.bool false, .slice none 0 0, .int .i64 0] ++ rowU zero74))) := by kernel_rfl
theorem places_sum : (Tryd.prog.underlying 74).map (fun d => match d with
    | .struct fields => fields.toList.mapM (fun f => (Tryd.prog.info? f.type).map fun i => (f.offset, i.size))
    | _ => none) = some (some [(0, 3), (3, 74)]) := by kernel_rfl
theorem built_sum (s : Bool) (L : Value) (ex : Int) (ws : List Int) (hl : ws.length = 74) :
    Tryd.prog.built 74 [(0, .agg #[.bool s, L, .int .i64 ex]), (1, .agg (rowU ws))] = some (#[.bool s, L, .int .i64 ex] ++ rowU ws) := by
  have h1 := Tryd.info74
  have h2 := places_sum
  unfold Program.built
  cases hi : Tryd.prog.info? 74 with
  | none => rw [hi] at h1; cases h1
  | some it =>
    cases hu : Tryd.prog.underlying 74 with
    | none => rw [hu] at h2; cases h2
    | some d =>
      rw [hi] at h1
      rw [hu] at h2
      simp only [Option.map_some, Option.some.injEq] at h1 h2
      cases d <;> first
        | (simp only at h2; cases h2; done)
        | skip
      simp only at h2 ⊢
      rw [h1, h2]
      simp only
      have e0 : (Value.agg (#[.bool false, .slice none 0 0, .int .i64 0] ++ rowU zero74)).cells = (([] : List Value) ++ ([Value.bool false, Value.slice none 0 0, Value.int .i64 0] ++ zero74.map (Value.int .u32))).toArray := by
        simp [Value.cells, rowU]
      have hz74 : (zero74.map (Value.int .u32)).length = 74 := by simp [zero74]
      rw [e0, fill_one _ 0 0 #[.bool s, L, .int .i64 ex] [] [Value.bool false, Value.slice none 0 0, Value.int .i64 0] _ _ (by rfl) (by rfl) (by rfl)]
      have e1 : (([] : List Value) ++ ((#[.bool s, L, .int .i64 ex] : Array Value).toList ++ zero74.map (Value.int .u32))).toArray = ([Value.bool s, L, Value.int .i64 ex] ++ (zero74.map (Value.int .u32) ++ [])).toArray := by simp
      rw [e1, fill_one _ 1 3 (rowU ws) [Value.bool s, L, Value.int .i64 ex] (zero74.map (Value.int .u32)) [] _ (by rw [rowU_size, hl]; rfl) (by rw [rowU_size, hl, hz74]) (by rfl)]
      simp [Instr.fill, rowU]
theorem exec_build2 {P : Program} {ev : Operand → Value} {op : Oper} {W : World} (t : TypeId) (i j : Nat) (x y : Operand) (ho : op.op = .build t #[(i, x), (j, y)]) (vx vy : Value) (hx : ev x = vx) (hy : ev y = vy) (cells : Array Value) (h : P.built t [(i, vx), (j, vy)] = some cells) :
    (execOp ev op).run P W = .ok (.value (.agg cells)) W := by
  have hm : P.built t ((#[(i, x), (j, y)] : Array (Nat × Operand)).map fun (i, x) => (i, ev x)).toList = some cells := by
    rw [← h, ← hx, ← hy]
    simp
  unfold execOp
  simp only [ho, Sem.run_bind, run_build W t _ cells hm, Result.andThen_ok, Sem.run_pure]
set_option maxHeartbeats 3200000 in
set_option maxRecDepth 100000 in
/-- dyad.of. -/
theorem of_any (w : World) (lo hi : Nat) (s : Bool) (A : Option Addr) (n c : Nat) (xs : List Int) (ex k : Nat) (hX : Ints w lo hi .u32 A n xs) (hhi : hi ≤ w.heap.size) (hd : Dig 4294967296 xs) (hn : n ≤ 40) (he : ex ≤ 2000) (hk : k ≤ 1024) (kk : Int) (hkk : kk = (ex : Int) + k) :
    Calls Tryd.prog 48 #[.agg #[.bool s, .slice A n c, .int .i64 ex], .int .i64 kk] w fun e w' => ∃ g ws, e = .returned (.pointer (some ⟨g, 0, none⟩)) ∧ Below w.heap.size w w' ∧ w.heap.size ≤ g ∧ g < w'.heap.size ∧ Sum w' g s (.slice none 0 0) kk ws ∧ num 4294967296 ws = num 4294967296 xs * 2 ^ k := by
  have HK := Lib.hid hkk
  have hX2 := hX.alloc hhi (.cells #[.bool s, .slice A n c, .int .i64 ex] 24)
  generalize hw1 : w.alloc (.cells #[.bool s, .slice A n c, .int .i64 ex] 24) = w1 at *
  have hbx : w1.heap[w.heap.size]? = some (.cells #[.bool s, .slice A n c, .int .i64 ex] 24 (0, 0)) := by rw [← hw1]; exact heap_alloc_last _ _
  have hs1 : w1.heap.size = w.heap.size + 1 := by rw [← hw1]; simp
  have HS1 := Lib.hid hs1
  have hB1 : Below w.heap.size w w1 := by rw [← hw1]; exact (Below.refl _ w).alloc (Nat.le_refl _) _
  clear hkk hs1
  go_enter Tryd.func48, Tryd.ntmps48
  go_wp2
  clear hw1
  have hSS : w1.drew.heap[w.heap.size]? = w1.heap[w.heap.size]? := rfl
  refine region_E (fun w' => w'.heap[w.heap.size]? = w1.heap[w.heap.size]?) [] (m := 10) (L := #[false, false, false, false, false, false, false, false, false, false]) (by kernel_rfl) (by rfl) (by rfl) ?_
  refine pureE (i := 0) (L := #[true, false, false, false, false, false, false, false, false, false]) (v := ?_) rfl (by rfl) (by kernel_rfl) (by kernel_rfl) (by kernel_rfl) (fun _ _ _ h => h) (by rfl) ?hy1 ?rest1
  case hy1 => intro w; go_simp; (try with_reducible rfl)
  try simp only [Act.put, List.setIfInBounds_toArray, List.set_cons_zero, List.set_cons_succ]
  refine readE (i := 1) (L := #[true, true, false, false, false, false, false, false, false, false]) (v := .bool s) rfl (by rfl) (by kernel_rfl) (by kernel_rfl) (by kernel_rfl) (fun _ _ _ h => h) (by assumption) (by rfl) ?hyA ?restA
  case hyA =>
    intro w' h1
    have k := (boxD (h1.trans hbx)).1.1
    go_simp
  try simp only [Act.put, List.setIfInBounds_toArray, List.set_cons_zero, List.set_cons_succ]
  refine pureE (i := 2) (L := #[true, true, true, false, false, false, false, false, false, false]) (v := ?_) rfl (by rfl) (by kernel_rfl) (by kernel_rfl) (by kernel_rfl) (fun _ _ _ h => h) (by rfl) ?hy3 ?rest3
  case hy3 => intro w; go_simp; (try with_reducible rfl)
  try simp only [Act.put, List.setIfInBounds_toArray, List.set_cons_zero, List.set_cons_succ]
  refine pureE (i := 3) (L := #[true, true, true, true, false, false, false, false, false, false]) (v := ?_) rfl (by rfl) (by kernel_rfl) (by kernel_rfl) (by kernel_rfl) (fun _ _ _ h => h) (by rfl) ?hy4 ?rest4
  case hy4 => intro w; go_simp; (try with_reducible rfl)
  try simp only [Act.put, List.setIfInBounds_toArray, List.set_cons_zero, List.set_cons_succ]
  refine readE (i := 4) (L := #[true, true, true, true, true, false, false, false, false, false]) (v := .agg #[.bool s, .slice A n c, .int .i64 ex]) rfl (by rfl) (by kernel_rfl) (by kernel_rfl) (by kernel_rfl) (fun _ _ _ h => h) (by assumption) (by rfl) ?hyB ?restB
  case hyB =>
    intro w' h1
    obtain ⟨⟨k1, k2, k3⟩, _⟩ := boxD (h1.trans hbx)
    go_simp
  try simp only [Act.put, List.setIfInBounds_toArray, List.set_cons_zero, List.set_cons_succ]
  refine pureE (i := 5) (L := #[true, true, true, true, true, true, false, false, false, false]) (v := ?_) rfl (by rfl) (by kernel_rfl) (by kernel_rfl) (by kernel_rfl) (fun _ _ _ h => h) (by rfl) ?hy6 ?rest6
  case hy6 => intro w; go_simp; (try with_reducible rfl)
  try simp only [Act.put, List.setIfInBounds_toArray, List.set_cons_zero, List.set_cons_succ]
  refine stepK (i := 6) (L := #[true, true, true, true, true, true, true, false, false, false]) rfl (by rfl) (by kernel_rfl) (by rfl) (fun K hK => ?_)
  go_simp
  go_at_call 55
  refine (widen_any w1.drew lo hi s A n c xs ex k (hX2.drewN 1) (by show hi ≤ w1.heap.size; have := HS1.out; omega) hd hn he hk kk HK.out).mono ?_
  rintro e w2 ⟨ws, rfl, hB2, hl, hdw, hnum⟩
  have hB2' : Below w1.heap.size w1 w2 := (Below.refl _ w1).drew.trans hB2
  have hbx2 := (hB2'.block w.heap.size (by have := HS1.out; omega)).trans hbx
  have hs2 := hB2'.size
  refine hK _ _ ⟨fun _ _ => hB2'.block w.heap.size (by have := HS1.out; omega), ?_⟩
  clear hK K
  try simp only [Act.put, List.setIfInBounds_toArray, List.set_cons_zero, List.set_cons_succ]
  have hbld := built_sum s (.slice none 0 0) kk ws hl
  refine pureE (i := 7) (L := #[true, true, true, true, true, true, true, true, false, false]) (v := .agg (#[.bool s, .slice none 0 0, .int .i64 kk] ++ rowU ws)) rfl (by rfl) (by kernel_rfl) (by kernel_rfl) (by kernel_rfl) (fun _ _ _ h => h) (by rfl) (fun W => exec_build2 74 0 1 (.tmp 8) (.tmp 11) (by rfl) _ _ (by rfl) (by rfl) _ hbld) ?_
  try simp only [Act.put, List.setIfInBounds_toArray, List.set_cons_zero, List.set_cons_succ]
  clear hbld
  
  generalize hC : #[Value.bool s, .slice none 0 0, .int .i64 kk] ++ rowU ws = C at *
  refine stepK (i := 8) (L := #[true, true, true, true, true, true, true, true, true, false]) rfl (by rfl) (by kernel_rfl) (by rfl) (fun K hK => ?_)
  go_simp
  refine hK _ _ ⟨fun _ h => (Below.heap_alloc _ _ _ (by have := HS1.out; omega)).trans h, ?_⟩
  clear hK K
  try simp only [Act.put, List.setIfInBounds_toArray, List.set_cons_zero, List.set_cons_succ]
  refine pureE (i := 9) (L := #[true, true, true, true, true, true, true, true, true, true]) (v := ?_) rfl (by rfl) (by kernel_rfl) (by kernel_rfl) (by kernel_rfl) (fun _ _ _ h => h) (by rfl) ?hy9 ?rest9
  case hy9 => intro w; go_simp; (try with_reducible rfl)
  try simp only [Act.put, List.setIfInBounds_toArray, List.set_cons_zero, List.set_cons_succ]
  refine doneE (by kernel_rfl) ?_ _
  go_wp2
  go_ret
  refine ⟨w2.heap.size, ws, rfl, ((hB1.trans (hB2'.mono (by have := HS1.out; omega))).alloc (by have := HS1.out; omega) _), by have := HS1.out; omega, by simp, ⟨?_, hl, hdw⟩, hnum⟩
  rw [heap_alloc_last, hC]
end Dy
end Go.Proofs.YtbbnbgllgomolaaDoor
namespace Go.Proofs.YtbbnbgllgomolaaDoor
open Go.RowKit
namespace Dy
open Dp
theorem ints_may {w : World} {lo hi : Nat} {A : Option Addr} {n : Nat} {a : Dn} (h : Ints w lo hi .u32 A n (canon 4294967296 a.m)) (ha : a.May) : n ≤ 40 := by
  have h1 := (dn_may ha).1.1
  have h2 := h.len
  omega
def roomE : Nat := 2304
theorem shift_lt {m k : Nat} (h : m < capD) (hk : k ≤ 1024) : m * 2 ^ k < 2 ^ roomE := by
  have h1 : m * 2 ^ k < capD * 2 ^ k := Nat.mul_lt_mul_of_pos_right h (Nat.pow_pos (by decide))
  have h2 : capD * 2 ^ k ≤ 2 ^ roomE := by
    rw [capD_eq, ← Nat.pow_add]
    exact Nat.pow_le_pow_right (by decide) (by rw [capE_eq]; show 1280 + k ≤ 2304; omega)
  exact Nat.lt_of_lt_of_le h1 h2
theorem sum_room {x y : Nat} (hx : x < 2 ^ roomE) (hy : y < 2 ^ roomE) : x + y < 4294967296 ^ 74 := by
  rw [pow32]
  obtain ⟨e, he⟩ : ∃ e, e = 32 * 74 := ⟨_, rfl⟩
  rw [← he]
  have he2 : roomE + 1 ≤ e := by rw [he]; show 2304 + 1 ≤ 32 * 74; decide
  have h : 2 ^ roomE + 2 ^ roomE ≤ 2 ^ e := by
    rw [← Nat.two_mul, ← Nat.pow_succ']
    exact Nat.pow_le_pow_right (by decide) he2
  exact Nat.lt_of_lt_of_le (Nat.add_lt_add hx hy) h
set_option maxHeartbeats 6400000 in
set_option maxRecDepth 100000 in
/-- dyad.Add: dyads that may be. -/
theorem Add_ok (w : World) (a b : Dn) (ha : a.May) (hb : b.May) (A1 : Option Addr) (n1 c1 : Nat) (h1 : Ints w 0 w.heap.size .u32 A1 n1 (canon 4294967296 a.m)) (A2 : Option Addr) (n2 c2 : Nat) (h2 : Ints w 0 w.heap.size .u32 A2 n2 (canon 4294967296 b.m)) (hT : Tab w) (r : Dn) (code : Int) (h : addD a b = (r, code)) :
    Calls Tryd.prog 42 #[.agg #[.bool a.neg, .slice A1 n1 c1, .int .i64 a.e], .agg #[.bool b.neg, .slice A2 n2 c2, .int .i64 b.e]] w (Formed w r code) := by
  have hn1 := ints_may h1 ha
  have hn2 := ints_may h2 hb
  have HM1 := Lib.hid (dn_may ha)
  have HM2 := Lib.hid (dn_may hb)
  have hae := ha.2.1
  have hbe := hb.2.1
  obtain ⟨sd1, _, sn1⟩ := canon_spec 4294967296 a.m (by decide)
  obtain ⟨sd2, _, sn2⟩ := canon_spec 4294967296 b.m (by decide)
  have SN1 := Lib.hid sn1
  have SN2 := Lib.hid sn2
  have H := Lib.hid h
  obtain ⟨M, hK⟩ : ∃ M, max a.e b.e = M := ⟨_, rfl⟩
  have HK := Lib.hid hK
  have hK1 : a.e ≤ M := by omega
  have hK2 : b.e ≤ M := by omega
  have hK3 : M ≤ 1024 := by omega
  have hkab : (a.e < b.e ∧ M = b.e) ∨ (¬ a.e < b.e ∧ M = a.e) := by omega
  generalize hm1 : canon 4294967296 a.m = xs1 at *
  generalize hm2 : canon 4294967296 b.m = xs2 at *
  clear h sn1 sn2 hK hm1 hm2
  generalize hw1 : ((w.alloc (.cells #[.bool a.neg, .slice A1 n1 c1, .int .i64 a.e] 24)).alloc (.cells #[.bool b.neg, .slice A2 n2 c2, .int .i64 b.e] 24)).alloc (.cells #[.bool false, .slice none 0 0, .int .i64 0] 24) = w1
  have hs1 : w1.heap.size = w.heap.size + 3 := by rw [← hw1]; simp
  have HS1 := Lib.hid hs1
  have hB1 : Below w.heap.size w w1 := by rw [← hw1]; exact (((Below.refl _ w).alloc (Nat.le_refl _) _).alloc (by simp) _).alloc (by simp; omega) _
  have hb1 : w1.heap[w.heap.size]? = some (.cells #[.bool a.neg, .slice A1 n1 c1, .int .i64 a.e] 24 (0, 0)) := by
    rw [← hw1, Below.heap_alloc _ _ _ (by simp; omega), Below.heap_alloc _ _ _ (by simp)]
    exact heap_alloc_last _ _
  have hb2 : w1.heap[w.heap.size + 1]? = some (.cells #[.bool b.neg, .slice A2 n2 c2, .int .i64 b.e] 24 (0, 0)) := by
    rw [← hw1, Below.heap_alloc _ _ _ (by simp)]
    exact heap_alloc2_new _ _ _
  have hb3 : w1.heap[w.heap.size + 1 + 1]? = some (.cells #[.bool false, .slice none 0 0, .int .i64 0] 24 (0, 0)) := by
    rw [← hw1]
    have := heap_alloc_last ((w.alloc (.cells #[.bool a.neg, .slice A1 n1 c1, .int .i64 a.e] 24)).alloc (.cells #[.bool b.neg, .slice A2 n2 c2, .int .i64 b.e] 24)) (.cells #[.bool false, .slice none 0 0, .int .i64 0] 24)
    simpa using this
  have g1 := h1.below hB1 (Nat.le_refl _)
  have g2 := h2.below hB1 (Nat.le_refl _)
  have hT1 := hT.below hB1 hT.lt
  have h0 := hT.lt
  clear hs1
  obtain ⟨⟨p0, p1, p2⟩, p3, p4, p5⟩ := boxD hb1
  obtain ⟨⟨q0, q1, q2⟩, q3, q4, q5⟩ := boxD hb2
  go_enter Tryd.func42, Tryd.ntmps42
  go_wp2_with fail
  refine (Check_ok w1 0 w.heap.size a.neg A1 n1 c1 xs1 a.e g1 (by have := HS1.out; omega) HM1.out).mono ?_
  rintro e w2 ⟨rfl, hB2⟩
  have hs2 := hB2.size
  replace g1 := g1.below hB2 (by have := HS1.out; omega)
  replace g2 := g2.below hB2 (by have := HS1.out; omega)
  replace hT1 := hT1.below hB2 (by have := HS1.out; omega)
  replace hb1 := (hB2.block _ (by have := HS1.out; omega)).trans hb1
  replace hb2 := (hB2.block _ (by have := HS1.out; omega)).trans hb2
  replace hb3 := (hB2.block _ (by have := HS1.out; omega)).trans hb3
  replace hB1 := hB1.trans (hB2.mono (by have := HS1.out; omega))
  clear hB2 p0 p1 p2 p3 p4 p5 q0 q1 q2 q3 q4 q5 hw1
  obtain ⟨⟨p0, p1, p2⟩, p3, p4, p5⟩ := boxD hb1
  obtain ⟨⟨q0, q1, q2⟩, q3, q4, q5⟩ := boxD hb2
  go_wp2_with fail
  refine (Check_ok w2 0 w.heap.size b.neg A2 n2 c2 xs2 b.e g2 (by have := HS1.out; omega) HM2.out).mono ?_
  rintro e w3 ⟨rfl, hB2⟩
  have hs3 := hB2.size
  replace g1 := g1.below hB2 (by have := HS1.out; omega)
  replace g2 := g2.below hB2 (by have := HS1.out; omega)
  replace hT1 := hT1.below hB2 (by have := HS1.out; omega)
  replace hb1 := (hB2.block _ (by have := HS1.out; omega)).trans hb1
  replace hb2 := (hB2.block _ (by have := HS1.out; omega)).trans hb2
  replace hb3 := (hB2.block _ (by have := HS1.out; omega)).trans hb3
  replace hB1 := hB1.trans (hB2.mono (by have := HS1.out; omega))
  clear hB2 p0 p1 p2 p3 p4 p5 q0 q1 q2 q3 q4 q5
  obtain ⟨⟨p0, p1, p2⟩, p3, p4, p5⟩ := boxD hb1
  obtain ⟨⟨q0, q1, q2⟩, q3, q4, q5⟩ := boxD hb2
  rcases hkab with ⟨hkl, hke⟩ | ⟨hkl, hke⟩
  · have HKE := Lib.hid hke
    clear hke
    go_wp2_with fail
    refine (of_any w3 0 w.heap.size a.neg A1 n1 c1 xs1 a.e (M - a.e) g1 (by have := HS1.out; omega) sd1 hn1 (by omega) (by omega) _ (by have := HKE.out; omega)).mono ?_
    rintro e w4 ⟨g, ws, rfl, hB4, hg1, hg2, hS4, hnw⟩
    have hs4 := hB4.size
    replace g1 := g1.below hB4 (by have := HS1.out; omega)
    replace g2 := g2.below hB4 (by have := HS1.out; omega)
    replace hT1 := hT1.below hB4 (by have := HS1.out; omega)
    replace hb1 := (hB4.block _ (by have := HS1.out; omega)).trans hb1
    replace hb2 := (hB4.block _ (by have := HS1.out; omega)).trans hb2
    replace hb3 := (hB4.block _ (by have := HS1.out; omega)).trans hb3
    replace hB1 := hB1.trans (hB4.mono (by have := HS1.out; omega))
    have HNW := Lib.hid hnw
    clear hB4 p0 p1 p2 p3 p4 p5 q0 q1 q2 q3 q4 q5 hnw
    go_wp2_with fail
    have hSS : w4.drew.heap[w.heap.size + 1]? = w4.heap[w.heap.size + 1]? := rfl
    refine region_E (fun w' => w'.heap[w.heap.size + 1]? = w4.heap[w.heap.size + 1]?) [] (m := 7) (L := #[false, false, false, false, false, false, false]) (by kernel_rfl) (by rfl) (by rfl) ?_
    refine pureE (i := 0) (L := #[true, false, false, false, false, false, false]) (v := ?_) rfl (by rfl) (by kernel_rfl) (by kernel_rfl) (by kernel_rfl) (fun _ _ _ h => h) (by rfl) ?hy10 ?rest10
    case hy10 => intro w; go_simp; (try with_reducible rfl)
    try simp only [Act.put, List.setIfInBounds_toArray, List.set_cons_zero, List.set_cons_succ]
    refine pureE (i := 1) (L := #[true, true, false, false, false, false, false]) (v := ?_) rfl (by rfl) (by kernel_rfl) (by kernel_rfl) (by kernel_rfl) (fun _ _ _ h => h) (by rfl) ?hy11 ?rest11
    case hy11 => intro w; go_simp; (try with_reducible rfl)
    try simp only [Act.put, List.setIfInBounds_toArray, List.set_cons_zero, List.set_cons_succ]
    refine readE (i := 2) (L := #[true, true, true, false, false, false, false]) (v := .bool b.neg) rfl (by rfl) (by kernel_rfl) (by kernel_rfl) (by kernel_rfl) (fun _ _ _ h => h) (by assumption) (by rfl) ?hyA1 ?restA1
    case hyA1 =>
      intro w' h1
      have k := (boxD (h1.trans hb2)).1.1
      go_simp
    try simp only [Act.put, List.setIfInBounds_toArray, List.set_cons_zero, List.set_cons_succ]
    refine readE (i := 3) (L := #[true, true, true, true, false, false, false]) (v := .agg #[.bool b.neg, .slice A2 n2 c2, .int .i64 b.e]) rfl (by rfl) (by kernel_rfl) (by kernel_rfl) (by kernel_rfl) (fun _ _ _ h => h) (by assumption) (by rfl) ?hyB1 ?restB1
    case hyB1 =>
      intro w' h1
      obtain ⟨⟨k1, k2, k3⟩, _⟩ := boxD (h1.trans hb2)
      go_simp
    try simp only [Act.put, List.setIfInBounds_toArray, List.set_cons_zero, List.set_cons_succ]
    refine pureE (i := 4) (L := #[true, true, true, true, true, false, false]) (v := ?_) rfl (by rfl) (by kernel_rfl) (by kernel_rfl) (by kernel_rfl) (fun _ _ _ h => h) (by rfl) ?hy14 ?rest14
    case hy14 => intro w; go_simp; (try with_reducible rfl)
    try simp only [Act.put, List.setIfInBounds_toArray, List.set_cons_zero, List.set_cons_succ]
    refine stepK (i := 5) (L := #[true, true, true, true, true, true, false]) rfl (by rfl) (by kernel_rfl) (by rfl) (fun K hK => ?_)
    go_simp
    go_at_call 55
    refine (widen_any w4.drew 0 w.heap.size b.neg A2 n2 c2 xs2 b.e (M - b.e) (g2.drewN 1) (by show w.heap.size ≤ w4.heap.size; have := HS1.out; omega) sd2 hn2 (by omega) (by omega) _ (by have := HKE.out; omega)).mono ?_
    rintro e w5 ⟨us, rfl, hB5', hul, hud, hnu⟩
    have hB5 : Below w4.heap.size w4 w5 := (Below.refl _ w4).drew.trans hB5'
    clear hB5'
    have hs5 := hB5.size
    replace g1 := g1.below hB5 (by have := HS1.out; omega)
    replace hT1 := hT1.below hB5 (by have := HS1.out; omega)
    have hb2' := hB5.block (w.heap.size + 1) (by have := HS1.out; omega)
    replace hb3 := (hB5.block _ (by have := HS1.out; omega)).trans hb3
    replace hB1 := hB1.trans (hB5.mono (by have := HS1.out; omega))
    have hS5 := hS4.of_heap (hB5.block g hg2)
    have HNU := Lib.hid hnu
    clear hB5 hnu hS4
    refine hK _ _ ⟨fun _ _ => hb2', ?_⟩
    clear hK K
    try simp only [Act.put, List.setIfInBounds_toArray, List.set_cons_zero, List.set_cons_succ]
    obtain ⟨sr, mr, hpl⟩ : ∃ sr mr, plusS a.neg (num 4294967296 ws) b.neg (num 4294967296 us) = (sr, mr) := ⟨_, _, rfl⟩
    have hroom : num 4294967296 ws + num 4294967296 us < 4294967296 ^ 74 := by
      rw [HNW.out, HNU.out, SN1.out, SN2.out]
      exact sum_room (shift_lt ha.1 (by omega)) (shift_lt hb.1 (by omega))
    have hform : formed sr mr M = (r, code) := by
      have h1 := H.out
      unfold addD at h1
      rw [HK.out] at h1
      rw [HNW.out, HNU.out, SN1.out, SN2.out] at hpl
      rw [hpl] at h1
      exact h1
    have HPL := Lib.hid hpl
    have HR := Lib.hid hroom
    have HF := Lib.hid hform
    clear hpl hroom hform
    refine stepK (i := 6) (L := #[true, true, true, true, true, true, true]) rfl (by rfl) (by kernel_rfl) (by rfl) (fun K hK => ?_)
    go_simp
    go_at_call 54
    refine (add_any w5 g a.neg b.neg _ _ ws us hS5 (by omega) hul hud HR.out sr mr HPL.out).mono ?_
    rintro e w6 ⟨rfl, hO6, vs, hS6, hnv⟩
    have hs6 := hO6.size
    replace g1 := g1
    have hb6 := (hO6.block (w.heap.size + 1 + 1) (by have := HS1.out; omega) (by have := HS1.out; omega)).trans hb3
    have hT6 := hT1.keep (hO6.block 0 (by omega) (by have := HS1.out; omega))
    have hB6 := hO6.below hB1 (by have := HS1.out; omega) (by have := HS1.out; omega)
    refine hK _ _ ⟨fun _ h => (hO6.block _ (by have := HS1.out; omega) (by have := HS1.out; omega)).trans h, ?_⟩
    clear hK K hO6 g1 hb3 hT1 hB1 hS5
    try simp only [Act.put, List.setIfInBounds_toArray, List.set_cons_zero, List.set_cons_succ]
    refine doneE (by kernel_rfl) ?_ _
    go_wp2_with fail
    have hf : formed sr (num 4294967296 vs) b.e = (r, code) := by rw [hnv, ← HKE.out]; exact HF.out
    refine (form_any w6 g (by omega) sr _ b.e (by omega) vs hS6 hT6 r code hf).mono ?_
    rintro e w7 ⟨A', n', c', rfl, hc', hB7, hI7⟩
    have hs7 := hB7.size
    have hb7 := (hB7.block _ (by have := HS1.out; omega)).trans hb6
    have hBB := hB6.trans (hB7.mono (by have := HS1.out; omega))
    have HI := Lib.hid hI7
    obtain ⟨⟨x0, x1, x2⟩, x3, x4, x5⟩ := boxD hb7
    clear hf hS6 hT6 hB6 hb6 hB7 hI7 hnv
    go_wp2
    refine bodyPost_ret (v := .tuple #[.agg #[.bool r.neg, .slice A' n' c', .int .i64 r.e], .int .i64 code]) (by simp [results, Tryd.results42, go_sem, x0, x1, x2]) rfl ⟨A', n', c', rfl, hc', ?_, ?_⟩
    · exact ((hBB.setCell (by simp; omega) _).setCell (by simp; omega) _).setCell (by simp; omega) _
    · refine Ints.more (lo := w6.heap.size) (hi := w7.heap.size) ?_ (by have := HS1.out; omega) (by simp [World.setCell])
      exact ints_far (ints_far (ints_far HI.out (.inl (by have := HS1.out; simp; omega)) _) (.inl (by have := HS1.out; simp; omega)) _) (.inl (by have := HS1.out; simp; omega)) _
  · have HKE := Lib.hid hke
    clear hke
    go_wp2_with fail
    refine (of_any w3 0 w.heap.size a.neg A1 n1 c1 xs1 a.e (M - a.e) g1 (by have := HS1.out; omega) sd1 hn1 (by omega) (by omega) _ (by have := HKE.out; omega)).mono ?_
    rintro e w4 ⟨g, ws, rfl, hB4, hg1, hg2, hS4, hnw⟩
    have hs4 := hB4.size
    replace g1 := g1.below hB4 (by have := HS1.out; omega)
    replace g2 := g2.below hB4 (by have := HS1.out; omega)
    replace hT1 := hT1.below hB4 (by have := HS1.out; omega)
    replace hb1 := (hB4.block _ (by have := HS1.out; omega)).trans hb1
    replace hb2 := (hB4.block _ (by have := HS1.out; omega)).trans hb2
    replace hb3 := (hB4.block _ (by have := HS1.out; omega)).trans hb3
    replace hB1 := hB1.trans (hB4.mono (by have := HS1.out; omega))
    have HNW := Lib.hid hnw
    clear hB4 p0 p1 p2 p3 p4 p5 q0 q1 q2 q3 q4 q5 hnw
    go_wp2_with fail
    have hSS : w4.drew.heap[w.heap.size + 1]? = w4.heap[w.heap.size + 1]? := rfl
    refine region_E (fun w' => w'.heap[w.heap.size + 1]? = w4.heap[w.heap.size + 1]?) [] (m := 7) (L := #[false, false, false, false, false, false, false]) (by kernel_rfl) (by rfl) (by rfl) ?_
    refine pureE (i := 0) (L := #[true, false, false, false, false, false, false]) (v := ?_) rfl (by rfl) (by kernel_rfl) (by kernel_rfl) (by kernel_rfl) (fun _ _ _ h => h) (by rfl) ?hy17 ?rest17
    case hy17 => intro w; go_simp; (try with_reducible rfl)
    try simp only [Act.put, List.setIfInBounds_toArray, List.set_cons_zero, List.set_cons_succ]
    refine pureE (i := 1) (L := #[true, true, false, false, false, false, false]) (v := ?_) rfl (by rfl) (by kernel_rfl) (by kernel_rfl) (by kernel_rfl) (fun _ _ _ h => h) (by rfl) ?hy18 ?rest18
    case hy18 => intro w; go_simp; (try with_reducible rfl)
    try simp only [Act.put, List.setIfInBounds_toArray, List.set_cons_zero, List.set_cons_succ]
    refine readE (i := 2) (L := #[true, true, true, false, false, false, false]) (v := .bool b.neg) rfl (by rfl) (by kernel_rfl) (by kernel_rfl) (by kernel_rfl) (fun _ _ _ h => h) (by assumption) (by rfl) ?hyA2 ?restA2
    case hyA2 =>
      intro w' h1
      have k := (boxD (h1.trans hb2)).1.1
      go_simp
    try simp only [Act.put, List.setIfInBounds_toArray, List.set_cons_zero, List.set_cons_succ]
    refine readE (i := 3) (L := #[true, true, true, true, false, false, false]) (v := .agg #[.bool b.neg, .slice A2 n2 c2, .int .i64 b.e]) rfl (by rfl) (by kernel_rfl) (by kernel_rfl) (by kernel_rfl) (fun _ _ _ h => h) (by assumption) (by rfl) ?hyB2 ?restB2
    case hyB2 =>
      intro w' h1
      obtain ⟨⟨k1, k2, k3⟩, _⟩ := boxD (h1.trans hb2)
      go_simp
    try simp only [Act.put, List.setIfInBounds_toArray, List.set_cons_zero, List.set_cons_succ]
    refine pureE (i := 4) (L := #[true, true, true, true, true, false, false]) (v := ?_) rfl (by rfl) (by kernel_rfl) (by kernel_rfl) (by kernel_rfl) (fun _ _ _ h => h) (by rfl) ?hy21 ?rest21
    case hy21 => intro w; go_simp; (try with_reducible rfl)
    try simp only [Act.put, List.setIfInBounds_toArray, List.set_cons_zero, List.set_cons_succ]
    refine stepK (i := 5) (L := #[true, true, true, true, true, true, false]) rfl (by rfl) (by kernel_rfl) (by rfl) (fun K hK => ?_)
    go_simp
    go_at_call 55
    refine (widen_any w4.drew 0 w.heap.size b.neg A2 n2 c2 xs2 b.e (M - b.e) (g2.drewN 1) (by show w.heap.size ≤ w4.heap.size; have := HS1.out; omega) sd2 hn2 (by omega) (by omega) _ (by have := HKE.out; omega)).mono ?_
    rintro e w5 ⟨us, rfl, hB5', hul, hud, hnu⟩
    have hB5 : Below w4.heap.size w4 w5 := (Below.refl _ w4).drew.trans hB5'
    clear hB5'
    have hs5 := hB5.size
    replace g1 := g1.below hB5 (by have := HS1.out; omega)
    replace hT1 := hT1.below hB5 (by have := HS1.out; omega)
    have hb2' := hB5.block (w.heap.size + 1) (by have := HS1.out; omega)
    replace hb3 := (hB5.block _ (by have := HS1.out; omega)).trans hb3
    replace hB1 := hB1.trans (hB5.mono (by have := HS1.out; omega))
    have hS5 := hS4.of_heap (hB5.block g hg2)
    have HNU := Lib.hid hnu
    clear hB5 hnu hS4
    refine hK _ _ ⟨fun _ _ => hb2', ?_⟩
    clear hK K
    try simp only [Act.put, List.setIfInBounds_toArray, List.set_cons_zero, List.set_cons_succ]
    obtain ⟨sr, mr, hpl⟩ : ∃ sr mr, plusS a.neg (num 4294967296 ws) b.neg (num 4294967296 us) = (sr, mr) := ⟨_, _, rfl⟩
    have hroom : num 4294967296 ws + num 4294967296 us < 4294967296 ^ 74 := by
      rw [HNW.out, HNU.out, SN1.out, SN2.out]
      exact sum_room (shift_lt ha.1 (by omega)) (shift_lt hb.1 (by omega))
    have hform : formed sr mr M = (r, code) := by
      have h1 := H.out
      unfold addD at h1
      rw [HK.out] at h1
      rw [HNW.out, HNU.out, SN1.out, SN2.out] at hpl
      rw [hpl] at h1
      exact h1
    have HPL := Lib.hid hpl
    have HR := Lib.hid hroom
    have HF := Lib.hid hform
    clear hpl hroom hform
    refine stepK (i := 6) (L := #[true, true, true, true, true, true, true]) rfl (by rfl) (by kernel_rfl) (by rfl) (fun K hK => ?_)
    go_simp
    go_at_call 54
    refine (add_any w5 g a.neg b.neg _ _ ws us hS5 (by omega) hul hud HR.out sr mr HPL.out).mono ?_
    rintro e w6 ⟨rfl, hO6, vs, hS6, hnv⟩
    have hs6 := hO6.size
    replace g1 := g1
    have hb6 := (hO6.block (w.heap.size + 1 + 1) (by have := HS1.out; omega) (by have := HS1.out; omega)).trans hb3
    have hT6 := hT1.keep (hO6.block 0 (by omega) (by have := HS1.out; omega))
    have hB6 := hO6.below hB1 (by have := HS1.out; omega) (by have := HS1.out; omega)
    refine hK _ _ ⟨fun _ h => (hO6.block _ (by have := HS1.out; omega) (by have := HS1.out; omega)).trans h, ?_⟩
    clear hK K hO6 g1 hb3 hT1 hB1 hS5
    try simp only [Act.put, List.setIfInBounds_toArray, List.set_cons_zero, List.set_cons_succ]
    refine doneE (by kernel_rfl) ?_ _
    go_wp2_with fail
    have hf : formed sr (num 4294967296 vs) a.e = (r, code) := by rw [hnv, ← HKE.out]; exact HF.out
    refine (form_any w6 g (by omega) sr _ a.e (by omega) vs hS6 hT6 r code hf).mono ?_
    rintro e w7 ⟨A', n', c', rfl, hc', hB7, hI7⟩
    have hs7 := hB7.size
    have hb7 := (hB7.block _ (by have := HS1.out; omega)).trans hb6
    have hBB := hB6.trans (hB7.mono (by have := HS1.out; omega))
    have HI := Lib.hid hI7
    obtain ⟨⟨x0, x1, x2⟩, x3, x4, x5⟩ := boxD hb7
    clear hf hS6 hT6 hB6 hb6 hB7 hI7 hnv
    go_wp2
    refine bodyPost_ret (v := .tuple #[.agg #[.bool r.neg, .slice A' n' c', .int .i64 r.e], .int .i64 code]) (by simp [results, Tryd.results42, go_sem, x0, x1, x2]) rfl ⟨A', n', c', rfl, hc', ?_, ?_⟩
    · exact ((hBB.setCell (by simp; omega) _).setCell (by simp; omega) _).setCell (by simp; omega) _
    · refine Ints.more (lo := w6.heap.size) (hi := w7.heap.size) ?_ (by have := HS1.out; omega) (by simp [World.setCell])
      exact ints_far (ints_far (ints_far HI.out (.inl (by have := HS1.out; simp; omega)) _) (.inl (by have := HS1.out; simp; omega)) _) (.inl (by have := HS1.out; simp; omega)) _
end Dy
end Go.Proofs.YtbbnbgllgomolaaDoor
namespace Go.Proofs.YtbbnbgllgomolaaDoor
open Go.RowKit
namespace Dy
open Dp
/-- What is answered of dyads that may not be. -/
def Bad (w : World) (e : Ending) (w' : World) : Prop := e = .returned (.tuple #[.agg #[.bool false, .slice none 0 0, .int .i64 0], .int .i64 8]) ∧ Below w.heap.size w w'
set_option maxHeartbeats 1600000 in
set_option maxRecDepth 100000 in
/-- dyad.Add: dyads that may not be. -/
theorem Add_bad (w : World) (s1 s2 : Bool) (A1 A2 : Option Addr) (n1 c1 n2 c2 : Nat) (xs1 xs2 : List Int) (e1 e2 : Int) (h1 : Ints w 0 w.heap.size .u32 A1 n1 xs1) (h2 : Ints w 0 w.heap.size .u32 A2 n2 xs2) (h : ¬ MayD s1 xs1 e1 ∨ ¬ MayD s2 xs2 e2) :
    Calls Tryd.prog 42 #[.agg #[.bool s1, .slice A1 n1 c1, .int .i64 e1], .agg #[.bool s2, .slice A2 n2 c2, .int .i64 e2]] w (Bad w) := by
  generalize hw1 : ((w.alloc (.cells #[.bool s1, .slice A1 n1 c1, .int .i64 e1] 24)).alloc (.cells #[.bool s2, .slice A2 n2 c2, .int .i64 e2] 24)).alloc (.cells #[.bool false, .slice none 0 0, .int .i64 0] 24) = w1
  have hs1 : w1.heap.size = w.heap.size + 3 := by rw [← hw1]; simp
  have HS1 := Lib.hid hs1
  have hB1 : Below w.heap.size w w1 := by rw [← hw1]; exact (((Below.refl _ w).alloc (Nat.le_refl _) _).alloc (by simp) _).alloc (by simp; omega) _
  have hb1 : w1.heap[w.heap.size]? = some (.cells #[.bool s1, .slice A1 n1 c1, .int .i64 e1] 24 (0, 0)) := by
    rw [← hw1, Below.heap_alloc _ _ _ (by simp; omega), Below.heap_alloc _ _ _ (by simp)]
    exact heap_alloc_last _ _
  have hb2 : w1.heap[w.heap.size + 1]? = some (.cells #[.bool s2, .slice A2 n2 c2, .int .i64 e2] 24 (0, 0)) := by
    rw [← hw1, Below.heap_alloc _ _ _ (by simp)]
    exact heap_alloc2_new _ _ _
  have hb3 : w1.heap[w.heap.size + 1 + 1]? = some (.cells #[.bool false, .slice none 0 0, .int .i64 0] 24 (0, 0)) := by
    rw [← hw1]
    have := heap_alloc_last ((w.alloc (.cells #[.bool s1, .slice A1 n1 c1, .int .i64 e1] 24)).alloc (.cells #[.bool s2, .slice A2 n2 c2, .int .i64 e2] 24)) (.cells #[.bool false, .slice none 0 0, .int .i64 0] 24)
    simpa using this
  have g1 := h1.below hB1 (Nat.le_refl _)
  have g2 := h2.below hB1 (Nat.le_refl _)
  clear hs1
  obtain ⟨⟨p0, p1, p2⟩, p3, p4, p5⟩ := boxD hb1
  obtain ⟨⟨q0, q1, q2⟩, q3, q4, q5⟩ := boxD hb2
  by_cases hm : MayD s1 xs1 e1
  · have hm2 := h.resolve_left (fun k => k hm)
    clear h
    go_enter Tryd.func42, Tryd.ntmps42
    go_wp2_with fail
    refine (Check_ok w1 0 w.heap.size s1 A1 n1 c1 xs1 e1 g1 (by have := HS1.out; omega) hm).mono ?_
    rintro e w2 ⟨rfl, hB2⟩
    have hs2 := hB2.size
    replace g2 := g2.below hB2 (by have := HS1.out; omega)
    replace hb2 := (hB2.block _ (by have := HS1.out; omega)).trans hb2
    replace hb3 := (hB2.block _ (by have := HS1.out; omega)).trans hb3
    replace hB1 := hB1.trans (hB2.mono (by have := HS1.out; omega))
    clear hB2 p0 p1 p2 p3 p4 p5 q0 q1 q2 q3 q4 q5 hw1 hm
    obtain ⟨⟨q0, q1, q2⟩, q3, q4, q5⟩ := boxD hb2
    go_wp2_with fail
    refine (Check_bad w2 0 w.heap.size s2 A2 n2 c2 xs2 e2 g2 (by have := HS1.out; omega) hm2).mono ?_
    rintro e w3 ⟨rfl, hB2⟩
    replace hb3 := (hB2.block _ (by have := HS1.out; omega)).trans hb3
    replace hB1 := hB1.trans (hB2.mono (by have := HS1.out; omega))
    clear hB2 q0 q1 q2 q3 q4 q5 hm2
    obtain ⟨⟨x0, x1, x2⟩, x3, x4, x5⟩ := boxD hb3
    go_wp2
    refine bodyPost_ret (v := .tuple #[.agg #[.bool false, .slice none 0 0, .int .i64 0], .int .i64 8]) (by simp [results, Tryd.results42, go_sem, x0, x1, x2]) rfl ⟨rfl, ?_⟩
    exact ((hB1.setCell (by simp; omega) _).setCell (by simp; omega) _).setCell (by simp; omega) _
  · clear h
    go_enter Tryd.func42, Tryd.ntmps42
    go_wp2_with fail
    refine (Check_bad w1 0 w.heap.size s1 A1 n1 c1 xs1 e1 g1 (by have := HS1.out; omega) hm).mono ?_
    rintro e w2 ⟨rfl, hB2⟩
    replace hb3 := (hB2.block _ (by have := HS1.out; omega)).trans hb3
    replace hB1 := hB1.trans (hB2.mono (by have := HS1.out; omega))
    clear hB2 p0 p1 p2 p3 p4 p5 q0 q1 q2 q3 q4 q5 hw1 hm
    obtain ⟨⟨x0, x1, x2⟩, x3, x4, x5⟩ := boxD hb3
    go_wp2
    refine bodyPost_ret (v := .tuple #[.agg #[.bool false, .slice none 0 0, .int .i64 0], .int .i64 8]) (by simp [results, Tryd.results42, go_sem, x0, x1, x2]) rfl ⟨rfl, ?_⟩
    exact ((hB1.setCell (by simp; omega) _).setCell (by simp; omega) _).setCell (by simp; omega) _
set_option maxHeartbeats 1600000 in
set_option maxRecDepth 100000 in
/-- dyad.Half: dyads that may not be. -/
theorem Half_bad (w : World) (s1 : Bool) (A1 : Option Addr) (n1 c1 : Nat) (xs1 : List Int) (e1 : Int) (h1 : Ints w 0 w.heap.size .u32 A1 n1 xs1) (hm : ¬ MayD s1 xs1 e1) :
    Calls Tryd.prog 21 #[.agg #[.bool s1, .slice A1 n1 c1, .int .i64 e1]] w (Bad w) := by
  generalize hw1 : (w.alloc (.cells #[.bool s1, .slice A1 n1 c1, .int .i64 e1] 24)).alloc (.cells #[.bool false, .slice none 0 0, .int .i64 0] 24) = w1
  have hs1 : w1.heap.size = w.heap.size + 2 := by rw [← hw1]; simp
  have HS1 := Lib.hid hs1
  have hB1 : Below w.heap.size w w1 := by rw [← hw1]; exact ((Below.refl _ w).alloc (Nat.le_refl _) _).alloc (by simp) _
  have hb1 : w1.heap[w.heap.size]? = some (.cells #[.bool s1, .slice A1 n1 c1, .int .i64 e1] 24 (0, 0)) := by
    rw [← hw1, Below.heap_alloc _ _ _ (by simp)]
    exact heap_alloc_last _ _
  have hb3 : w1.heap[w.heap.size + 1]? = some (.cells #[.bool false, .slice none 0 0, .int .i64 0] 24 (0, 0)) := by
    rw [← hw1]
    exact heap_alloc2_new _ _ _
  have g1 := h1.below hB1 (Nat.le_refl _)
  clear hs1
  obtain ⟨⟨p0, p1, p2⟩, p3, p4, p5⟩ := boxD hb1
  go_enter Tryd.func21, Tryd.ntmps21
  go_wp2_with fail
  refine (Check_bad w1 0 w.heap.size s1 A1 n1 c1 xs1 e1 g1 (by have := HS1.out; omega) hm).mono ?_
  rintro e w2 ⟨rfl, hB2⟩
  replace hb3 := (hB2.block _ (by have := HS1.out; omega)).trans hb3
  replace hB1 := hB1.trans (hB2.mono (by have := HS1.out; omega))
  clear hB2 p0 p1 p2 p3 p4 p5 hw1 hm
  obtain ⟨⟨x0, x1, x2⟩, x3, x4, x5⟩ := boxD hb3
  go_wp2
  refine bodyPost_ret (v := .tuple #[.agg #[.bool false, .slice none 0 0, .int .i64 0], .int .i64 8]) (by simp [results, Tryd.results21, go_sem, x0, x1, x2]) rfl ⟨rfl, ?_⟩
  exact ((hB1.setCell (by simp) _).setCell (by simp) _).setCell (by simp) _
theorem Sum.expo {w : World} {g : Nat} {s : Bool} {L : Value} {ex : Int} {ws : List Int} (h : Sum w g s L ex ws) (t : Int) : Sum (w.setCell ⟨g, 2, none⟩ (.int .i64 t)) g s L t ws :=
  ⟨by rw [heap_setCell_same w g _ _ _ _ h.blk]; congr 2; apply Array.ext'; simp, h.len, h.dig⟩
set_option maxHeartbeats 1600000 in
set_option maxRecDepth 100000 in
/-- dyad.Half: dyads that may be. -/
theorem Half_ok (w : World) (a : Dn) (ha : a.May) (A1 : Option Addr) (n1 c1 : Nat) (h1 : Ints w 0 w.heap.size .u32 A1 n1 (canon 4294967296 a.m)) (hT : Tab w) (r : Dn) (code : Int) (h : halfD a = (r, code)) :
    Calls Tryd.prog 21 #[.agg #[.bool a.neg, .slice A1 n1 c1, .int .i64 a.e]] w (Formed w r code) := by
  have hn1 := ints_may h1 ha
  have HM1 := Lib.hid (dn_may ha)
  have hae := ha.2.1
  obtain ⟨sd1, _, sn1⟩ := canon_spec 4294967296 a.m (by decide)
  have SN1 := Lib.hid sn1
  have H := Lib.hid h
  generalize hm1 : canon 4294967296 a.m = xs1 at *
  clear h sn1 hm1
  have h0 := hT.lt
  generalize hw1 : (w.alloc (.cells #[.bool a.neg, .slice A1 n1 c1, .int .i64 a.e] 24)).alloc (.cells #[.bool false, .slice none 0 0, .int .i64 0] 24) = w1
  have hs1 : w1.heap.size = w.heap.size + 2 := by rw [← hw1]; simp
  have HS1 := Lib.hid hs1
  have hB1 : Below w.heap.size w w1 := by rw [← hw1]; exact ((Below.refl _ w).alloc (Nat.le_refl _) _).alloc (by simp) _
  have hb1 : w1.heap[w.heap.size]? = some (.cells #[.bool a.neg, .slice A1 n1 c1, .int .i64 a.e] 24 (0, 0)) := by
    rw [← hw1, Below.heap_alloc _ _ _ (by simp)]
    exact heap_alloc_last _ _
  have hb3 : w1.heap[w.heap.size + 1]? = some (.cells #[.bool false, .slice none 0 0, .int .i64 0] 24 (0, 0)) := by
    rw [← hw1]
    exact heap_alloc2_new _ _ _
  have g1 := h1.below hB1 (Nat.le_refl _)
  clear hs1
  obtain ⟨⟨p0, p1, p2⟩, p3, p4, p5⟩ := boxD hb1
  have hT1 := hT.below hB1 hT.lt
  go_enter Tryd.func21, Tryd.ntmps21
  go_wp2_with fail
  refine (Check_ok w1 0 w.heap.size a.neg A1 n1 c1 xs1 a.e g1 (by have := HS1.out; omega) HM1.out).mono ?_
  rintro e w2 ⟨rfl, hB2⟩
  have hs2 := hB2.size
  replace g1 := g1.below hB2 (by have := HS1.out; omega)
  replace hT1 := hT1.below hB2 (by have := HS1.out; omega)
  replace hb1 := (hB2.block _ (by have := HS1.out; omega)).trans hb1
  replace hb3 := (hB2.block _ (by have := HS1.out; omega)).trans hb3
  replace hB1 := hB1.trans (hB2.mono (by have := HS1.out; omega))
  clear hB2 p0 p1 p2 p3 p4 p5 hw1
  obtain ⟨⟨p0, p1, p2⟩, p3, p4, p5⟩ := boxD hb1
  go_wp2_with fail
  refine (of_any w2 0 w.heap.size a.neg A1 n1 c1 xs1 a.e 0 g1 (by have := HS1.out; omega) sd1 hn1 (by omega) (by omega) _ (by simp)).mono ?_
  rintro e w4 ⟨g, ws, rfl, hB4, hg1, hg2, hS4, hnw⟩
  have hs4 := hB4.size
  replace hT1 := hT1.below hB4 (by have := HS1.out; omega)
  replace hb3 := (hB4.block _ (by have := HS1.out; omega)).trans hb3
  replace hB1 := hB1.trans (hB4.mono (by have := HS1.out; omega))
  have HNW := Lib.hid hnw
  clear hB4 p0 p1 p2 p3 p4 p5 hnw g1 hb1
  obtain ⟨z0, z1, z2⟩ := hS4.head
  have z3 := hS4.free 2
  go_wp2_with fail
  have hS5 := hS4.expo ((a.e : Int) + 1)
  have hT5 := hT1.keep (heap_setCell_other w4 ⟨g, 2, none⟩ 0 (.int .i64 ((a.e : Int) + 1)) (by have := HS1.out; simp; omega))
  have hb5 := (heap_setCell_other w4 ⟨g, 2, none⟩ (w.heap.size + 1) (.int .i64 ((a.e : Int) + 1)) (by simp; have := HS1.out; omega)).trans hb3
  have hB5 := hB1.setCell (p := ⟨g, 2, none⟩) (by simp; have := HS1.out; omega) (.int .i64 ((a.e : Int) + 1))
  have hs5 : (w4.setCell ⟨g, 2, none⟩ (.int .i64 ((a.e : Int) + 1))).heap.size = w4.heap.size := by simp [World.setCell]
  have HS5 := Lib.hid hs5
  generalize w4.setCell ⟨g, 2, none⟩ (.int .i64 ((a.e : Int) + 1)) = w5 at *
  clear hs5 hT1 hb3 hB1 hS4 z0 z1 z2 z3
  have hf : formed a.neg (num 4294967296 ws) (a.e + 1) = (r, code) := by rw [HNW.out, SN1.out, Nat.pow_zero, Nat.mul_one]; exact H.out
  have hS6 : Sum w5 g a.neg (.slice none 0 0) ((a.e + 1 : Nat) : Int) ws := hS5
  refine (form_any w5 g (by have := HS5.out; omega) a.neg _ (a.e + 1) (by omega) ws hS6 hT5 r code hf).mono ?_
  rintro e w7 ⟨A', n', c', rfl, hc', hB7, hI7⟩
  have hs7 := hB7.size
  have hb7 := (hB7.block _ (by have := HS1.out; have := HS5.out; omega)).trans hb5
  have hBB := hB5.trans (hB7.mono (by have := HS1.out; have := HS5.out; omega))
  have HI := Lib.hid hI7
  obtain ⟨⟨x0, x1, x2⟩, x3, x4, x5⟩ := boxD hb7
  clear hf hS5 hS6 hT5 hB5 hb5 hB7 hI7
  go_wp2
  refine bodyPost_ret (v := .tuple #[.agg #[.bool r.neg, .slice A' n' c', .int .i64 r.e], .int .i64 code]) (by simp [results, Tryd.results21, go_sem, x0, x1, x2]) rfl ⟨A', n', c', rfl, hc', ?_, ?_⟩
  · exact ((hBB.setCell (by simp) _).setCell (by simp) _).setCell (by simp) _
  · refine Ints.more (lo := w5.heap.size) (hi := w7.heap.size) ?_ (by have := HS1.out; have := HS5.out; omega) (by simp [World.setCell])
    exact ints_far (ints_far (ints_far HI.out (.inl (by have := HS1.out; have := HS5.out; simp; omega)) _) (.inl (by have := HS1.out; have := HS5.out; simp; omega)) _) (.inl (by have := HS1.out; have := HS5.out; simp; omega)) _
end Dy
end Go.Proofs.YtbbnbgllgomolaaDoor
namespace Go.Proofs.YtbbnbgllgomolaaDoor
open Go.RowKit
namespace Dy
open Dp
theorem heapAll {g : Nat} {w : World} {x} (o) (h : w.heap[g]? = some x) : (w.alloc o).heap[g]? = some x := (Below.heap_alloc _ _ _ (Array.getElem?_eq_some_iff.1 h).1).trans h
end Dy
end Go.Proofs.YtbbnbgllgomolaaDoor
namespace Go.Proofs.YtbbnbgllgomolaaDoor
open Go.RowKit
namespace Dy
open Dp
/-- What stands amid the rounds of 'Right'. -/
structure RightI (w wr : World) (q : Nat) (M i n : Nat) (ds : List Int) : Prop where
  hQ : wr.heap[q]? = some (.cells (rowU ds) 58 (0, 0))
  hB : Below w.heap.size w wr
  lq : w.heap.size ≤ q
  len : ds.length = n
  dig : Dig 4294967296 ds
  done : ∀ j, j < i → ds[j]?.getD 0 = ((M / 4294967296 ^ j % 4294967296 : Nat) : Int)
theorem RightI.set {w wr : World} {q M i n : Nat} {ds : List Int} (h : RightI w wr q M i n ds) {d : Nat} (hi : i < n) (hd : d < 4294967296) (hv : d = M / 4294967296 ^ i % 4294967296) : RightI w (wr.setCell ⟨q, i, none⟩ (.int .u32 d)) q M (i + 1) n (ds.set i (d : Int)) :=
  ⟨by rw [heap_setCell_same wr q i _ _ _ h.hQ, rowU_set], h.hB.setCell h.lq _, h.lq, by rw [List.length_set, h.len], dig_set h.dig i d hd, fun j hj => by
    by_cases hji : j = i
    · subst hji
      rw [List.getElem?_set_self (by rw [h.len]; exact hi), ← hv]
      rfl
    · rw [set_far _ _ (fun e => hji e.symm)]
      exact h.done j (by omega)⟩
theorem RightI.drewN {w wr : World} {q M i n : Nat} {ds : List Int} (h : RightI w wr q M i n ds) (m : Nat) : RightI w (wr.drewN m) q M i n ds := ⟨h.hQ, ⟨h.hB.os, h.hB.tape, h.hB.output, h.hB.size, h.hB.block⟩, h.lq, h.len, h.dig, h.done⟩
theorem RightI.ints {w wr : World} {q M n : Nat} {ds : List Int} (h : RightI w wr q M n n ds) (hn : n ≤ 1000) : Ints wr w.heap.size wr.heap.size .u32 (some ⟨q, 0, none⟩) n ds :=
  ⟨h.len, fun x hx => by
    have h3 := h.dig x hx
    have h4 : 0 ≤ x ∧ x ≤ 4294967295 := by omega
    simpa [IntKind.min, IntKind.max, IntKind.signed, IntKind.bits] using h4, by omega, fun _ => ⟨q, 0, rfl, h.lq, (Array.getElem?_eq_some_iff.1 h.hQ).1, fun j hj => ⟨by
      rw [Nat.zero_add, cell_of_row wr q j _ _ _ h.hQ]
      exact rowU_get ds (by rw [h.len]; exact hj), by
      rw [Nat.zero_add]
      exact frozen_of_row wr q j _ _ h.hQ⟩⟩⟩
end Dy
end Go.Proofs.YtbbnbgllgomolaaDoor
namespace Go.Proofs.YtbbnbgllgomolaaDoor
open Go.RowKit
namespace Dy
theorem canon_shift {B n : Nat} (hB : 2 ≤ B) (k : Nat) (h : n ≠ 0) : List.replicate k 0 ++ canon B n = canon B (B ^ k * n) := by
  obtain ⟨h1, h2, h3⟩ := canon_spec B n hB
  have hne : canon B n ≠ [] := fun e => h (canon_nil hB e)
  refine canon_of hB (fun x hx => ?_) (fun hn => ?_) (by rw [num_append, num_zeros, h3]; simp)
  · rcases List.mem_append.1 hx with h' | h'
    · rw [(List.mem_replicate.1 h').2]
      omega
    · exact h1 x h'
  · rw [List.getLast_append_of_ne_nil _ hne]
    exact h2 hne
set_option maxHeartbeats 800000 in
set_option maxRecDepth 100000 in
/-- headcountref01.Times2. -/
theorem Times2_any (w : World) (lo hi : Nat) (A : Option Addr) (n c : Nat) (v : Nat) (hX : Ints w lo hi .u8 A n (canon 2 v)) (hhi : hi ≤ w.heap.size) (hn : n ≤ 1000000) (k : Nat) (kk : Int) (hkk : kk = k) (hk : k ≤ 100000) :
    Calls Tryd.prog 94 #[.slice A n c, .int .i64 kk] w fun e w' => ∃ A' n' c', e = .returned (.slice A' n' c') ∧ n' ≤ c' ∧ n' ≤ n + k ∧ Below w.heap.size w w' ∧ Ints w' w.heap.size w'.heap.size .u8 A' n' (canon 2 (2 ^ k * v)) := by
  subst hkk
  obtain ⟨i0, hi0, hz0, hz1, hz2⟩ := info_parts Tryd.info5
  have HL := Lib.hid hX.len
  by_cases h0 : v = 0
  · subst h0
    have hn0 : n = 0 := by rw [← HL.out]; rfl
    subst hn0
    go_enter Tryd.func94, Tryd.ntmps94
    go_wp2
    go_ret
    exact ⟨none, 0, 0, rfl, Nat.le_refl _, by omega, Below.refl _ _, by rw [Nat.mul_zero]; exact Ints.nil_ ..⟩
  · have hn0 : 0 < n := by
      rw [← HL.out]
      exact List.length_pos_iff.2 fun e => h0 (canon_nil (by decide) e)
    have hC := Lib.hid (canon_shift (B := 2) (by decide) k h0)
    go_enter Tryd.func94, Tryd.ntmps94
    go_wp2_with (first
      | (at_make; refine wpList_make_full _ rfl _ _ 109 rfl w.heap.size 5 i0 (.int .u8 0) 1 Tryd.underlying109 hi0 hz0 hz1 .i64 .i64 k k k rfl rfl rfl rfl (by rw [hz2]; omega) (by unfold maxLen; omega) (Nat.le_refl _) ?_))
    intro w1 hown1 hgrow1
    have hz : (madeCells #[Value.int .u8 0] k).toList = (List.replicate k (0 : Int)).map (Value.int .u8) := by
      apply List.ext_getElem
      · simp [madeCells]
      · intro j h1 h2
        simp [madeCells, Nat.mod_one]
    rw [hz] at hown1
    have hb1 : Below w.heap.size w w1 := (Below.refl _ w).grown hgrow1 (Nat.le_refl _) (fun q hq => by cases hq)
    clear hz hgrow1
    go_wp2_with (first
      | (at_builtin; refine wpList_append_raw _ rfl (.tmp 9) (.tmp 10) 109 rfl w.heap.size 5 i0 (.int .u8 0) 1 1 Tryd.underlying109 hi0 hz0 hz1 hz2 rfl (by decide) _ _ _ rfl hown1 _ _ _ n _ _ rfl (hX.below hb1 hhi).raw ?c1 ?c2 ?c3 ?c4 ?_))
    case c1 => exact ints_oneCell _ _
    case c2 => unfold maxLen; omega
    case c3 => omega
    case c4 => exact hb1.size
    intro A2 c2 w2 hown2 hgrow2 _
    have hb2 : Below w.heap.size w w2 := hb1.grown hgrow2 hb1.size (fun q hq => (hown1.lt q hq).1)
    have hcz : List.replicate k (Value.int .u8 0) ++ (canon 2 v).map (Value.int .u8) = (canon 2 (2 ^ k * v)).map (Value.int .u8) := by rw [← hC.out]; simp
    rw [hcz] at hown2
    clear hcz
    have hc2 := own_cap hown2
    have hwf : ∀ x ∈ canon 2 (2 ^ k * v), IntKind.u8.min ≤ x ∧ x ≤ IntKind.u8.max := fun x hx => by
      have := (canon_spec 2 (2 ^ k * v) (by decide)).1 x hx
      simp only [IntKind.min, IntKind.max, IntKind.signed, IntKind.bits]
      omega
    have hI := Ints.of_own hown2 hwf (by omega)
    clear hown1 hown2 hgrow2 hb1
    go_wp2
    go_ret
    exact ⟨A2, k + n, c2, rfl, hc2, by omega, hb2, hI⟩
end Dy
end Go.Proofs.YtbbnbgllgomolaaDoor
namespace Go.Proofs.YtbbnbgllgomolaaDoor
open Go.RowKit
namespace Dy
theorem bits_law {out : List Int} {k i t : Nat} (S r : Nat) (hl : out.length = i + k) (h : num 2 out = S + 2 ^ i * (t % 2 ^ k)) (hr : t / 2 ^ k = r) :
    num 2 (out ++ [((r % 2 : Nat) : Int)]) = S + 2 ^ i * (t % 2 ^ (k + 1)) := by
  rw [num_append, hl, h, Nat.mod_pow_succ, hr]
  simp only [num, Int.toNat_natCast, Nat.mul_zero, Nat.add_zero, Nat.mul_add, Nat.pow_add]
  rw [Nat.mul_assoc, Nat.add_assoc]
set_option maxHeartbeats 1600000 in
set_option maxRecDepth 100000 in
/-- headcountref01.Digits. -/
theorem Digits_any (w : World) (lo hi : Nat) (A : Option Addr) (n c : Nat) (xs : List Int) (hX : Ints w lo hi .u32 A n xs) (hdx : Dig 4294967296 xs) (hhi : hi ≤ w.heap.size) (hn : n ≤ 10000) (v : Nat) (hv : num 4294967296 xs = v) :
    Calls Tryd.prog 95 #[.slice A n c] w fun e w' => ∃ A' n' c', e = .returned (.slice A' n' c') ∧ n' ≤ c' ∧ n' ≤ 32 * n ∧ Below w.heap.size w w' ∧ Ints w' w.heap.size w'.heap.size .u8 A' n' (canon 2 v) := by
  have HL := Lib.hid hX.len
  have HV := Lib.hid hv
  clear hv
  obtain ⟨i0, hi0, hz0, hz1, hz2⟩ := info_parts Tryd.info5
  go_enter Tryd.func95, Tryd.ntmps95
  go_wp2
  go_loopw [3, 4] (fun o i wr => ∃ j : Nat, ∃ out : List Int, i = .int .i64 j ∧ j ≤ n ∧ wr.ownsRow w.heap.size 5 1 o (32 * j) (out.map (Value.int .u8)) ∧ Dig 2 out ∧ Hid (num 2 out = num 4294967296 (xs.take j)) ∧ Below w.heap.size w wr)
    (fun _ i _ => n - (intOf i).toNat)
  case atStart => exact ⟨0, [], rfl, by omega, ⟨rfl, .inl ⟨rfl, rfl⟩⟩, fun x hx => (by simp at hx), by simp [Hid, num], Below.refl _ _⟩
  case round =>
    obtain ⟨j, out, rfl, hj, hown, hdo, hnum, hnx⟩ := hrel
    by_cases hlt : j < n
    · obtain ⟨b, off, rfl, hcell⟩ := get (hX.below hnx hhi) (by omega)
      have g1 : wr.cell? ⟨b, off + j, none⟩ = some (.int .u32 (xs[j]?.getD 0)) := hcell j hlt
      clear hcell
      have hxm : 0 ≤ xs[j]?.getD 0 ∧ xs[j]?.getD 0 < 4294967296 := by
        rw [List.getElem?_eq_getElem (by rw [HL.out]; exact hlt)]
        exact hdx _ (List.getElem_mem _)
      obtain ⟨t, ht⟩ : ∃ t : Nat, xs[j]?.getD 0 = t := ⟨(xs[j]?.getD 0).toNat, by omega⟩
      have HT := Lib.hid ht
      rw [ht] at g1 hxm
      clear ht
      obtain ⟨S, hS⟩ : ∃ S, num 4294967296 (xs.take j) = S := ⟨_, rfl⟩
      rw [hS] at hnum
      have HSS := Lib.hid hS
      clear hS
      go_wp2
      go_loopw [3, 5, 6] (fun o nn kv wr => ∃ k r : Nat, ∃ out : List Int, kv = .int .i64 k ∧ nn = .int .u32 r ∧ Hid (t / 2 ^ k = r) ∧ r ≤ 4294967295 ∧ k ≤ 32 ∧ wr.ownsRow w.heap.size 5 1 o (32 * j + k) (out.map (Value.int .u8)) ∧ Dig 2 out ∧ Hid (num 2 out = S + 2 ^ (32 * j) * (t % 2 ^ k)) ∧ Below w.heap.size w wr)
        (fun _ _ kv _ => 32 - (intOf kv).toNat)
      case atStart => exact ⟨0, t, out, rfl, rfl, by simp [Hid], by omega, by omega, hown, hdo, by rw [Hid, hnum.out]; simp [Nat.mod_one], hnx⟩
      case round =>
        clear hown hdo hnum hnx g1
        obtain ⟨k, r, out, rfl, rfl, hr, hr2, hk, hown, hdo, hnum, hnx⟩ := hrel
        by_cases hkl : k < 32
        · have hol : out.length = 32 * j + k := by have := hown.1; simpa using this
          have hnum2 := Lib.hid (bits_law S r hol hnum.out hr.out)
          have hdo2 := dig_snoc hdo (r % 2) (by omega)
          have hr3 : Hid (t / 2 ^ (k + 1) = r / 2) := by rw [Hid, Nat.pow_succ, ← Nat.div_div_eq_div_mul, hr.out]
          clear hol hnum hr
          go_wp2_with (first
            | (at_builtin; refine wpList_append_raw _ rfl (.tmp 21) (.tmp 25) 109 rfl w.heap.size 5 i0 (.int .u8 0) 1 1 Tryd.underlying109 hi0 hz0 hz1 hz2 rfl (by decide) _ _ _ rfl (hown.alloc _) _ _ _ 1 1 [.int .u8 ((r : Int) % 2)] rfl (raw_one _ _ _ _) ?c1 ?c2 ?c3 ?c4 ?_))
          case c1 => first | rfl | (intro u hu; simp at hu; subst hu; rfl)
          case c2 => unfold maxLen; omega
          case c3 => omega
          case c4 => have := hnx.size; simp; omega
          intro A2 c2 w3 hown2 hgrow2 _
          have hnx2 : Below w.heap.size w w3 := (hnx.alloc hnx.size _).grown hgrow2 (by have := hnx.size; simp; omega) (fun q hq => (hown.lt q hq).1)
          have hs : (r : Int) % 2 = ((r % 2 : Nat) : Int) := by omega
          rw [hs] at hown2
          have hown3 : w3.ownsRow w.heap.size 5 1 (.slice A2 (32 * j + k + 1) c2) (32 * j + (k + 1)) ((out ++ [((r % 2 : Nat) : Int)]).map (Value.int .u8)) := by simpa [Nat.add_assoc] using hown2
          clear hs hown2 hgrow2 hown
          go_wp2
          go_roundw
          case rel => exact ⟨k + 1, r / 2, _, by go_num, by congr 1, hr3, by omega, by omega, hown3, hdo2, hnum2, hnx2⟩
          case measure => simp [intOf]; omega
        · obtain rfl : k = 32 := by omega
          have hfin : Hid (num 2 out = num 4294967296 (xs.take (j + 1))) := by
            rw [Hid, take_num, HT.out, HSS.out, hnum.out, Nat.mod_eq_of_lt (by omega), Nat.pow_mul]
            simp
          clear hnum
          go_wp2
          go_roundw
          case rel => exact ⟨j + 1, out, by go_num, by omega, by rw [show 32 * (j + 1) = 32 * j + 32 by omega]; exact hown, hdo, hfin, hnx⟩
          case measure => simp [intOf]; omega
    · obtain rfl : j = n := by omega
      obtain ⟨A2, c2, rfl, hc2, _⟩ := own_shape hown
      have hend : num 2 out = v := by rw [hnum.out, List.take_of_length_le (by rw [HL.out]; exact Nat.le_refl _), HV.out]
      have hwf : ∀ x ∈ out, IntKind.u8.min ≤ x ∧ x ≤ IntKind.u8.max := fun x hx => by
        have := hdo x hx
        simp only [IntKind.min, IntKind.max, IntKind.signed, IntKind.bits]
        omega
      have hI := Ints.of_own hown hwf (by omega)
      have HE := Lib.hid hend
      clear hown hnum hend
      go_wp2_with fail
      refine (Cut_any _ _ _ _ _ _ _ hI hdo hc2).mono ?_
      rintro e w4 ⟨⟨m4, rfl, hm4, hI4⟩, rfl⟩
      rw [HE.out] at hI4
      go_wp2_with fail
      go_ret
      exact ⟨A2, m4, c2, rfl, by omega, hm4, hnx, hI4⟩
end Dy
end Go.Proofs.YtbbnbgllgomolaaDoor
namespace Go.Proofs.YtbbnbgllgomolaaDoor
open Go.RowKit
namespace Dy
theorem num_last (B : Nat) (l : List Int) (h : l ≠ []) : num B l = num B l.dropLast + B ^ (l.length - 1) * (l.getLast h).toNat := by
  conv => lhs; rw [← List.dropLast_concat_getLast h]
  rw [num_append]
  simp [num]
theorem num_ge {B : Nat} {l : List Int} (hd : Dig B l) (hc : Cutd l) (h : l ≠ []) : B ^ (l.length - 1) ≤ num B l := by
  rw [num_last B l h]
  have h1 := hc h
  have h2 := hd _ (List.getLast_mem h)
  have : B ^ (l.length - 1) * 1 ≤ B ^ (l.length - 1) * (l.getLast h).toNat := Nat.mul_le_mul_left _ (by omega)
  omega
theorem cutd_of_ge {B : Nat} (hB : 0 < B) {l : List Int} (hd : Dig B l) (hg : l ≠ [] → B ^ (l.length - 1) ≤ num B l) : Cutd l := fun h h0 => by
  have h1 := hg h
  rw [num_last B l h, h0] at h1
  have h2 := num_lt B hB l.dropLast fun x hx => hd x (List.dropLast_subset _ hx)
  simp at h1 h2
  omega
/-- The digits from place i on, below place t. -/
def part (l : List Int) (i t : Nat) : List Int := (l.take t).drop i
theorem part_none (l : List Int) (t : Nat) : part l t t = [] := by
  unfold part
  rw [List.drop_eq_nil_of_le (by simp; omega)]
theorem part_step (B : Nat) (l : List Int) {i t : Nat} (hi : i < t) (ht : t ≤ l.length) : num B (part l i t) = (l[i]?.getD 0).toNat + B * num B (part l (i + 1) t) := by
  unfold part
  rw [List.drop_eq_getElem_cons (by simp; omega)]
  simp only [num, List.getElem_take]
  rw [List.getElem?_eq_getElem (by omega)]
  rfl
theorem part_split (B : Nat) (l : List Int) {i t : Nat} (hi : i ≤ t) (_ht : i ≤ l.length) : num B (l.take t) = num B (l.take i) + B ^ i * num B (part l i t) := by
  rw [num_split B (l.take t) i, List.take_take, Nat.min_eq_left hi]
  rfl
theorem part_lt {B : Nat} (hB : 0 < B) {l : List Int} (hd : Dig B l) {i t k : Nat} (h : t ≤ i + k) : num B (part l i t) < B ^ k := by
  have h1 := num_lt B hB (part l i t) fun x hx => hd x (List.mem_of_mem_take (List.mem_of_mem_drop hx))
  have h2 : B ^ (part l i t).length ≤ B ^ k := Nat.pow_le_pow_right hB (by unfold part; simp; omega)
  omega
end Dy
end Go.Proofs.YtbbnbgllgomolaaDoor
