/- A limb of a number that is shifted to the right: walks. -/
/- A number under way as a dyad: a walk. -/
/- A dyad under way: a walk. -/
/- The exact sum: a walk. -/
/- A number's dyad: walks. -/
/- limb.at, limb.asked, limb.Right: walks. -/
/- Bits with 0 ahead of them; the bits of limbs, by walks. -/
/- The bits of limbs, by a walk. -/
import Derived.Test.YtbbnbgllgomolaaBe03
import Derived.Test.YtbbnbgllgomolaaBe02
import Derived.Test.YtbbnbgllgomolaaBe01
namespace Go.Proofs.Ytbbnbgllgomolaa
open Go.RowKit
namespace Dy
open Dp
/-- Numbers under way are added. -/
theorem add_any (w : World) (g : Nat) (s t : Bool) (L : Value) (ex : Int) (ws us : List Int) (hS : Sum w g s L ex ws) (hg : g < w.heap.size) (hul : us.length = 74) (hud : Dig 4294967296 us) (hlt : num 4294967296 ws + num 4294967296 us < 4294967296 ^ 74)
  (sr : Bool) (mr : Nat) (h : plusS s (num 4294967296 ws) t (num 4294967296 us) = (sr, mr)) :
  Calls Try.prog 120 #[.pointer (some ⟨g, 0, none⟩), .bool t, .agg (rowU us)] w fun e w' => e = .returned (.tuple #[]) ∧ OnlyAt g w w' ∧ ∃ vs, Sum w' g sr L ex vs ∧ num 4294967296 vs = mr := by
 unfold plusS at h
 by_cases hst : s = t
 · subst hst
   rw [if_pos rfl] at h
   injection h with h1 h2
   subst h1 h2
   exact add_like w g s L ex ws us hS hg hul hud hlt
 · rw [if_neg hst] at h
   by_cases hle : num 4294967296 us ≤ num 4294967296 ws
   · rw [if_pos hle] at h
     injection h with h1 h2
     subst h1 h2
     exact add_more w g s t hst L ex ws us hS hg hul hud hle
   · rw [if_neg hle] at h
     injection h with h1 h2
     subst h1 h2
     exact add_less w g s t hst L ex ws us hS hg hul hud (by omega)
theorem cast_dm0 (M r c : Nat) : (M : Int) / 2 ^ r % (c : Int) = ((M / 2 ^ r % c : Nat) : Int) := by push_cast; rfl
theorem cast_dm (M r : Nat) : (M : Int) / 2 ^ r % 4294967296 = ((M / 2 ^ r % 4294967296 : Nat) : Int) := cast_dm0 M r 4294967296
end Dy
end Go.Proofs.Ytbbnbgllgomolaa
namespace Go.Proofs.Ytbbnbgllgomolaa
open Go.RowKit
namespace Dy
open Dp
theorem boxD {w : World} {g : Nat} {x y z : Value} {t : TypeId} (h : w.heap[g]? = some (.cells #[x, y, z] t (0, 0))) :
  (w.cell? ⟨g, 0, none⟩ = some x ∧ w.cell? ⟨g, 1, none⟩ = some y ∧ w.cell? ⟨g, 2, none⟩ = some z) ∧ (w.frozen? ⟨g, 0, none⟩ = false ∧ w.frozen? ⟨g, 1, none⟩ = false ∧ w.frozen? ⟨g, 2, none⟩ = false) :=
 ⟨⟨cell_of_row w g 0 _ t _ h, cell_of_row w g 1 _ t _ h, cell_of_row w g 2 _ t _ h⟩, frozen_of_row w g 0 _ t h, frozen_of_row w g 1 _ t h, frozen_of_row w g 2 _ t h⟩
theorem setCell3_other (w : World) {g k : Nat} (h : k ≠ g) (a b c : Value) : (((w.setCell ⟨g, 0, none⟩ a).setCell ⟨g, 1, none⟩ b).setCell ⟨g, 2, none⟩ c).heap[k]? = w.heap[k]? :=
 (heap_setCell_other _ _ _ _ h).trans ((heap_setCell_other _ _ _ _ h).trans (heap_setCell_other _ _ _ _ h))
theorem Sum.lt {w : World} {g : Nat} {s : Bool} {L : Value} {ex : Int} {ws : List Int} (h : Sum w g s L ex ws) : g < w.heap.size := (Array.getElem?_eq_some_iff.1 h.blk).1
/-- The table of bits.TrailingZeros32 lies in its variable. -/
structure Tab (w : World) : Prop where
 at_ : TabAt 0 Lib.deBruijn32tab w
theorem Tab.keep {w w' : World} (h : Tab w) (hh : w'.heap[0]? = w.heap[0]?) : Tab w' := ⟨fun j hj => (World.cell?_of_block (w := w) hh).trans (h.at_ j hj)⟩
theorem Tab.lt {w : World} (h : Tab w) : 0 < w.heap.size := block_lt_of_cell (h.at_ 0 (by decide))
theorem Tab.alloc {w : World} (h : Tab w) (o : Obj) : Tab (w.alloc o) := h.keep (Below.heap_alloc _ _ _ h.lt)
theorem Tab.below {B : Nat} {w w' : World} (h : Tab w) (hb : Below B w w') (hB : 0 < B) : Tab w' := h.keep (hb.block 0 hB)
theorem wpList_load_wide {ops : Array Oper} {rest : List Oper} {op : Oper} {a : Act} {w : World} {Q : Exit → Act → World → Prop} (hgd : op.guard = none) (x : Operand) (ho : op.op = .load 159 x)
  (b o : Nat) (hx : a.eval x = .pointer (some ⟨b, o, none⟩)) (ws : List Int) (hR : Row w b o ws)
  (h : wpList Try.prog ops Q rest (a.put op.dst (.agg (rowU ws))) w) : wpList Try.prog ops Q (op :: rest) a w :=
 wpList_load_mid hgd 159 x ho b o hx (ws.map (Value.int .u32)) (.array 74 70) (row_range hR) Try.underlying159 rfl (by rw [(zero_of_info Try.info159).2]; simp [hR.len]) h
theorem infoU32 : (Try.prog.info? 70).map (fun i => (i.zero, i.size, i.bytes)) = some (some (.int .u32 0), 1, 4) := by kernel_rfl
theorem make_u32 (n : Nat) (hn : n ≤ 1000000) (W : World) : (Instr.makeSlice 23 (.int .i64 n) (.int .i64 n)).run Try.prog W = .ok (.slice (some ⟨W.heap.size, 0, none⟩) n n) (W.alloc (.cells (rowU (List.replicate n 0)) 70)) := by
 obtain ⟨i0, hi0, hz0, hz1, hz2⟩ := info_parts infoU32
 have := run_make (P := Try.prog) W 23 70 i0 (.int .u32 0) Try.underlying23 hi0 hz0 .i64 .i64 n n (by omega) (Int.le_refl _) (by rw [hz2]; omega) (by omega)
 rw [hz1, Int.toNat_natCast, Nat.mul_one] at this
 have e : madeCells (Value.int .u32 0).cells n = rowU (List.replicate n 0) := by
  unfold madeCells rowU
  apply Array.ext'
  simp [Value.cells, Nat.mod_one]
  rw [List.map_const', List.length_range]
 rw [e] at this
 exact this
theorem dig_zeros (n : Nat) : Dig 4294967296 (List.replicate n 0) := fun x hx => by
 have := List.eq_of_mem_replicate hx
 omega
theorem ints_far {w : World} {lo hi : Nat} {k : IntKind} {A : Option Addr} {n : Nat} {xs : List Int} (h : Ints w lo hi k A n xs) {p : Addr} (hp : p.block < lo ∨ hi ≤ p.block) (u : Value) : Ints (w.setCell p u) lo hi k A n xs :=
 ⟨h.len, h.wf, h.big, fun hn => by
  obtain ⟨b, off, e, h1, h2, hc⟩ := h.row hn
  exact ⟨b, off, e, h1, h2, fun j hj => ⟨(World.cell?_setCell_other w p _ u (fun e => by subst e; simp at hp; omega)).trans (hc j hj).1, (World.frozen?_setCell ..).trans (hc j hj).2⟩⟩⟩
/-- Amid the last loop of form: i limbs are laid. -/
structure Mid (w wr : World) (g p q : Nat) (s : Bool) (L : Value) (ex : Nat) (ws : List Int) (nn : Nat) (e : Int) (M i : Nat) (ds : List Int) : Prop where
 hP : wr.heap[p]? = some (.cells #[.bool s, .slice (some ⟨q, 0, none⟩) nn nn, .int .i64 e] 25 (0, 0))
 hQ : wr.heap[q]? = some (.cells (rowU ds) 70 (0, 0))
 hR : wr.heap[w.heap.size]? = some (.cells #[.bool false, .slice none 0 0, .int .i64 0] 25 (0, 0))
 hS : Sum wr g s L ex ws
 hB : Below w.heap.size w wr
 lp : p < wr.heap.size
 lq : q < wr.heap.size
 len : ds.length = nn
 done : ∀ j, j < i → ds[j]?.getD 0 = ((M / 4294967296 ^ j % 4294967296 : Nat) : Int)
 dig : Dig 4294967296 ds
 pq : p ≠ q
 gq : g < q
 wp : w.heap.size < p
 wq : w.heap.size < q
section
variable {w wr : World} {g p q : Nat} {s : Bool} {L : Value} {ex : Nat} {ws : List Int} {nn : Nat} {e : Int} {M i : Nat} {ds : List Int}
theorem Mid.drew (h : Mid w wr g p q s L ex ws nn e M i ds) : Mid w wr.drew g p q s L ex ws nn e M i ds := ⟨h.hP, h.hQ, h.hR, h.hS.of_heap rfl, h.hB.drew, h.lp, h.lq, h.len, h.done, h.dig, h.pq, h.gq, h.wp, h.wq⟩
theorem Mid.alloc (h : Mid w wr g p q s L ex ws nn e M i ds) (o : Obj) : Mid w (wr.alloc o) g p q s L ex ws nn e M i ds :=
 ⟨(Below.heap_alloc _ _ _ h.lp).trans h.hP, (Below.heap_alloc _ _ _ h.lq).trans h.hQ, (Below.heap_alloc _ _ _ (Nat.lt_trans h.wp h.lp)).trans h.hR, h.hS.of_heap (Below.heap_alloc _ _ _ h.hS.lt), h.hB.alloc h.hB.size o, by have := h.lp; simp; omega, by have := h.lq; simp; omega, h.len, h.done, h.dig, h.pq, h.gq, h.wp, h.wq⟩
theorem Mid.cell (h : Mid w wr g p q s L ex ws nn e M i ds) {j : Nat} (hj : j < nn) : wr.cell? ⟨q, j, none⟩ = some (.int .u32 (ds[j]?.getD 0)) := by
 rw [cell_of_row wr q j _ _ _ h.hQ]
 exact rowU_get ds (by rw [h.len]; exact hj)
theorem Mid.free (h : Mid w wr g p q s L ex ws nn e M i ds) (j : Nat) : wr.frozen? ⟨q, j, none⟩ = false := frozen_of_row wr q j _ _ h.hQ
theorem Mid.set (h : Mid w wr g p q s L ex ws nn e M i ds) {d : Nat} (hi : i < nn) (hd : d < 4294967296) (hv : d = M / 4294967296 ^ i % 4294967296) : Mid w (wr.setCell ⟨q, i, none⟩ (.int .u32 d)) g p q s L ex ws nn e M (i + 1) (ds.set i (d : Int)) :=
 ⟨(heap_setCell_other _ _ _ _ h.pq).trans h.hP, by rw [heap_setCell_same wr q i _ _ _ h.hQ, rowU_set], (heap_setCell_other _ _ _ _ (Nat.ne_of_lt h.wq)).trans h.hR, h.hS.of_heap (heap_setCell_other _ _ _ _ (Nat.ne_of_lt h.gq)),
  h.hB.setCell (Nat.le_of_lt h.wq) _, by have := h.lp; simpa [World.setCell] using this, by have := h.lq; simpa [World.setCell] using this, by rw [List.length_set, h.len], fun j hj => by
   by_cases hji : j = i
   · subst hji
     rw [List.getElem?_set_self (by rw [h.len]; exact hi), ← hv]
     rfl
   · rw [set_far _ _ (fun e => hji e.symm)]
     exact h.done j (by omega), dig_set h.dig i d hd, h.pq, h.gq, h.wp, h.wq⟩
theorem Mid.ints (h : Mid w wr g p q s L ex ws nn e M nn ds) {hi : Nat} (h1 : M < 2 ^ hi) (h2 : 2 ^ (hi - 1) ≤ M) (h0 : 0 < hi) (hn : (hi + 31) / 32 = nn) (hnn : nn ≤ 1000) : Ints wr (w.heap.size + 1) wr.heap.size .u32 (some ⟨q, 0, none⟩) nn (canon 4294967296 M) := by
 have hc : ds = canon 4294967296 M := canon_digits (by decide) (by rw [h.len]; exact h.done)
  (by rw [h.len, pow32]; exact Nat.lt_of_lt_of_le h1 (Nat.pow_le_pow_right (by decide) (by omega)))
  (fun _ => by rw [h.len, pow32]; exact Nat.le_trans (Nat.pow_le_pow_right (by decide) (by omega)) h2)
 rw [← hc]
 refine ⟨h.len, fun x hx => ?_, by omega, fun _ => ⟨q, 0, rfl, h.wq, h.lq, fun j hj => ⟨by rw [Nat.zero_add]; exact h.cell hj, by rw [Nat.zero_add]; exact h.free j⟩⟩⟩
 have h3 := h.dig x hx
 have h4 : 0 ≤ x ∧ x ≤ 4294967295 := by omega
 simpa [IntKind.min, IntKind.max, IntKind.signed, IntKind.bits] using h4
end
/-- What form answers. -/
def Formed (w : World) (r : Dn) (code : Int) (e : Ending) (w' : World) : Prop :=
 ∃ A n c, e = .returned (.tuple #[.agg #[.bool r.neg, .slice A n c, .int .i64 r.e], .int .i64 code]) ∧ n ≤ c ∧ Below w.heap.size w w' ∧ Ints w' w.heap.size w'.heap.size .u32 A n (canon 4294967296 r.m)
end Dy
end Go.Proofs.Ytbbnbgllgomolaa
namespace Go.Proofs.Ytbbnbgllgomolaa
open Go.RowKit
namespace Dy
open Dp
theorem fold_over (off : Nat) : ∀ (vs old pre post : List Value) (k : Nat), old.length = vs.length → pre.length = off + k →
  (vs.zipIdx k).foldl (fun (cs : Array Value) (x : Value × Nat) => cs.setIfInBounds (off + x.2) x.1) (pre ++ (old ++ post)).toArray = (pre ++ (vs ++ post)).toArray
 | [], old, pre, post, k, h, _ => by
  have : old = [] := List.eq_nil_of_length_eq_zero h
  subst this
  rfl
 | v :: vs, [], pre, post, k, h, _ => by simp at h
 | v :: vs, u :: old, pre, post, k, h, hk => by
  have ih := fold_over off vs old (pre ++ [v]) post (k + 1) (by simpa using h) (by simp; omega)
  simp only [List.zipIdx_cons, List.foldl_cons]
  have e : ((pre ++ (u :: old ++ post)).toArray.setIfInBounds (off + k) v) = (pre ++ [v] ++ (old ++ post)).toArray := by
   rw [← hk]
   simp
  rw [e, ih]
  simp
theorem fill_one (place : Nat → Option (Nat × Nat)) (i off : Nat) (v : Array Value) (pre old post : List Value) (rest : List (Nat × Value)) (hp : place i = some (off, v.size)) (h1 : old.length = v.size) (h2 : pre.length = off) :
  Instr.fill place (pre ++ (old ++ post)).toArray ((i, .agg v) :: rest) = Instr.fill place (pre ++ (v.toList ++ post)).toArray rest := by
 have hf := fold_over off v.toList old pre post 0 (by simpa using h1) (by omega)
 have hc : (Value.agg v).cells = v := rfl
 have hz : (v.zipIdx.foldl (fun (cs : Array Value) (x : Value × Nat) => cs.setIfInBounds (off + x.2) x.1) (pre ++ (old ++ post)).toArray) = (pre ++ (v.toList ++ post)).toArray := by
  rw [← hf, ← Array.foldl_toList, Array.toList_zipIdx]
 simp only [Instr.fill, hp, hc]
 rw [if_neg (by simp; omega), hz]
theorem Try.info162 : (Try.prog.info? 162).map (·.zero) = some (some (.agg (#[.bool false, .slice none 0 0, .int .i64 0] ++ rowU zero74))) := by kernel_rfl
theorem places_sum : (Try.prog.underlying 162).map (fun d => match d with
  | .struct fields => fields.toList.mapM (fun f => (Try.prog.info? f.type).map fun i => (f.offset, i.size))
  | _ => none) = some (some [(0, 3), (3, 74)]) := by kernel_rfl
theorem built_sum (s : Bool) (L : Value) (ex : Int) (ws : List Int) (hl : ws.length = 74) :
  Try.prog.built 162 [(0, .agg #[.bool s, L, .int .i64 ex]), (1, .agg (rowU ws))] = some (#[.bool s, L, .int .i64 ex] ++ rowU ws) := by
 have h1 := Try.info162
 have h2 := places_sum
 unfold Program.built
 cases hi : Try.prog.info? 162 with
 | none => rw [hi] at h1; cases h1
 | some it =>
  cases hu : Try.prog.underlying 162 with
  | none => rw [hu] at h2; cases h2
  | some d =>
   rw [hi] at h1
   rw [hu] at h2
   simp only [Option.map_some, Option.some.injEq] at h1 h2
   cases d <;> first
    | (simp only at h2; cases h2; done)
    | skip
   simp only at h2 ⊢
   rw [h1, h2]
   simp only
   have e0 : (Value.agg (#[.bool false, .slice none 0 0, .int .i64 0] ++ rowU zero74)).cells = (([] : List Value) ++ ([Value.bool false, Value.slice none 0 0, Value.int .i64 0] ++ zero74.map (Value.int .u32))).toArray := by
    simp [Value.cells, rowU]
   have hz74 : (zero74.map (Value.int .u32)).length = 74 := by simp [zero74]
   rw [e0, fill_one _ 0 0 #[.bool s, L, .int .i64 ex] [] [Value.bool false, Value.slice none 0 0, Value.int .i64 0] _ _ (by rfl) (by rfl) (by rfl)]
   have e1 : (([] : List Value) ++ ((#[.bool s, L, .int .i64 ex] : Array Value).toList ++ zero74.map (Value.int .u32))).toArray = ([Value.bool s, L, Value.int .i64 ex] ++ (zero74.map (Value.int .u32) ++ [])).toArray := by simp
   rw [e1, fill_one _ 1 3 (rowU ws) [Value.bool s, L, Value.int .i64 ex] (zero74.map (Value.int .u32)) [] _ (by rw [rowU_size, hl]; rfl) (by rw [rowU_size, hl, hz74]) (by rfl)]
   simp [Instr.fill, rowU]
theorem exec_build2 {P : Program} {ev : Operand → Value} {op : Oper} {W : World} (t : TypeId) (i j : Nat) (x y : Operand) (ho : op.op = .build t #[(i, x), (j, y)]) (vx vy : Value) (hx : ev x = vx) (hy : ev y = vy) (cells : Array Value) (h : P.built t [(i, vx), (j, vy)] = some cells) :
  (execOp ev op).run P W = .ok (.value (.agg cells)) W := by
 have hm : P.built t ((#[(i, x), (j, y)] : Array (Nat × Operand)).map fun (i, x) => (i, ev x)).toList = some cells := by
  rw [← h, ← hx, ← hy]
  simp
 unfold execOp
 simp only [ho, Sem.run_bind, run_build W t _ cells hm, Result.andThen_ok, Sem.run_pure]
set_option maxHeartbeats 3200000 in
set_option maxRecDepth 100000 in
/-- dyad.of. -/
theorem of_any (w : World) (lo hi : Nat) (s : Bool) (A : Option Addr) (n c : Nat) (xs : List Int) (ex k : Nat) (hX : Ints w lo hi .u32 A n xs) (hhi : hi ≤ w.heap.size) (hd : Dig 4294967296 xs) (hn : n ≤ 40) (he : ex ≤ 2000) (hk : k ≤ 1024) (kk : Int) (hkk : kk = (ex : Int) + k) :
  Calls Try.prog 119 #[.agg #[.bool s, .slice A n c, .int .i64 ex], .int .i64 kk] w fun e w' => ∃ g ws, e = .returned (.pointer (some ⟨g, 0, none⟩)) ∧ Below w.heap.size w w' ∧ w.heap.size ≤ g ∧ g < w'.heap.size ∧ Sum w' g s (.slice none 0 0) kk ws ∧ num 4294967296 ws = num 4294967296 xs * 2 ^ k := by
 have HK := Lib.hid hkk
 have hX2 := hX.alloc hhi (.cells #[.bool s, .slice A n c, .int .i64 ex] 25)
 generalize hw1 : w.alloc (.cells #[.bool s, .slice A n c, .int .i64 ex] 25) = w1 at *
 have hbx : w1.heap[w.heap.size]? = some (.cells #[.bool s, .slice A n c, .int .i64 ex] 25 (0, 0)) := by rw [← hw1]; exact heap_alloc_last _ _
 have hs1 : w1.heap.size = w.heap.size + 1 := by rw [← hw1]; simp
 have HS1 := Lib.hid hs1
 have hB1 : Below w.heap.size w w1 := by rw [← hw1]; exact (Below.refl _ w).alloc (Nat.le_refl _) _
 clear hkk hs1
 go_enter Try.func119, Try.ntmps119
 go_wp2
 clear hw1
 have hSS : w1.drew.heap[w.heap.size]? = w1.heap[w.heap.size]? := rfl
 refine region_E (fun w' => w'.heap[w.heap.size]? = w1.heap[w.heap.size]?) [] (m := 10) (L := #[zF,zF,zF,zF,zF,zF,zF,zF,zF,zF]) (by kernel_rfl) (by rfl) (by rfl) ?_
 refine zE 0 #[zT,zF,zF,zF,zF,zF,zF,zF,zF,zF] ?_ rfl ?hy1 ?rest1
 case hy1 => intro w; go_simp; (try with_reducible rfl)
 try simp only [Act.put, zp]
 refine readE (i := 1) (L := #[zT,zT,zF,zF,zF,zF,zF,zF,zF,zF]) (v := .bool s) rfl (by rfl) (by kernel_rfl) (by kernel_rfl) (by kernel_rfl) (fun _ _ _ h => h) (by assumption) (by rfl) ?hyA ?restA
 case hyA =>
  intro w' h1
  have k := (boxD (h1.trans hbx)).1.1
  go_simp
 try simp only [Act.put, zp]
 refine zE 2 #[zT,zT,zT,zF,zF,zF,zF,zF,zF,zF] ?_ rfl ?hy3 ?rest3
 case hy3 => intro w; go_simp; (try with_reducible rfl)
 try simp only [Act.put, zp]
 refine zE 3 #[zT,zT,zT,zT,zF,zF,zF,zF,zF,zF] ?_ rfl ?hy4 ?rest4
 case hy4 => intro w; go_simp; (try with_reducible rfl)
 try simp only [Act.put, zp]
 refine readE (i := 4) (L := #[zT,zT,zT,zT,zT,zF,zF,zF,zF,zF]) (v := .agg #[.bool s, .slice A n c, .int .i64 ex]) rfl (by rfl) (by kernel_rfl) (by kernel_rfl) (by kernel_rfl) (fun _ _ _ h => h) (by assumption) (by rfl) ?hyB ?restB
 case hyB =>
  intro w' h1
  obtain ⟨⟨k1, k2, k3⟩, _⟩ := boxD (h1.trans hbx)
  go_simp
 try simp only [Act.put, zp]
 refine zE 5 #[zT,zT,zT,zT,zT,zT,zF,zF,zF,zF] ?_ rfl ?hy6 ?rest6
 case hy6 => intro w; go_simp; (try with_reducible rfl)
 try simp only [Act.put, zp]
 refine stepK (i := 6) (L := #[zT,zT,zT,zT,zT,zT,zT,zF,zF,zF]) rfl (by rfl) (by kernel_rfl) (by rfl) (fun K hK => ?_)
 go_simp
 go_at_call 121
 refine (widen_any w1.drew lo hi s A n c xs ex k (hX2.drewN 1) (by show hi ≤ w1.heap.size; have := HS1.out; omega) hd hn he hk kk HK.out).mono ?_
 rintro e w2 ⟨ws, rfl, hB2, hl, hdw, hnum⟩
 have hB2' : Below w1.heap.size w1 w2 := (Below.refl _ w1).drew.trans hB2
 have hbx2 := (hB2'.block w.heap.size (by have := HS1.out; omega)).trans hbx
 have hs2 := hB2'.size
 refine hK _ _ ⟨fun _ _ => hB2'.block w.heap.size (by have := HS1.out; omega), ?_⟩
 clear hK K
 try simp only [Act.put, zp]
 have hbld := built_sum s (.slice none 0 0) kk ws hl
 refine pureE (i := 7) (L := #[zT,zT,zT,zT,zT,zT,zT,zT,zF,zF]) (v := .agg (#[.bool s, .slice none 0 0, .int .i64 kk] ++ rowU ws)) rfl (by rfl) (by kernel_rfl) (by kernel_rfl) (by kernel_rfl) (fun _ _ _ h => h) (by rfl) (fun W => exec_build2 162 0 1 (.tmp 8) (.tmp 11) (by rfl) _ _ (by rfl) (by rfl) _ hbld) ?_
 try simp only [Act.put, zp]
 clear hbld
 generalize hC : #[Value.bool s, .slice none 0 0, .int .i64 kk] ++ rowU ws = C at *
 refine stepK (i := 8) (L := #[zT,zT,zT,zT,zT,zT,zT,zT,zT,zF]) rfl (by rfl) (by kernel_rfl) (by rfl) (fun K hK => ?_)
 go_simp
 refine hK _ _ ⟨fun _ h => (Below.heap_alloc _ _ _ (by have := HS1.out; omega)).trans h, ?_⟩
 clear hK K
 try simp only [Act.put, zp]
 refine zE 9 #[zT,zT,zT,zT,zT,zT,zT,zT,zT,zT] ?_ rfl ?hy9 ?rest9
 case hy9 => intro w; go_simp; (try with_reducible rfl)
 try simp only [Act.put, zp]
 refine doneE (by kernel_rfl) ?_ _
 go_wp2
 go_ret
 refine ⟨w2.heap.size, ws, rfl, ((hB1.trans (hB2'.mono (by have := HS1.out; omega))).alloc (by have := HS1.out; omega) _), by have := HS1.out; omega, by simp, ⟨?_, hl, hdw⟩, hnum⟩
 rw [heap_alloc_last, hC]
end Dy
end Go.Proofs.Ytbbnbgllgomolaa
namespace Go.Proofs.Ytbbnbgllgomolaa
open Go.RowKit
namespace Dy
open Dp
theorem ints_may {w : World} {lo hi : Nat} {A : Option Addr} {n : Nat} {a : Dn} (h : Ints w lo hi .u32 A n (canon 4294967296 a.m)) (ha : a.May) : n ≤ 40 := by
 have h1 := (dn_may ha).1.1
 have h2 := h.len
 omega
def roomE : Nat := 2304
theorem shift_lt {m k : Nat} (h : m < capD) (hk : k ≤ 1024) : m * 2 ^ k < 2 ^ roomE := by
 have h1 : m * 2 ^ k < capD * 2 ^ k := Nat.mul_lt_mul_of_pos_right h (Nat.pow_pos (by decide))
 have h2 : capD * 2 ^ k ≤ 2 ^ roomE := by
  rw [capD_eq, ← Nat.pow_add]
  exact Nat.pow_le_pow_right (by decide) (by rw [capE_eq]; show 1280 + k ≤ 2304; omega)
 exact Nat.lt_of_lt_of_le h1 h2
theorem sum_room {x y : Nat} (hx : x < 2 ^ roomE) (hy : y < 2 ^ roomE) : x + y < 4294967296 ^ 74 := by
 rw [pow32]
 obtain ⟨e, he⟩ : ∃ e, e = 32 * 74 := ⟨_, rfl⟩
 rw [← he]
 have he2 : roomE + 1 ≤ e := by rw [he]; show 2304 + 1 ≤ 32 * 74; decide
 have h : 2 ^ roomE + 2 ^ roomE ≤ 2 ^ e := by
  rw [← Nat.two_mul, ← Nat.pow_succ']
  exact Nat.pow_le_pow_right (by decide) he2
 exact Nat.lt_of_lt_of_le (Nat.add_lt_add hx hy) h
end Dy
end Go.Proofs.Ytbbnbgllgomolaa
namespace Go.Proofs.Ytbbnbgllgomolaa
open Go.RowKit
namespace Dy
open Dp
set_option maxHeartbeats 800000 in
set_option maxRecDepth 100000 in
/-- limb.cut. -/
theorem cut_any (w : World) (lo hi : Nat) (A : Option Addr) (n c : Nat) (xs : List Int) (h : Ints w lo hi .u32 A n xs) (hd : Dig 4294967296 xs) (hnc : n ≤ c) (v : Nat) (hv : num 4294967296 xs = v) :
  Calls Try.prog 114 #[.slice A n c] w fun e w' => (∃ m, e = .returned (.slice A m m) ∧ m ≤ n ∧ Ints w lo hi .u32 A m (canon 4294967296 v)) ∧ w' = w := by
 have hl := Lib.hid h.len
 have hbig := h.big
 have HV := Lib.hid hv
 clear hv
 go_enter Try.func114, Try.ntmps114
 go_wp2
 go_loopw [3] (fun i wr => ∃ k : Nat, i = .int .i64 k ∧ k ≤ n ∧ Hid (num 4294967296 (xs.take k) = num 4294967296 xs) ∧ wr = w) (fun i _ => (intOf i).toNat)
 case atStart => exact ⟨n, rfl, Nat.le_refl _, by rw [Hid, List.take_of_length_le (by rw [hl.out]; exact Nat.le_refl _)], rfl⟩
 case round =>
  obtain ⟨k, rfl, hk, hn, rfl⟩ := hrel
  rcases k with _ | j
  · have he := cut_stop (by decide) hd (Nat.zero_le _) hn.out (.inl rfl)
    have hI := h.take_ (m := 0) (Nat.zero_le _)
    rw [he, HV.out] at hI
    clear he
    go_wp2
    go_ret
    exact ⟨⟨0, rfl, Nat.zero_le _, hI⟩, by trivial⟩
  · obtain ⟨b, off, rfl, hcell⟩ := get h (by omega)
    have g1 : wr.cell? ⟨b, off + j, none⟩ = some (.int .u32 (xs[j]?.getD 0)) := hcell j (by omega)
    clear hcell
    have ej : ((j + 1 : Nat) : Int) - 1 = (j : Int) := by omega
    by_cases hz : xs[j]?.getD 0 = 0
    · have hn2 := Lib.hid (cut_on (by rw [hl.out]; omega) hn.out hz)
      rw [hz] at g1
      clear hz
      go_wp2
      go_roundw
      case rel => exact ⟨j, by first | rfl | (congr 1; omega), by omega, hn2, by trivial⟩
      case measure => first | (simp [intOf]; done) | (simp [intOf]; omega)
    · have he := cut_stop (by decide) hd (by rw [hl.out]; omega) hn.out (.inr (by simpa using hz))
      have hI := h.take_ (m := j + 1) hk
      rw [he, HV.out] at hI
      have hb : (xs[j]?.getD 0 == 0) = false := by simpa using hz
      clear he hz
      go_wp2
      go_ret
      exact ⟨⟨j + 1, rfl, hk, hI⟩, by trivial⟩
theorem heapAll {g : Nat} {w : World} {x} (o) (h : w.heap[g]? = some x) : (w.alloc o).heap[g]? = some x := (Below.heap_alloc _ _ _ (Array.getElem?_eq_some_iff.1 h).1).trans h
/-- A box of three behind an alloc. -/
theorem boxA {w : World} {g : Nat} {x y z : Value} {t : TypeId} (h : w.heap[g]? = some (.cells #[x, y, z] t (0, 0))) :
  (∀ o, (w.alloc o).cell? ⟨g, 0, none⟩ = some x) ∧ (∀ o, (w.alloc o).cell? ⟨g, 1, none⟩ = some y) ∧ (∀ o, (w.alloc o).cell? ⟨g, 2, none⟩ = some z) ∧ (∀ o, (w.alloc o).frozen? ⟨g, 0, none⟩ = false) ∧ (∀ o, (w.alloc o).frozen? ⟨g, 1, none⟩ = false) ∧ (∀ o, (w.alloc o).frozen? ⟨g, 2, none⟩ = false) :=
 ⟨fun o => (boxD (heapAll o h)).1.1, fun o => (boxD (heapAll o h)).1.2.1, fun o => (boxD (heapAll o h)).1.2.2, fun o => (boxD (heapAll o h)).2.1, fun o => (boxD (heapAll o h)).2.2.1, fun o => (boxD (heapAll o h)).2.2.2⟩
theorem ints_new (w : World) (t : TypeId) (x y : Int) (hx : 0 ≤ x ∧ x ≤ 4294967295) (hy : 0 ≤ y ∧ y ≤ 4294967295) : Ints (w.alloc (.cells #[.int .u32 x, .int .u32 y] t)) w.heap.size (w.heap.size + 1) .u32 (some ⟨w.heap.size, 0, none⟩) 2 [x, y] := by
 refine ⟨rfl, fun z hz => ?_, by omega, fun _ => ⟨w.heap.size, 0, rfl, Nat.le_refl _, by omega, fun j hj => ?_⟩⟩
 · simp only [List.mem_cons, List.not_mem_nil, or_false] at hz
   have h : 0 ≤ z ∧ z ≤ 4294967295 := by rcases hz with rfl | rfl <;> assumption
   simpa [IntKind.min, IntKind.max, IntKind.signed, IntKind.bits] using h
 · have : j = 0 ∨ j = 1 := by omega
   rcases this with rfl | rfl <;> simp [go_sem]
set_option maxHeartbeats 800000 in
set_option maxRecDepth 100000 in
/-- limb.Of. -/
theorem limbOf_any (w : World) (v : Nat) (hv : v < 18446744073709551616) (z : Int) (hz : z = v) :
  Calls Try.prog 84 #[.int .u64 z] w fun e w' => ∃ A n, e = .returned (.slice A n n) ∧ Below w.heap.size w w' ∧ Ints w' w.heap.size w'.heap.size .u32 A n (canon 4294967296 v) := by
 subst hz
 have hi := ints_new w 70 ((v : Int) % 4294967296) ((v : Int) / 4294967296) (by omega) (by omega)
 have hd : Dig 4294967296 [(v : Int) % 4294967296, (v : Int) / 4294967296] := fun x hx => by
  simp only [List.mem_cons, List.not_mem_nil, or_false] at hx
  rcases hx with rfl | rfl <;> omega
 have hn : num 4294967296 [(v : Int) % 4294967296, (v : Int) / 4294967296] = v := by
  simp only [num]
  omega
 have HN := Lib.hid hn
 have HD := Lib.hid hd
 clear hn hd
 go_enter Try.func84, Try.ntmps84
 go_wp2_with fail
 refine (cut_any _ w.heap.size (w.heap.size + 1) _ 2 2 _ hi HD.out (Nat.le_refl _) v HN.out).mono ?_
 rintro e w1 ⟨⟨m, rfl, hm, hI⟩, rfl⟩
 go_wp2
 go_ret
 exact ⟨_, m, rfl, (Below.refl _ _).alloc (Nat.le_refl _) _, hI.more (Nat.le_refl _) (by simp)⟩
set_option maxHeartbeats 1600000 in
set_option maxRecDepth 100000 in
/-- dyad.Of. -/
theorem Of_any (w : World) (z : Int) (h0 : -9223372036854775808 ≤ z) (h1 : z ≤ 9223372036854775807) (s : Bool) (v : Nat) (hs : decide (z < 0) = s) (hv : z.natAbs = v) :
  Calls Try.prog 43 #[.int .i64 z] w fun e w' => ∃ A n, e = .returned (.agg #[.bool s, .slice A n n, .int .i64 0]) ∧ Below w.heap.size w w' ∧ Ints w' w.heap.size w'.heap.size .u32 A n (canon 4294967296 v) := by
 have HV := Lib.hid hv
 by_cases hneg : z < 0
 · have : s = true := by rw [← hs]; simpa using hneg
   subst this
   clear hs hv
   obtain ⟨U, hU⟩ : ∃ U : Nat, (U : Int) = z + 18446744073709551616 := ⟨(z + 18446744073709551616).toNat, by omega⟩
   have e1 : IntKind.u64.wrap z = U := by rw [IntKind.wrap_u64]; omega
   have HU := Lib.hid hU
   have hU2 : U ≤ 18446744073709551615 := by omega
   have hU3 : 0 < U := by omega
   clear hU
   go_enter Try.func43, Try.ntmps43
   go_wp2_with fail
   refine (limbOf_any _ U (by omega) _ rfl).mono ?_
   rintro e w1 ⟨A1, n1, rfl, hB1, hI1⟩
   have hs1 := hB1.size
   simp at hs1
   have hb1 := (hB1.block w.heap.size (by simp)).trans (heap_alloc_last w _)
   have hBB := ((Below.refl w.heap.size w).alloc (Nat.le_refl _) (.cells #[.bool false, .slice none 0 0, .int .i64 0] 25)).trans (hB1.mono (by simp))
   clear hB1 hI1
   have hn0 := heap_alloc_last w1 (.cells #[.bool true, .slice A1 n1 n1, .int .i64 0] 25)
   have hr0 := heapAll (.cells #[.bool true, .slice A1 n1 n1, .int .i64 0] 25) hb1
   have hB0 := hBB.alloc (by omega) (.cells #[.bool true, .slice A1 n1 n1, .int .i64 0] 25)
   obtain ⟨y0, y1, y2, y3, y4, y5⟩ := boxA hb1
   go_wp2_with fail
   have hv2 : (-(U : Int)) % 18446744073709551616 = v := by have := HU.out; have := HV.out; omega
   refine (limbOf_any _ v (by have := HV.out; omega) _ (by first | omega | (rw [IntKind.wrap_u64]; omega))).mono ?_
   rintro e w2 ⟨A2, n2, rfl, hB2, hI2⟩
   have hs2 := hB2.size
   simp at hs2
   have hb2 := (hB2.block w.heap.size (by simp; omega)).trans hr0
   have hc2 := (hB2.block w1.heap.size (by simp)).trans hn0
   have hB3 := hB0.trans (hB2.mono (by simp; omega))
   have HI := Lib.hid hI2
   clear hB2 hI2 hn0 hr0 hB0 y0 y1 y2 y3 y4 y5
   obtain ⟨⟨x0, x1, x2⟩, x3, x4, x5⟩ := boxD hb2
   obtain ⟨⟨z0, z1, z2⟩, z3, z4, z5⟩ := boxD hc2
   have hne : w.heap.size ≠ w1.heap.size := by omega
   have hne2 : w1.heap.size ≠ w.heap.size := by omega
   go_wp2
   refine bodyPost_ret (v := .agg #[.bool true, .slice A2 n2 n2, .int .i64 0]) (by simp [results, Try.results43, go_sem, x0, x1, x2]) rfl ⟨A2, n2, rfl, ?_, ?_⟩
   · exact (((hB3.setCell (by simp; omega) _).setCell (Nat.le_refl _) _).setCell (Nat.le_refl _) _).setCell (Nat.le_refl _) _
   · refine Ints.more (lo := w1.heap.size + 1) (hi := w2.heap.size) ?_ (by omega) (by simp [World.setCell])
     have h := HI.out
     simp only [World.size_alloc] at h
     exact ints_far (ints_far (ints_far (ints_far h (.inl (by simp)) _) (.inl (by simp; omega)) _) (.inl (by simp; omega)) _) (.inl (by simp; omega)) _
 · have : s = false := by rw [← hs]; simpa using hneg
   subst this
   have h2 : 0 ≤ z := by omega
   clear hs hv
   go_enter Try.func43, Try.ntmps43
   go_wp2_with fail
   refine (limbOf_any _ v (by have := HV.out; omega) _ (by have := HV.out; first | omega | (rw [IntKind.wrap_u64]; omega))).mono ?_
   rintro e w1 ⟨A1, n1, rfl, hB1, hI1⟩
   have hs1 := hB1.size
   simp at hs1
   have hb1 := (hB1.block w.heap.size (by simp)).trans (heap_alloc_last w _)
   have hBB := ((Below.refl w.heap.size w).alloc (Nat.le_refl _) (.cells #[.bool false, .slice none 0 0, .int .i64 0] 25)).trans (hB1.mono (by simp))
   obtain ⟨y0, y1, y2, y3, y4, y5⟩ := boxA hb1
   have hne : w.heap.size ≠ w1.heap.size := by omega
   have hne2 : w1.heap.size ≠ w.heap.size := by omega
   have HI := Lib.hid hI1
   clear hB1 hI1
   go_wp2
   refine bodyPost_ret (v := .agg #[.bool false, .slice A1 n1 n1, .int .i64 0]) (by simp [results, Try.results43, go_sem, y0, y1, y2]) rfl ⟨A1, n1, rfl, ?_, ?_⟩
   · exact (((hBB.alloc (by omega) _).setCell (Nat.le_refl _) _).setCell (Nat.le_refl _) _).setCell (Nat.le_refl _) _
   · refine Ints.more (lo := w.heap.size + 1) (hi := w1.heap.size) ?_ (by omega) (by simp [World.setCell])
     have h := HI.out
     simp only [World.size_alloc] at h
     exact ints_far (ints_far (ints_far (h.alloc (Nat.le_refl _) _) (.inl (by simp)) _) (.inl (by simp)) _) (.inl (by simp)) _
end Dy
end Go.Proofs.Ytbbnbgllgomolaa
namespace Go.Proofs.Ytbbnbgllgomolaa
open Go.RowKit
namespace Dy
open Dp
set_option maxRecDepth 100000 in
/-- limb.at. -/
theorem limbAt_any (w : World) (lo hi : Nat) (A : Option Addr) (n c : Nat) (xs : List Int) (hX : Ints w lo hi .u32 A n xs) (i : Nat) (ii : Int) (hii : ii = i) (d : Nat) (hd : xs[i]?.getD 0 = (d : Int)) :
  Calls Try.prog 133 #[.slice A n c, .int .i64 ii] w fun e w' => e = .returned (.int .u32 d) ∧ w' = w := by
 subst hii
 have hl := Lib.hid hX.len
 by_cases hlt : i < n
 · obtain ⟨b, off, rfl, hcell⟩ := get hX (by omega)
   have g1 := hcell i hlt
   rw [hd] at g1
   clear hcell hd
   go_enter Try.func133, Try.ntmps133
   go_wp2
   go_ret
   exact ⟨rfl, rfl⟩
 · have h0 : d = 0 := by
     rw [List.getElem?_eq_none (by rw [hl.out]; omega)] at hd
     exact (Int.ofNat.inj hd).symm
   subst h0
   clear hd
   go_enter Try.func133, Try.ntmps133
   go_wp2
   go_ret
   exact ⟨rfl, rfl⟩
set_option maxRecDepth 100000 in
theorem asked1_any (w : World) (lo hi : Nat) (A : Option Addr) (n c : Nat) (xs : List Int) (hX : Ints w lo hi .u32 A n xs) (h : MayL xs) :
  Calls Try.prog 142 #[.slice A n c] w fun e w' => e = .returned (.bool false) ∧ w' = w := by
 have H := Lib.hid h
 clear h
 go_enter Try.func142, Try.ntmps142
 go_wp2_with fail
 refine (limbCheck_ok w lo hi A n c xs hX H.out).mono ?_
 rintro e w2 ⟨rfl, rfl⟩
 go_wp2
 go_ret
 exact ⟨rfl, rfl⟩
set_option maxHeartbeats 800000 in
set_option maxRecDepth 100000 in
theorem indexFunc_one (w : World) (g : Nat) (A : Option Addr) (n c : Nat) (hg : w.heap[g]? = some (.cells #[.slice A n c] 23 (0, 0))) (lo hi : Nat) (xs : List Int) (hX : Ints w lo hi .u32 A n xs) (h : MayL xs) :
  Calls Try.prog 143 #[.slice (some ⟨g, 0, none⟩) 1 1, .func (.func 142) #[] #[]] w fun e w' => e = .returned (.int .i64 (-1)) ∧ w' = w := by
 have H := Lib.hid h
 clear h
 have g1 : w.cell? ⟨g, 0, none⟩ = some (.slice A n c) := cell_of_row w g 0 _ _ _ hg
 go_enter Try.func143, Try.ntmps143
 go_wp2
 go_loopw [5, 8] (fun _ iv wr => (iv = .int .i64 0 ∨ iv = .int .i64 1) ∧ wr = w) (fun _ iv _ => 1 - (intOf iv).toNat)
 case atStart => exact ⟨.inl rfl, rfl⟩
 case round =>
  obtain ⟨hiv, rfl⟩ := hrel
  rcases hiv with rfl | rfl
  · go_wp2_with fail
    refine (asked1_any wr lo hi A n c xs hX H.out).mono ?_
    rintro e w2 ⟨rfl, rfl⟩
    go_wp2
    go_roundw
    case rel => exact ⟨.inr (by first | rfl | (congr 1; omega)), by first | rfl | trivial⟩
    case measure => first | (simp [intOf]; done) | (simp [intOf]; omega)
  · go_wp2
    go_ret
    exact ⟨rfl, by first | rfl | trivial⟩
set_option maxRecDepth 100000 in
theorem asked_one (w : World) (g : Nat) (A : Option Addr) (n c : Nat) (hg : w.heap[g]? = some (.cells #[.slice A n c] 23 (0, 0))) (lo hi : Nat) (xs : List Int) (hX : Ints w lo hi .u32 A n xs) (h : MayL xs) :
  Calls Try.prog 132 #[.slice (some ⟨g, 0, none⟩) 1 1] w fun e w' => e = .returned (.int .i64 0) ∧ w' = w := by
 have H := Lib.hid h
 have hc : Calls Try.prog 141 #[.slice (some ⟨g, 0, none⟩) 1 1, .func (.func 142) #[] #[]] w fun e w' => e = .returned (.bool false) ∧ w' = w := by
  go_enter Try.func141, Try.ntmps141
  go_wp2_with fail
  refine (indexFunc_one w g A n c hg lo hi xs hX H.out).mono ?_
  rintro e w2 ⟨rfl, rfl⟩
  go_wp2
  go_ret
  exact ⟨rfl, rfl⟩
 clear h hg hX
 go_enter Try.func132, Try.ntmps132
 go_wp2_with fail
 refine hc.mono ?_
 rintro e w2 ⟨rfl, rfl⟩
 clear hc
 go_wp2
 go_ret
 exact ⟨rfl, rfl⟩
/-- What stands amid the rounds of 'Right'. -/
structure RightI (w wr : World) (q : Nat) (M i n : Nat) (ds : List Int) : Prop where
 hQ : wr.heap[q]? = some (.cells (rowU ds) 70 (0, 0))
 hB : Below w.heap.size w wr
 lq : w.heap.size ≤ q
 len : ds.length = n
 dig : Dig 4294967296 ds
 done : ∀ j, j < i → ds[j]?.getD 0 = ((M / 4294967296 ^ j % 4294967296 : Nat) : Int)
theorem RightI.set {w wr : World} {q M i n : Nat} {ds : List Int} (h : RightI w wr q M i n ds) {d : Nat} (hi : i < n) (hd : d < 4294967296) (hv : d = M / 4294967296 ^ i % 4294967296) : RightI w (wr.setCell ⟨q, i, none⟩ (.int .u32 d)) q M (i + 1) n (ds.set i (d : Int)) :=
 ⟨by rw [heap_setCell_same wr q i _ _ _ h.hQ, rowU_set], h.hB.setCell h.lq _, h.lq, by rw [List.length_set, h.len], dig_set h.dig i d hd, fun j hj => by
  by_cases hji : j = i
  · subst hji
    rw [List.getElem?_set_self (by rw [h.len]; exact hi), ← hv]
    rfl
  · rw [set_far _ _ (fun e => hji e.symm)]
    exact h.done j (by omega)⟩
theorem RightI.drewN {w wr : World} {q M i n : Nat} {ds : List Int} (h : RightI w wr q M i n ds) (m : Nat) : RightI w (wr.drewN m) q M i n ds := ⟨h.hQ, ⟨h.hB.os, h.hB.tape, h.hB.output, h.hB.size, h.hB.block⟩, h.lq, h.len, h.dig, h.done⟩
theorem RightI.ints {w wr : World} {q M n : Nat} {ds : List Int} (h : RightI w wr q M n n ds) (hn : n ≤ 1000) : Ints wr w.heap.size wr.heap.size .u32 (some ⟨q, 0, none⟩) n ds :=
 ⟨h.len, fun x hx => by
  have h3 := h.dig x hx
  have h4 : 0 ≤ x ∧ x ≤ 4294967295 := by omega
  simpa [IntKind.min, IntKind.max, IntKind.signed, IntKind.bits] using h4, by omega, fun _ => ⟨q, 0, rfl, h.lq, (Array.getElem?_eq_some_iff.1 h.hQ).1, fun j hj => ⟨by
   rw [Nat.zero_add, cell_of_row wr q j _ _ _ h.hQ]
   exact rowU_get ds (by rw [h.len]; exact hj), by
   rw [Nat.zero_add]
   exact frozen_of_row wr q j _ _ h.hQ⟩⟩⟩
theorem or_limbs (x y : Nat) (hx : x < 4294967296) (hy : y < 4294967296) : bits BinOp.or IntKind.u64 ((x : Int) * 4294967296) (y : Int) = ((x * 4294967296 + y : Nat) : Int) := by
 have := u64_or_nat (x * 4294967296) y (by omega) (by omega)
 rw [nat_join 32 _ _ (by omega) (by omega)] at this
 rw [← this]
 congr 1
set_option maxHeartbeats 3200000 in
set_option maxRecDepth 100000 in
/-- limb.Right, by less than a limb. -/
theorem Right_any (w : World) (A : Option Addr) (n c : Nat) (xs : List Int) (hX : Ints w 0 w.heap.size .u32 A n xs) (h : MayL xs) (hd : Dig 4294967296 xs) (hn : 0 < n) (hnc : n ≤ c) (k : Nat) (hk : k < 32) (v : Nat) (hv : num 4294967296 xs / 2 ^ k = v) :
  Calls Try.prog 110 #[.slice A n c, .int .i64 k] w fun e w' => ∃ A' m, e = .returned (.tuple #[.slice A' m m, .int .i64 0]) ∧ Below w.heap.size w w' ∧ m ≤ n ∧ Ints w' w.heap.size w'.heap.size .u32 A' m (canon 4294967296 v) := by
 have hl := Lib.hid hX.len
 have h40 : n ≤ 40 := by have := h.1; have := hl.out; omega
 have HM := Lib.hid h
 have HV := Lib.hid hv
 have HD := Lib.hid hd
 clear h hv hd
 have hX1 := hX.alloc (Nat.le_refl _) (.cells #[.slice A n c] 23)
 generalize hw : w.alloc (.cells #[.slice A n c] 23) = w1
 rw [hw] at hX1
 have hg : w1.heap[w.heap.size]? = some (.cells #[.slice A n c] 23 (0, 0)) := by rw [← hw]; exact heap_alloc_last _ _
 have hb : Below w.heap.size w w1 := by rw [← hw]; exact (Below.refl _ _).alloc (Nat.le_refl _) _
 have l1 : w.heap.size < w1.heap.size := by rw [← hw]; simp
 have hk0 : (k : Int) / 32 = 0 := by omega
 have hnb : decide (n = 0) = false := decide_eq_false (by omega)
 have hkb : decide ((k : Int) < 0) = false := decide_eq_false (by omega)
 go_enter Try.func110, Try.ntmps110
 go_wp2_with fail
 try clear hw
 refine (asked_one w1 w.heap.size A n c hg 0 w.heap.size xs hX1 HM.out).mono ?_
 rintro e w2 ⟨rfl, rfl⟩
 clear hg
 have hmk := make_u32 n (by omega)
 obtain ⟨b, off, rfl, _⟩ := get hX1 hn
 go_wp2_with fail
 generalize hw3 : w2.alloc (.cells (rowU (List.replicate n 0)) 70) = w3
 have hQ3 : w3.heap[w2.heap.size]? = some (.cells (rowU (List.replicate n 0)) 70 (0, 0)) := by rw [← hw3]; exact heap_alloc_last _ _
 have hb3 : Below w.heap.size w w3 := by rw [← hw3]; exact hb.alloc (by omega) _
 have hX3 : Ints w3 0 w.heap.size .u32 (some ⟨b, off, none⟩) n xs := by rw [← hw3]; exact hX1.alloc (by omega) _
 clear hw3 hmk
 go_loopw [8, 9, 35] (fun _ _ iv wr => ∃ (i : Nat) (ds : List Int), iv = .int .i64 i ∧ i ≤ n ∧ RightI w wr w2.heap.size v i n ds) (fun _ _ iv _ => n - (intOf iv).toNat)
 case atStart => exact ⟨0, _, rfl, Nat.zero_le _, hQ3, hb3, by omega, by simp, dig_zeros n, fun j hj => absurd hj (Nat.not_lt_zero _)⟩
 case round =>
  clear hQ3 hb3 hX3
  obtain ⟨i, ds, rfl, hi, hR⟩ := hrel
  have hXr := hX.below hR.hB (Nat.le_refl _)
  by_cases hlt : i < n
  · obtain ⟨b', off', e, hcell⟩ := get hXr hn
    injection e with e
    injection e with e1 e2
    subst e1 e2
    obtain ⟨x, hx, hx2⟩ := dig_get (by decide) HD.out (i + 1)
    obtain ⟨y, hy, hy2⟩ := dig_get (by decide) HD.out i
    have hlaw := at_limb HD.out i k x y (by rw [show i + k / 32 + 1 = i + 1 by omega]; exact hx) (by rw [show i + k / 32 = i by omega]; exact hy)
    rw [HV.out, show k % 32 = k by omega] at hlaw
    have g1 := hcell i hlt
    rw [hy] at g1
    have e1 := or_limbs x y hx2 hy2
    obtain ⟨s, hs⟩ : ∃ s, x * 4294967296 + y = s := ⟨_, rfl⟩
    rw [hs] at hlaw e1
    obtain ⟨d, hd⟩ : ∃ d, s / 2 ^ k % 4294967296 = d := ⟨_, rfl⟩
    have hd2 : d < 4294967296 := by omega
    have E : (s : Int) / 2 ^ k % 4294967296 = (d : Int) := by rw [cast_dm, hd]
    have HDV := Lib.hid (hd.symm.trans hlaw)
    have HX := Lib.hid hx
    have hk1 : (k : Int) % 32 = k := by omega
    have c3 : wr.cell? ⟨w2.heap.size, i, none⟩ = some (.int .u32 (ds[i]?.getD 0)) := by
     rw [cell_of_row wr _ i _ _ _ hR.hQ]
     exact rowU_get ds (by rw [hR.len]; exact hlt)
    have f3 : wr.frozen? ⟨w2.heap.size, i, none⟩ = false := frozen_of_row wr _ i _ _ hR.hQ
    clear hcell hx hy hs hd hlaw
    go_wp2_with fail
    go_quiet (first | (go_at_call 133; refine Calls.quiet_of_same (limbAt_any _ 0 w.heap.size _ n c xs (hXr.drewN _) (i + 1) _ (by omega) x HX.out)))
    go_wp2
    go_roundw
    case rel =>
     exact ⟨i + 1, ds.set i (d : Int), by go_num, by omega, (hR.drewN _).set hlt hd2 HDV.out⟩
    case measure => first | (simp [intOf]; done) | (simp [intOf]; omega)
  · obtain rfl : i = n := by omega
    have hnum : num 4294967296 ds = v := by
     refine num_of ds v (fun j hj => hR.done j (by rw [← hR.len]; exact hj)) ?_
     rw [hR.len, ← HV.out]
     have := num_lt 4294967296 (by decide) xs HD.out
     rw [hl.out] at this
     exact Nat.lt_of_le_of_lt (Nat.div_le_self _ _) this
    have HN := Lib.hid hnum
    have hI := hR.ints (by omega)
    have hbR := hR.hB
    have hdR := Lib.hid hR.dig
    clear hnum hR hXr
    go_wp2_with fail
    refine (cut_any wr w.heap.size wr.heap.size (some ⟨w2.heap.size, 0, none⟩) i i ds hI hdR.out (Nat.le_refl _) v HN.out).mono ?_
    rintro e w4 ⟨⟨m, rfl, hm, hIm⟩, rfl⟩
    clear hI
    go_wp2
    go_ret2
    exact ⟨_, m, rfl, hbR, hm, hIm⟩
end Dy
end Go.Proofs.Ytbbnbgllgomolaa
namespace Go.Proofs.Ytbbnbgllgomolaa
open Go.RowKit
namespace Dy
theorem canon_shift {B n : Nat} (hB : 2 ≤ B) (k : Nat) (h : n ≠ 0) : List.replicate k 0 ++ canon B n = canon B (B ^ k * n) := by
 obtain ⟨h1, h2, h3⟩ := canon_spec B n hB
 have hne : canon B n ≠ [] := fun e => h (canon_nil hB e)
 refine canon_of hB (fun x hx => ?_) (fun hn => ?_) (by rw [num_append, num_zeros, h3]; simp)
 · rcases List.mem_append.1 hx with h' | h'
   · rw [(List.mem_replicate.1 h').2]
     omega
   · exact h1 x h'
 · rw [List.getLast_append_of_ne_nil _ hne]
   exact h2 hne
set_option maxHeartbeats 800000 in
set_option maxRecDepth 100000 in
/-- headcountref01.Times2. -/
theorem Times2_any (w : World) (lo hi : Nat) (A : Option Addr) (n c : Nat) (v : Nat) (hX : Ints w lo hi .u8 A n (canon 2 v)) (hhi : hi ≤ w.heap.size) (hn : n ≤ 1000000) (k : Nat) (kk : Int) (hkk : kk = k) (hk : k ≤ 100000) :
  Calls Try.prog 103 #[.slice A n c, .int .i64 kk] w fun e w' => ∃ A' n' c', e = .returned (.slice A' n' c') ∧ n' ≤ c' ∧ n' ≤ n + k ∧ Below w.heap.size w w' ∧ Ints w' w.heap.size w'.heap.size .u8 A' n' (canon 2 (2 ^ k * v)) := by
 subst hkk
 obtain ⟨i0, hi0, hz0, hz1, hz2⟩ := info_parts Try.info5
 have HL := Lib.hid hX.len
 by_cases h0 : v = 0
 · subst h0
   have hn0 : n = 0 := by rw [← HL.out]; rfl
   subst hn0
   go_enter Try.func103, Try.ntmps103
   go_wp2
   go_ret
   exact ⟨none, 0, 0, rfl, Nat.le_refl _, by omega, Below.refl _ _, by rw [Nat.mul_zero]; exact Ints.nil_ ..⟩
 · have hn0 : 0 < n := by
     rw [← HL.out]
     exact List.length_pos_iff.2 fun e => h0 (canon_nil (by decide) e)
   have hC := Lib.hid (canon_shift (B := 2) (by decide) k h0)
   go_enter Try.func103, Try.ntmps103
   go_wp2_with (first
    | (at_make; refine wpList_make_full _ rfl _ _ 108 rfl w.heap.size 5 i0 (.int .u8 0) 1 Try.underlying108 hi0 hz0 hz1 .i64 .i64 k k k rfl rfl rfl rfl (by rw [hz2]; omega) (by unfold maxLen; omega) (Nat.le_refl _) ?_))
   intro w1 hown1 hgrow1
   have hz : (madeCells #[Value.int .u8 0] k).toList = (List.replicate k (0 : Int)).map (Value.int .u8) := by
    apply List.ext_getElem
    · simp [madeCells]
    · intro j h1 h2
      simp [madeCells, Nat.mod_one]
   rw [hz] at hown1
   have hb1 : Below w.heap.size w w1 := (Below.refl _ w).grown hgrow1 (Nat.le_refl _) (fun q hq => by cases hq)
   clear hz hgrow1
   go_wp2_with (first
    | (at_builtin; refine wpList_append_raw _ rfl (.tmp 9) (.tmp 10) 108 rfl w.heap.size 5 i0 (.int .u8 0) 1 1 Try.underlying108 hi0 hz0 hz1 hz2 rfl (by decide) _ _ _ rfl hown1 _ _ _ n _ _ rfl (hX.below hb1 hhi).raw ?c1 ?c2 ?c3 ?c4 ?_))
   case c1 => exact ints_oneCell _ _
   case c2 => unfold maxLen; omega
   case c3 => omega
   case c4 => exact hb1.size
   intro A2 c2 w2 hown2 hgrow2 _
   have hb2 : Below w.heap.size w w2 := hb1.grown hgrow2 hb1.size (fun q hq => (hown1.lt q hq).1)
   have hcz : List.replicate k (Value.int .u8 0) ++ (canon 2 v).map (Value.int .u8) = (canon 2 (2 ^ k * v)).map (Value.int .u8) := by rw [← hC.out]; simp
   rw [hcz] at hown2
   clear hcz
   have hc2 := own_cap hown2
   have hwf : ∀ x ∈ canon 2 (2 ^ k * v), IntKind.u8.min ≤ x ∧ x ≤ IntKind.u8.max := fun x hx => by
    have := (canon_spec 2 (2 ^ k * v) (by decide)).1 x hx
    simp only [IntKind.min, IntKind.max, IntKind.signed, IntKind.bits]
    omega
   have hI := Ints.of_own hown2 hwf (by omega)
   clear hown1 hown2 hgrow2 hb1
   go_wp2
   go_ret
   exact ⟨A2, k + n, c2, rfl, hc2, by omega, hb2, hI⟩
end Dy
end Go.Proofs.Ytbbnbgllgomolaa
namespace Go.Proofs.Ytbbnbgllgomolaa
open Go.RowKit
namespace Dy
theorem bits_law {out : List Int} {k i t : Nat} (S r : Nat) (hl : out.length = i + k) (h : num 2 out = S + 2 ^ i * (t % 2 ^ k)) (hr : t / 2 ^ k = r) :
  num 2 (out ++ [((r % 2 : Nat) : Int)]) = S + 2 ^ i * (t % 2 ^ (k + 1)) := by
 rw [num_append, hl, h, Nat.mod_pow_succ, hr]
 simp only [num, Int.toNat_natCast, Nat.mul_zero, Nat.add_zero, Nat.mul_add, Nat.pow_add]
 rw [Nat.mul_assoc, Nat.add_assoc]
set_option maxHeartbeats 1600000 in
set_option maxRecDepth 100000 in
/-- headcountref01.Digits. -/
theorem Digits_any (w : World) (lo hi : Nat) (A : Option Addr) (n c : Nat) (xs : List Int) (hX : Ints w lo hi .u32 A n xs) (hdx : Dig 4294967296 xs) (hhi : hi ≤ w.heap.size) (hn : n ≤ 10000) (v : Nat) (hv : num 4294967296 xs = v) :
  Calls Try.prog 104 #[.slice A n c] w fun e w' => ∃ A' n' c', e = .returned (.slice A' n' c') ∧ n' ≤ c' ∧ n' ≤ 32 * n ∧ Below w.heap.size w w' ∧ Ints w' w.heap.size w'.heap.size .u8 A' n' (canon 2 v) := by
 have HL := Lib.hid hX.len
 have HV := Lib.hid hv
 clear hv
 obtain ⟨i0, hi0, hz0, hz1, hz2⟩ := info_parts Try.info5
 go_enter Try.func104, Try.ntmps104
 go_wp2
 go_loopw [3, 4] (fun o i wr => ∃ j : Nat, ∃ out : List Int, i = .int .i64 j ∧ j ≤ n ∧ wr.ownsRow w.heap.size 5 1 o (32 * j) (out.map (Value.int .u8)) ∧ Dig 2 out ∧ Hid (num 2 out = num 4294967296 (xs.take j)) ∧ Below w.heap.size w wr)
  (fun _ i _ => n - (intOf i).toNat)
 case atStart => exact ⟨0, [], rfl, by omega, ⟨rfl, .inl ⟨rfl, rfl⟩⟩, fun x hx => (by simp at hx), by simp [Hid, num], Below.refl _ _⟩
 case round =>
  obtain ⟨j, out, rfl, hj, hown, hdo, hnum, hnx⟩ := hrel
  by_cases hlt : j < n
  · obtain ⟨b, off, rfl, hcell⟩ := get (hX.below hnx hhi) (by omega)
    have g1 : wr.cell? ⟨b, off + j, none⟩ = some (.int .u32 (xs[j]?.getD 0)) := hcell j hlt
    clear hcell
    have hxm : 0 ≤ xs[j]?.getD 0 ∧ xs[j]?.getD 0 < 4294967296 := by
     rw [List.getElem?_eq_getElem (by rw [HL.out]; exact hlt)]
     exact hdx _ (List.getElem_mem _)
    obtain ⟨t, ht⟩ : ∃ t : Nat, xs[j]?.getD 0 = t := ⟨(xs[j]?.getD 0).toNat, by omega⟩
    have HT := Lib.hid ht
    rw [ht] at g1 hxm
    clear ht
    obtain ⟨S, hS⟩ : ∃ S, num 4294967296 (xs.take j) = S := ⟨_, rfl⟩
    rw [hS] at hnum
    have HSS := Lib.hid hS
    clear hS
    go_wp2
    go_loopw [3, 5, 6] (fun o nn kv wr => ∃ k r : Nat, ∃ out : List Int, kv = .int .i64 k ∧ nn = .int .u32 r ∧ Hid (t / 2 ^ k = r) ∧ r ≤ 4294967295 ∧ k ≤ 32 ∧ wr.ownsRow w.heap.size 5 1 o (32 * j + k) (out.map (Value.int .u8)) ∧ Dig 2 out ∧ Hid (num 2 out = S + 2 ^ (32 * j) * (t % 2 ^ k)) ∧ Below w.heap.size w wr)
     (fun _ _ kv _ => 32 - (intOf kv).toNat)
    case atStart => exact ⟨0, t, out, rfl, rfl, by simp [Hid], by omega, by omega, hown, hdo, by rw [Hid, hnum.out]; simp [Nat.mod_one], hnx⟩
    case round =>
     clear hown hdo hnum hnx g1
     obtain ⟨k, r, out, rfl, rfl, hr, hr2, hk, hown, hdo, hnum, hnx⟩ := hrel
     by_cases hkl : k < 32
     · have hol : out.length = 32 * j + k := by have := hown.1; simpa using this
       have hnum2 := Lib.hid (bits_law S r hol hnum.out hr.out)
       have hdo2 := dig_snoc hdo (r % 2) (by omega)
       have hr3 : Hid (t / 2 ^ (k + 1) = r / 2) := by rw [Hid, Nat.pow_succ, ← Nat.div_div_eq_div_mul, hr.out]
       clear hol hnum hr
       go_wp2_with (first
        | (at_builtin; refine wpList_append_raw _ rfl (.tmp 21) (.tmp 25) 108 rfl w.heap.size 5 i0 (.int .u8 0) 1 1 Try.underlying108 hi0 hz0 hz1 hz2 rfl (by decide) _ _ _ rfl (hown.alloc _) _ _ _ 1 1 [.int .u8 ((r : Int) % 2)] rfl (raw_one _ _ _ _) ?c1 ?c2 ?c3 ?c4 ?_))
       case c1 => first | rfl | (intro u hu; simp at hu; subst hu; rfl)
       case c2 => unfold maxLen; omega
       case c3 => omega
       case c4 => have := hnx.size; simp; omega
       intro A2 c2 w3 hown2 hgrow2 _
       have hnx2 : Below w.heap.size w w3 := (hnx.alloc hnx.size _).grown hgrow2 (by have := hnx.size; simp; omega) (fun q hq => (hown.lt q hq).1)
       have hs : (r : Int) % 2 = ((r % 2 : Nat) : Int) := by omega
       rw [hs] at hown2
       have hown3 : w3.ownsRow w.heap.size 5 1 (.slice A2 (32 * j + k + 1) c2) (32 * j + (k + 1)) ((out ++ [((r % 2 : Nat) : Int)]).map (Value.int .u8)) := by simpa [Nat.add_assoc] using hown2
       clear hs hown2 hgrow2 hown
       go_wp2
       go_roundw
       case rel => exact ⟨k + 1, r / 2, _, by go_num, by congr 1, hr3, by omega, by omega, hown3, hdo2, hnum2, hnx2⟩
       case measure => simp [intOf]; omega
     · obtain rfl : k = 32 := by omega
       have hfin : Hid (num 2 out = num 4294967296 (xs.take (j + 1))) := by
        rw [Hid, take_num, HT.out, HSS.out, hnum.out, Nat.mod_eq_of_lt (by omega), Nat.pow_mul]
        simp
       clear hnum
       go_wp2
       go_roundw
       case rel => exact ⟨j + 1, out, by go_num, by omega, by rw [show 32 * (j + 1) = 32 * j + 32 by omega]; exact hown, hdo, hfin, hnx⟩
       case measure => simp [intOf]; omega
  · obtain rfl : j = n := by omega
    obtain ⟨A2, c2, rfl, hc2, _⟩ := own_shape hown
    have hend : num 2 out = v := by rw [hnum.out, List.take_of_length_le (by rw [HL.out]; exact Nat.le_refl _), HV.out]
    have hwf : ∀ x ∈ out, IntKind.u8.min ≤ x ∧ x ≤ IntKind.u8.max := fun x hx => by
     have := hdo x hx
     simp only [IntKind.min, IntKind.max, IntKind.signed, IntKind.bits]
     omega
    have hI := Ints.of_own hown hwf (by omega)
    have HE := Lib.hid hend
    clear hown hnum hend
    go_wp2_with fail
    refine (Cut_any _ _ _ _ _ _ _ hI hdo hc2).mono ?_
    rintro e w4 ⟨⟨m4, rfl, hm4, hI4⟩, rfl⟩
    rw [HE.out] at hI4
    go_wp2_with fail
    go_ret
    exact ⟨A2, m4, c2, rfl, by omega, hm4, hnx, hI4⟩
end Dy
end Go.Proofs.Ytbbnbgllgomolaa