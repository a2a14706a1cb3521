/- ratio.digits: the iterator over a number's bits. -/
/- A limb of a number that is shifted to the right: walks. -/
/- A number under way as a dyad: a walk. -/
/- The exact sum: a walk. -/
/- A number's dyad: walks. -/
/- limb.at, limb.asked, limb.Right: walks. -/
/- Bits with 0 ahead of them; the bits of limbs, by walks. -/
/- The bits of limbs, by a walk. -/
import Derived.OrdersIn
import Derived.CallsIn
import Derived.Test.YtbbnbgllgomolaaBq03
import Derived.Test.YtbbnbgllgomolaaBq02
import Derived.Test.YtbbnbgllgomolaaBq01
namespace Go.Proofs.Ytbbnbgllgomolaa
open Go.RowKit
namespace Dy
open Dp
/-- The places from n - 1 down to k. -/
def downs (n k : Nat) : List Nat := (List.range (n - k)).map fun j => n - 1 - j
theorem downs_top (n : Nat) : downs n n = [] := by simp [downs]
theorem downs_len (n k : Nat) : (downs n k).length = n - k := by simp [downs]
theorem downs_next {n k : Nat} (h : k < n) : downs n (k + 1) ++ [k] = downs n k := by
  unfold downs
  have e : n - k = n - (k + 1) + 1 := by omega
  rw [e, List.range_succ, List.map_append]
  congr 1
  simp only [List.map_cons, List.map_nil]
  congr 1
  omega
/-- What comes next. -/
def NextB (n : Nat) (pre : List Nat) (x : Nat) : Prop := x < n ∧ pre = downs n (x + 1)
/-- A bit. -/
def bitN (X i : Nat) : Nat := X / 2 ^ i % 2
/-- What is yielded. -/
def encB (X : Nat) (i : Nat) : Array Value := #[.int .i64 (i : Int), .int .u32 (bitN X i : Int)]
theorem bit_limb {l : List Int} (hd : Dig 4294967296 l) {i p : Nat} (hp : l[i / 32]?.getD 0 = (p : Int)) : p / 2 ^ (i % 32) % 2 = num 4294967296 l / 2 ^ i % 2 := by
  have h := limb_at hd hp
  have e : (2 : Nat) ^ i = 4294967296 ^ (i / 32) * 2 ^ (i % 32) := by
    have e0 : 4294967296 ^ (i / 32) = 2 ^ (32 * (i / 32)) := by rw [Nat.pow_mul]
    rw [e0, ← Nat.pow_add]
    congr 1
    omega
  rw [e, ← Nat.div_div_eq_div_mul, ← h]
  generalize num 4294967296 l / 4294967296 ^ (i / 32) = q
  have hr : i % 32 < 32 := Nat.mod_lt _ (by decide)
  have hb : (4294967296 : Nat) = 2 ^ (i % 32) * (2 * 2 ^ (31 - i % 32)) := by
    rw [← Nat.pow_succ', ← Nat.pow_add, show i % 32 + (31 - i % 32 + 1) = 32 by omega]
  rw [hb, Nat.mod_mul_right_div_self, Nat.mod_mul_right_mod]
theorem and_one (p r b : Nat) (hp : p < 4294967296) (h : p / 2 ^ r % 2 = b) : bits .and .u32 ((p : Int) / 2 ^ r) 1 = (b : Int) := by
  have e : ((p : Int) / 2 ^ r) = ((p / 2 ^ r : Nat) : Int) := by push_cast; rfl
  have hlt : p / 2 ^ r < 4294967296 := Nat.lt_of_le_of_lt (Nat.div_le_self _ _) hp
  rw [e]
  have := u32_and_nat (p / 2 ^ r) 1 hlt (by decide)
  rw [show ((1 : Nat) : Int) = 1 from rfl] at this
  rw [this, Nat.and_one_is_mod, h]
set_option maxHeartbeats 3200000 in
set_option maxRecDepth 100000 in
/-- ratio.digits's closure. -/
theorem digits1_in (m l gx : Nat) (xs : List Int) (n : Nat) (hn : IsLen (num 4294967296 xs) n) (hn2 : n ≤ 2432) (J Jx : List Nat → (Nat → Prop) → World → Prop)
    (hY : ∀ pre x O W1, NextB n pre x → J pre O W1 → pre.length < n → YieldAt Fence.wide (m - 1) Try.prog l (encB (num 4294967296 xs) x) W1 fun e W' =>
      (e = .returned (.bool true) ∧ ∃ O', J (pre ++ [x]) O' W' ∧ Gain O O' W1 W') ∨ (e = .returned (.bool false) ∧ ∃ O', Jx (pre ++ [x]) O' W' ∧ Gain O O' W1 W'))
    (O0 : Nat → Prop) (W : World) (hX : WideR W gx xs) (hO : ¬ O0 gx) (h0 : J [] O0 W) :
    CallsIn Fence.wide m Try.prog 140 #[.func (.yield l) #[] #[], .pointer (some ⟨gx, 0, none⟩)] W fun e W' => (∃ v, e = .returned v) ∧
      ((∃ ys O, ys = downs n 0 ∧ J ys O W') ∨ (∃ pre O, True ∧ Jx pre O W')) := by
  have HN := Lib.hid hn
  clear hn
  have hxd := Lib.hid hX.dig
  refine callsIn_of_wp Try.func140 rfl trivial ?_ rfl
  simp only [Try.ntmps140, List.size_toArray, List.length_cons, List.length_nil, Nat.reduceAdd, Nat.reduceSub, Array.replicate_succ, Array.replicate_zero, List.push_toArray, List.append_toArray, List.nil_append, List.cons_append]
  gi_wp2_with fail
  refine ⟨trivial, (fun h => by cases h), (callsIn_wide.2 (lengthR_any W gx xs hX)).mono ?_⟩
  rintro e w2 ⟨n', rfl, hn', _, rfl⟩
  obtain rfl : n' = n := IsLen.uniq hn' HN.out
  clear hn'
  gi_wp2
  gi_loopw [3] (fun iv wr => ∃ (k : Nat) (O : Nat → Prop), iv = .int .i64 ((k : Int) - 1) ∧ k ≤ n' ∧ WideR wr gx xs ∧ Hid (¬ O gx) ∧ J (downs n' k) O wr) (fun iv _ => (intOf iv + 1).toNat)
  case atStart => exact ⟨n', O0, rfl, Nat.le_refl _, hX, Lib.hid hO, by rw [downs_top]; exact h0⟩
  case round =>
    clear hX hO h0
    obtain ⟨k, O, rfl, hk, hX, hO, hJ⟩ := hrel
    rcases k with _ | k
    · gi_wp2
      go_end0
      exact ⟨⟨_, rfl⟩, .inl ⟨_, O, rfl, hJ⟩⟩
    · have ej : ((k + 1 : Nat) : Int) - 1 = (k : Int) := by omega
      rw [ej]
      obtain ⟨p, hp, hp2⟩ := dig_get (by decide) hX.dig (k / 32)
      have g1 := hX.cell (j := k / 32) (by omega)
      rw [hp] at g1
      obtain ⟨b, hb⟩ : ∃ b, bitN (num 4294967296 xs) k = b := ⟨_, rfl⟩
      have hand := and_one p (k % 32) b hp2 ((bit_limb hX.dig hp).trans hb)
      have hk0 : (0 : Int) ≤ k := by omega
      have hk1 : (k : Int) / 32 < 76 := by omega
      have hk2 : (0 : Int) ≤ (k : Int) / 32 := by omega
      obtain ⟨fn, tmps, assign, body, hy, hR⟩ := hY _ k O wr ⟨by omega, rfl⟩ hJ (by rw [downs_len]; omega)
      unfold encB at hy
      rw [hb] at hy
      (try dsimp only at hy)
      have HP := Lib.hid hp
      clear hp hb ej
      gi_wp2
      refine ⟨(fun h => by cases h), hR.mono ?_⟩
      rintro e W3 (⟨rfl, O', hJ3, hG⟩ | ⟨rfl, O', hJx3, _⟩)
      · have hX3 : WideR W3 gx xs := ⟨hG.same _ _ _ _ hO.out hX.blk, hX.len, hX.dig⟩
        have hO3 : Hid (¬ O' gx) := Lib.hid (fun h => by
          rcases hG.new gx h with h1 | h1
          · exact hO.out h1
          · have := hX.lt
            omega)
        rw [downs_next (by omega)] at hJ3
        gi_wp2
        go_roundw
        case rel => exact ⟨k, O', rfl, by omega, hX3, hO3, hJ3⟩
        case measure => first | (simp [intOf]; done) | (simp [intOf]; omega)
      · gi_wp2
        refine bodyPost_ret (results_none rfl _ _ _) rfl ?_
        exact ⟨⟨_, rfl⟩, .inr ⟨_, O', trivial, hJx3⟩⟩
/-- ratio.digits's closure, as the law on ranges asks it. -/
theorem digits_seq (m gx : Nat) (xs : List Int) (n : Nat) (hn : IsLen (num 4294967296 xs) n) (hn2 : n ≤ 2432) (w : World) (hX : WideR w gx xs) :
    SeqSep2 (NextB n) Fence.wide m Try.prog 140 #[.pointer (some ⟨gx, 0, none⟩)] (encB (num 4294967296 xs)) (fun ys => ys = downs n 0) (fun _ => True) n (fun k => k = gx) gx w :=
  fun l J Jx O0 W hW _ _ hP _ hY h0 => digits1_in m l gx xs n hn hn2 J Jx hY O0 W (hX.of_heap (hW.block gx hX.lt)) (hP _ rfl) h0
/-- ratio.digits. -/
theorem digits_any (w : World) (xs : List Int) : Calls Try.prog 130 #[.agg (rowU xs)] w fun e w' => e = .returned (.func (.func 140) #[] #[.pointer (some ⟨w.heap.size, 0, none⟩)]) ∧ w' = w.alloc (.cells (rowU xs) 114) := by
  have hmf : ∀ (fn : Fn) (first cap : Array Value) (w : World), (Instr.makeFunc fn first cap).run Try.prog w = .ok (.func fn first cap) w := fun _ _ _ _ => rfl
  go_enter Try.func130, Try.ntmps130
  go_wp2
  go_ret
  exact ⟨rfl, rfl⟩
end Dy
end Go.Proofs.Ytbbnbgllgomolaa
namespace Go.Proofs.Ytbbnbgllgomolaa
open Go.RowKit
namespace Dy
open Dp
theorem cast_dm0 (M r c : Nat) : (M : Int) / 2 ^ r % (c : Int) = ((M / 2 ^ r % c : Nat) : Int) := by push_cast; rfl
theorem cast_dm (M r : Nat) : (M : Int) / 2 ^ r % 4294967296 = ((M / 2 ^ r % 4294967296 : Nat) : Int) := cast_dm0 M r 4294967296
end Dy
end Go.Proofs.Ytbbnbgllgomolaa
namespace Go.Proofs.Ytbbnbgllgomolaa
open Go.RowKit
namespace Dy
open Dp
theorem boxD {w : World} {g : Nat} {x y z : Value} {t : TypeId} (h : w.heap[g]? = some (.cells #[x, y, z] t (0, 0))) :
    (w.cell? ⟨g, 0, none⟩ = some x ∧ w.cell? ⟨g, 1, none⟩ = some y ∧ w.cell? ⟨g, 2, none⟩ = some z) ∧ (w.frozen? ⟨g, 0, none⟩ = false ∧ w.frozen? ⟨g, 1, none⟩ = false ∧ w.frozen? ⟨g, 2, none⟩ = false) :=
  ⟨⟨cell_of_row w g 0 _ t _ h, cell_of_row w g 1 _ t _ h, cell_of_row w g 2 _ t _ h⟩, frozen_of_row w g 0 _ t h, frozen_of_row w g 1 _ t h, frozen_of_row w g 2 _ t h⟩
theorem setCell3_other (w : World) {g k : Nat} (h : k ≠ g) (a b c : Value) : (((w.setCell ⟨g, 0, none⟩ a).setCell ⟨g, 1, none⟩ b).setCell ⟨g, 2, none⟩ c).heap[k]? = w.heap[k]? :=
  (heap_setCell_other _ _ _ _ h).trans ((heap_setCell_other _ _ _ _ h).trans (heap_setCell_other _ _ _ _ h))
theorem Sum.lt {w : World} {g : Nat} {s : Bool} {L : Value} {ex : Int} {ws : List Int} (h : Sum w g s L ex ws) : g < w.heap.size := (Array.getElem?_eq_some_iff.1 h.blk).1
/-- The table of bits.TrailingZeros32 lies in its variable. -/
structure Tab (w : World) : Prop where
  at_ : TabAt 0 Lib.deBruijn32tab w
theorem Tab.keep {w w' : World} (h : Tab w) (hh : w'.heap[0]? = w.heap[0]?) : Tab w' := ⟨fun j hj => (World.cell?_of_block (w := w) hh).trans (h.at_ j hj)⟩
theorem Tab.lt {w : World} (h : Tab w) : 0 < w.heap.size := block_lt_of_cell (h.at_ 0 (by decide))
theorem Tab.alloc {w : World} (h : Tab w) (o : Obj) : Tab (w.alloc o) := h.keep (Below.heap_alloc _ _ _ h.lt)
theorem Tab.below {B : Nat} {w w' : World} (h : Tab w) (hb : Below B w w') (hB : 0 < B) : Tab w' := h.keep (hb.block 0 hB)
theorem infoU32 : (Try.prog.info? 70).map (fun i => (i.zero, i.size, i.bytes)) = some (some (.int .u32 0), 1, 4) := by kernel_rfl
theorem make_u32 (n : Nat) (hn : n ≤ 1000000) (W : World) : (Instr.makeSlice 23 (.int .i64 n) (.int .i64 n)).run Try.prog W = .ok (.slice (some ⟨W.heap.size, 0, none⟩) n n) (W.alloc (.cells (rowU (List.replicate n 0)) 70)) := by
  obtain ⟨i0, hi0, hz0, hz1, hz2⟩ := info_parts infoU32
  have := run_make (P := Try.prog) W 23 70 i0 (.int .u32 0) Try.underlying23 hi0 hz0 .i64 .i64 n n (by omega) (Int.le_refl _) (by rw [hz2]; omega) (by omega)
  rw [hz1, Int.toNat_natCast, Nat.mul_one] at this
  have e : madeCells (Value.int .u32 0).cells n = rowU (List.replicate n 0) := by
    unfold madeCells rowU
    apply Array.ext'
    simp [Value.cells, Nat.mod_one]
    rw [List.map_const', List.length_range]
  rw [e] at this
  exact this
theorem dig_zeros (n : Nat) : Dig 4294967296 (List.replicate n 0) := fun x hx => by
  have := List.eq_of_mem_replicate hx
  omega
theorem ints_far {w : World} {lo hi : Nat} {k : IntKind} {A : Option Addr} {n : Nat} {xs : List Int} (h : Ints w lo hi k A n xs) {p : Addr} (hp : p.block < lo ∨ hi ≤ p.block) (u : Value) : Ints (w.setCell p u) lo hi k A n xs :=
  ⟨h.len, h.wf, h.big, fun hn => by
    obtain ⟨b, off, e, h1, h2, hc⟩ := h.row hn
    exact ⟨b, off, e, h1, h2, fun j hj => ⟨(World.cell?_setCell_other w p _ u (fun e => by subst e; simp at hp; omega)).trans (hc j hj).1, (World.frozen?_setCell ..).trans (hc j hj).2⟩⟩⟩
/-- Amid the last loop of form: i limbs are laid. -/
structure Mid (w wr : World) (g p q : Nat) (s : Bool) (L : Value) (ex : Nat) (ws : List Int) (nn : Nat) (e : Int) (M i : Nat) (ds : List Int) : Prop where
  hP : wr.heap[p]? = some (.cells #[.bool s, .slice (some ⟨q, 0, none⟩) nn nn, .int .i64 e] 25 (0, 0))
  hQ : wr.heap[q]? = some (.cells (rowU ds) 70 (0, 0))
  hR : wr.heap[w.heap.size]? = some (.cells #[.bool false, .slice none 0 0, .int .i64 0] 25 (0, 0))
  hS : Sum wr g s L ex ws
  hB : Below w.heap.size w wr
  lp : p < wr.heap.size
  lq : q < wr.heap.size
  len : ds.length = nn
  done : ∀ j, j < i → ds[j]?.getD 0 = ((M / 4294967296 ^ j % 4294967296 : Nat) : Int)
  dig : Dig 4294967296 ds
  pq : p ≠ q
  gq : g < q
  wp : w.heap.size < p
  wq : w.heap.size < q
section
variable {w wr : World} {g p q : Nat} {s : Bool} {L : Value} {ex : Nat} {ws : List Int} {nn : Nat} {e : Int} {M i : Nat} {ds : List Int}
theorem Mid.drew (h : Mid w wr g p q s L ex ws nn e M i ds) : Mid w wr.drew g p q s L ex ws nn e M i ds := ⟨h.hP, h.hQ, h.hR, h.hS.of_heap rfl, h.hB.drew, h.lp, h.lq, h.len, h.done, h.dig, h.pq, h.gq, h.wp, h.wq⟩
theorem Mid.alloc (h : Mid w wr g p q s L ex ws nn e M i ds) (o : Obj) : Mid w (wr.alloc o) g p q s L ex ws nn e M i ds :=
  ⟨(Below.heap_alloc _ _ _ h.lp).trans h.hP, (Below.heap_alloc _ _ _ h.lq).trans h.hQ, (Below.heap_alloc _ _ _ (Nat.lt_trans h.wp h.lp)).trans h.hR, h.hS.of_heap (Below.heap_alloc _ _ _ h.hS.lt), h.hB.alloc h.hB.size o, by have := h.lp; simp; omega, by have := h.lq; simp; omega, h.len, h.done, h.dig, h.pq, h.gq, h.wp, h.wq⟩
theorem Mid.cell (h : Mid w wr g p q s L ex ws nn e M i ds) {j : Nat} (hj : j < nn) : wr.cell? ⟨q, j, none⟩ = some (.int .u32 (ds[j]?.getD 0)) := by
  rw [cell_of_row wr q j _ _ _ h.hQ]
  exact rowU_get ds (by rw [h.len]; exact hj)
theorem Mid.free (h : Mid w wr g p q s L ex ws nn e M i ds) (j : Nat) : wr.frozen? ⟨q, j, none⟩ = false := frozen_of_row wr q j _ _ h.hQ
theorem Mid.set (h : Mid w wr g p q s L ex ws nn e M i ds) {d : Nat} (hi : i < nn) (hd : d < 4294967296) (hv : d = M / 4294967296 ^ i % 4294967296) : Mid w (wr.setCell ⟨q, i, none⟩ (.int .u32 d)) g p q s L ex ws nn e M (i + 1) (ds.set i (d : Int)) :=
  ⟨(heap_setCell_other _ _ _ _ h.pq).trans h.hP, by rw [heap_setCell_same wr q i _ _ _ h.hQ, rowU_set], (heap_setCell_other _ _ _ _ (Nat.ne_of_lt h.wq)).trans h.hR, h.hS.of_heap (heap_setCell_other _ _ _ _ (Nat.ne_of_lt h.gq)),
    h.hB.setCell (Nat.le_of_lt h.wq) _, by have := h.lp; simpa [World.setCell] using this, by have := h.lq; simpa [World.setCell] using this, by rw [List.length_set, h.len], fun j hj => by
      by_cases hji : j = i
      · subst hji
        rw [List.getElem?_set_self (by rw [h.len]; exact hi), ← hv]
        rfl
      · rw [set_far _ _ (fun e => hji e.symm)]
        exact h.done j (by omega), dig_set h.dig i d hd, h.pq, h.gq, h.wp, h.wq⟩
theorem Mid.ints (h : Mid w wr g p q s L ex ws nn e M nn ds) {hi : Nat} (h1 : M < 2 ^ hi) (h2 : 2 ^ (hi - 1) ≤ M) (h0 : 0 < hi) (hn : (hi + 31) / 32 = nn) (hnn : nn ≤ 1000) : Ints wr (w.heap.size + 1) wr.heap.size .u32 (some ⟨q, 0, none⟩) nn (canon 4294967296 M) := by
  have hc : ds = canon 4294967296 M := canon_digits (by decide) (by rw [h.len]; exact h.done)
    (by rw [h.len, pow32]; exact Nat.lt_of_lt_of_le h1 (Nat.pow_le_pow_right (by decide) (by omega)))
    (fun _ => by rw [h.len, pow32]; exact Nat.le_trans (Nat.pow_le_pow_right (by decide) (by omega)) h2)
  rw [← hc]
  refine ⟨h.len, fun x hx => ?_, by omega, fun _ => ⟨q, 0, rfl, h.wq, h.lq, fun j hj => ⟨by rw [Nat.zero_add]; exact h.cell hj, by rw [Nat.zero_add]; exact h.free j⟩⟩⟩
  have h3 := h.dig x hx
  have h4 : 0 ≤ x ∧ x ≤ 4294967295 := by omega
  simpa [IntKind.min, IntKind.max, IntKind.signed, IntKind.bits] using h4
end
/-- What form answers. -/
def Formed (w : World) (r : Dn) (code : Int) (e : Ending) (w' : World) : Prop :=
  ∃ A n c, e = .returned (.tuple #[.agg #[.bool r.neg, .slice A n c, .int .i64 r.e], .int .i64 code]) ∧ n ≤ c ∧ Below w.heap.size w w' ∧ Ints w' w.heap.size w'.heap.size .u32 A n (canon 4294967296 r.m)
end Dy
end Go.Proofs.Ytbbnbgllgomolaa
namespace Go.Proofs.Ytbbnbgllgomolaa
open Go.RowKit
namespace Dy
open Dp
theorem ints_may {w : World} {lo hi : Nat} {A : Option Addr} {n : Nat} {a : Dn} (h : Ints w lo hi .u32 A n (canon 4294967296 a.m)) (ha : a.May) : n ≤ 40 := by
  have h1 := (dn_may ha).1.1
  have h2 := h.len
  omega
end Dy
end Go.Proofs.Ytbbnbgllgomolaa
namespace Go.Proofs.Ytbbnbgllgomolaa
open Go.RowKit
namespace Dy
open Dp
set_option maxHeartbeats 800000 in
set_option maxRecDepth 100000 in
/-- limb.cut. -/
theorem cut_any (w : World) (lo hi : Nat) (A : Option Addr) (n c : Nat) (xs : List Int) (h : Ints w lo hi .u32 A n xs) (hd : Dig 4294967296 xs) (hnc : n ≤ c) (v : Nat) (hv : num 4294967296 xs = v) :
    Calls Try.prog 114 #[.slice A n c] w fun e w' => (∃ m, e = .returned (.slice A m m) ∧ m ≤ n ∧ Ints w lo hi .u32 A m (canon 4294967296 v)) ∧ w' = w := by
  have hl := Lib.hid h.len
  have hbig := h.big
  have HV := Lib.hid hv
  clear hv
  go_enter Try.func114, Try.ntmps114
  go_wp2
  go_loopw [3] (fun i wr => ∃ k : Nat, i = .int .i64 k ∧ k ≤ n ∧ Hid (num 4294967296 (xs.take k) = num 4294967296 xs) ∧ wr = w) (fun i _ => (intOf i).toNat)
  case atStart => exact ⟨n, rfl, Nat.le_refl _, by rw [Hid, List.take_of_length_le (by rw [hl.out]; exact Nat.le_refl _)], rfl⟩
  case round =>
    obtain ⟨k, rfl, hk, hn, rfl⟩ := hrel
    rcases k with _ | j
    · have he := cut_stop (by decide) hd (Nat.zero_le _) hn.out (.inl rfl)
      have hI := h.take_ (m := 0) (Nat.zero_le _)
      rw [he, HV.out] at hI
      clear he
      go_wp2
      go_ret
      exact ⟨⟨0, rfl, Nat.zero_le _, hI⟩, by trivial⟩
    · obtain ⟨b, off, rfl, hcell⟩ := get h (by omega)
      have g1 : wr.cell? ⟨b, off + j, none⟩ = some (.int .u32 (xs[j]?.getD 0)) := hcell j (by omega)
      clear hcell
      have ej : ((j + 1 : Nat) : Int) - 1 = (j : Int) := by omega
      by_cases hz : xs[j]?.getD 0 = 0
      · have hn2 := Lib.hid (cut_on (by rw [hl.out]; omega) hn.out hz)
        rw [hz] at g1
        clear hz
        go_wp2
        go_roundw
        case rel => exact ⟨j, by first | rfl | (congr 1; omega), by omega, hn2, by trivial⟩
        case measure => first | (simp [intOf]; done) | (simp [intOf]; omega)
      · have he := cut_stop (by decide) hd (by rw [hl.out]; omega) hn.out (.inr (by simpa using hz))
        have hI := h.take_ (m := j + 1) hk
        rw [he, HV.out] at hI
        have hb : (xs[j]?.getD 0 == 0) = false := by simpa using hz
        clear he hz
        go_wp2
        go_ret
        exact ⟨⟨j + 1, rfl, hk, hI⟩, by trivial⟩
theorem heapAll {g : Nat} {w : World} {x} (o) (h : w.heap[g]? = some x) : (w.alloc o).heap[g]? = some x := (Below.heap_alloc _ _ _ (Array.getElem?_eq_some_iff.1 h).1).trans h
/-- A box of three behind an alloc. -/
theorem boxA {w : World} {g : Nat} {x y z : Value} {t : TypeId} (h : w.heap[g]? = some (.cells #[x, y, z] t (0, 0))) :
    (∀ o, (w.alloc o).cell? ⟨g, 0, none⟩ = some x) ∧ (∀ o, (w.alloc o).cell? ⟨g, 1, none⟩ = some y) ∧ (∀ o, (w.alloc o).cell? ⟨g, 2, none⟩ = some z) ∧ (∀ o, (w.alloc o).frozen? ⟨g, 0, none⟩ = false) ∧ (∀ o, (w.alloc o).frozen? ⟨g, 1, none⟩ = false) ∧ (∀ o, (w.alloc o).frozen? ⟨g, 2, none⟩ = false) :=
  ⟨fun o => (boxD (heapAll o h)).1.1, fun o => (boxD (heapAll o h)).1.2.1, fun o => (boxD (heapAll o h)).1.2.2, fun o => (boxD (heapAll o h)).2.1, fun o => (boxD (heapAll o h)).2.2.1, fun o => (boxD (heapAll o h)).2.2.2⟩
theorem ints_new (w : World) (t : TypeId) (x y : Int) (hx : 0 ≤ x ∧ x ≤ 4294967295) (hy : 0 ≤ y ∧ y ≤ 4294967295) : Ints (w.alloc (.cells #[.int .u32 x, .int .u32 y] t)) w.heap.size (w.heap.size + 1) .u32 (some ⟨w.heap.size, 0, none⟩) 2 [x, y] := by
  refine ⟨rfl, fun z hz => ?_, by omega, fun _ => ⟨w.heap.size, 0, rfl, Nat.le_refl _, by omega, fun j hj => ?_⟩⟩
  · simp only [List.mem_cons, List.not_mem_nil, or_false] at hz
    have h : 0 ≤ z ∧ z ≤ 4294967295 := by rcases hz with rfl | rfl <;> assumption
    simpa [IntKind.min, IntKind.max, IntKind.signed, IntKind.bits] using h
  · have : j = 0 ∨ j = 1 := by omega
    rcases this with rfl | rfl <;> simp [go_sem]
set_option maxHeartbeats 800000 in
set_option maxRecDepth 100000 in
/-- limb.Of. -/
theorem limbOf_any (w : World) (v : Nat) (hv : v < 18446744073709551616) (z : Int) (hz : z = v) :
    Calls Try.prog 84 #[.int .u64 z] w fun e w' => ∃ A n, e = .returned (.slice A n n) ∧ Below w.heap.size w w' ∧ Ints w' w.heap.size w'.heap.size .u32 A n (canon 4294967296 v) := by
  subst hz
  have hi := ints_new w 70 ((v : Int) % 4294967296) ((v : Int) / 4294967296) (by omega) (by omega)
  have hd : Dig 4294967296 [(v : Int) % 4294967296, (v : Int) / 4294967296] := fun x hx => by
    simp only [List.mem_cons, List.not_mem_nil, or_false] at hx
    rcases hx with rfl | rfl <;> omega
  have hn : num 4294967296 [(v : Int) % 4294967296, (v : Int) / 4294967296] = v := by
    simp only [num]
    omega
  have HN := Lib.hid hn
  have HD := Lib.hid hd
  clear hn hd
  go_enter Try.func84, Try.ntmps84
  go_wp2_with fail
  refine (cut_any _ w.heap.size (w.heap.size + 1) _ 2 2 _ hi HD.out (Nat.le_refl _) v HN.out).mono ?_
  rintro e w1 ⟨⟨m, rfl, hm, hI⟩, rfl⟩
  go_wp2
  go_ret
  exact ⟨_, m, rfl, (Below.refl _ _).alloc (Nat.le_refl _) _, hI.more (Nat.le_refl _) (by simp)⟩
set_option maxHeartbeats 1600000 in
set_option maxRecDepth 100000 in
/-- dyad.Of. -/
theorem Of_any (w : World) (z : Int) (h0 : -9223372036854775808 ≤ z) (h1 : z ≤ 9223372036854775807) (s : Bool) (v : Nat) (hs : decide (z < 0) = s) (hv : z.natAbs = v) :
    Calls Try.prog 43 #[.int .i64 z] w fun e w' => ∃ A n, e = .returned (.agg #[.bool s, .slice A n n, .int .i64 0]) ∧ Below w.heap.size w w' ∧ Ints w' w.heap.size w'.heap.size .u32 A n (canon 4294967296 v) := by
  have HV := Lib.hid hv
  by_cases hneg : z < 0
  · have : s = true := by rw [← hs]; simpa using hneg
    subst this
    clear hs hv
    obtain ⟨U, hU⟩ : ∃ U : Nat, (U : Int) = z + 18446744073709551616 := ⟨(z + 18446744073709551616).toNat, by omega⟩
    have e1 : IntKind.u64.wrap z = U := by rw [IntKind.wrap_u64]; omega
    have HU := Lib.hid hU
    have hU2 : U ≤ 18446744073709551615 := by omega
    have hU3 : 0 < U := by omega
    clear hU
    go_enter Try.func43, Try.ntmps43
    go_wp2_with fail
    refine (limbOf_any _ U (by omega) _ rfl).mono ?_
    rintro e w1 ⟨A1, n1, rfl, hB1, hI1⟩
    have hs1 := hB1.size
    simp at hs1
    have hb1 := (hB1.block w.heap.size (by simp)).trans (heap_alloc_last w _)
    have hBB := ((Below.refl w.heap.size w).alloc (Nat.le_refl _) (.cells #[.bool false, .slice none 0 0, .int .i64 0] 25)).trans (hB1.mono (by simp))
    clear hB1 hI1
    have hn0 := heap_alloc_last w1 (.cells #[.bool true, .slice A1 n1 n1, .int .i64 0] 25)
    have hr0 := heapAll (.cells #[.bool true, .slice A1 n1 n1, .int .i64 0] 25) hb1
    have hB0 := hBB.alloc (by omega) (.cells #[.bool true, .slice A1 n1 n1, .int .i64 0] 25)
    obtain ⟨y0, y1, y2, y3, y4, y5⟩ := boxA hb1
    go_wp2_with fail
    have hv2 : (-(U : Int)) % 18446744073709551616 = v := by have := HU.out; have := HV.out; omega
    refine (limbOf_any _ v (by have := HV.out; omega) _ (by first | omega | (rw [IntKind.wrap_u64]; omega))).mono ?_
    rintro e w2 ⟨A2, n2, rfl, hB2, hI2⟩
    have hs2 := hB2.size
    simp at hs2
    have hb2 := (hB2.block w.heap.size (by simp; omega)).trans hr0
    have hc2 := (hB2.block w1.heap.size (by simp)).trans hn0
    have hB3 := hB0.trans (hB2.mono (by simp; omega))
    have HI := Lib.hid hI2
    clear hB2 hI2 hn0 hr0 hB0 y0 y1 y2 y3 y4 y5
    obtain ⟨⟨x0, x1, x2⟩, x3, x4, x5⟩ := boxD hb2
    obtain ⟨⟨z0, z1, z2⟩, z3, z4, z5⟩ := boxD hc2
    have hne : w.heap.size ≠ w1.heap.size := by omega
    have hne2 : w1.heap.size ≠ w.heap.size := by omega
    go_wp2
    refine bodyPost_ret (v := .agg #[.bool true, .slice A2 n2 n2, .int .i64 0]) (by simp [results, Try.results43, go_sem, x0, x1, x2]) rfl ⟨A2, n2, rfl, ?_, ?_⟩
    · exact (((hB3.setCell (by simp; omega) _).setCell (Nat.le_refl _) _).setCell (Nat.le_refl _) _).setCell (Nat.le_refl _) _
    · refine Ints.more (lo := w1.heap.size + 1) (hi := w2.heap.size) ?_ (by omega) (by simp [World.setCell])
      have h := HI.out
      simp only [World.size_alloc] at h
      exact ints_far (ints_far (ints_far (ints_far h (.inl (by simp)) _) (.inl (by simp; omega)) _) (.inl (by simp; omega)) _) (.inl (by simp; omega)) _
  · have : s = false := by rw [← hs]; simpa using hneg
    subst this
    have h2 : 0 ≤ z := by omega
    clear hs hv
    go_enter Try.func43, Try.ntmps43
    go_wp2_with fail
    refine (limbOf_any _ v (by have := HV.out; omega) _ (by have := HV.out; first | omega | (rw [IntKind.wrap_u64]; omega))).mono ?_
    rintro e w1 ⟨A1, n1, rfl, hB1, hI1⟩
    have hs1 := hB1.size
    simp at hs1
    have hb1 := (hB1.block w.heap.size (by simp)).trans (heap_alloc_last w _)
    have hBB := ((Below.refl w.heap.size w).alloc (Nat.le_refl _) (.cells #[.bool false, .slice none 0 0, .int .i64 0] 25)).trans (hB1.mono (by simp))
    obtain ⟨y0, y1, y2, y3, y4, y5⟩ := boxA hb1
    have hne : w.heap.size ≠ w1.heap.size := by omega
    have hne2 : w1.heap.size ≠ w.heap.size := by omega
    have HI := Lib.hid hI1
    clear hB1 hI1
    go_wp2
    refine bodyPost_ret (v := .agg #[.bool false, .slice A1 n1 n1, .int .i64 0]) (by simp [results, Try.results43, go_sem, y0, y1, y2]) rfl ⟨A1, n1, rfl, ?_, ?_⟩
    · exact (((hBB.alloc (by omega) _).setCell (Nat.le_refl _) _).setCell (Nat.le_refl _) _).setCell (Nat.le_refl _) _
    · refine Ints.more (lo := w.heap.size + 1) (hi := w1.heap.size) ?_ (by omega) (by simp [World.setCell])
      have h := HI.out
      simp only [World.size_alloc] at h
      exact ints_far (ints_far (ints_far (h.alloc (Nat.le_refl _) _) (.inl (by simp)) _) (.inl (by simp)) _) (.inl (by simp)) _
end Dy
end Go.Proofs.Ytbbnbgllgomolaa
namespace Go.Proofs.Ytbbnbgllgomolaa
open Go.RowKit
namespace Dy
open Dp
set_option maxRecDepth 100000 in
/-- limb.at. -/
theorem limbAt_any (w : World) (lo hi : Nat) (A : Option Addr) (n c : Nat) (xs : List Int) (hX : Ints w lo hi .u32 A n xs) (i : Nat) (ii : Int) (hii : ii = i) (d : Nat) (hd : xs[i]?.getD 0 = (d : Int)) :
    Calls Try.prog 133 #[.slice A n c, .int .i64 ii] w fun e w' => e = .returned (.int .u32 d) ∧ w' = w := by
  subst hii
  have hl := Lib.hid hX.len
  by_cases hlt : i < n
  · obtain ⟨b, off, rfl, hcell⟩ := get hX (by omega)
    have g1 := hcell i hlt
    rw [hd] at g1
    clear hcell hd
    go_enter Try.func133, Try.ntmps133
    go_wp2
    go_ret
    exact ⟨rfl, rfl⟩
  · have h0 : d = 0 := by
      rw [List.getElem?_eq_none (by rw [hl.out]; omega)] at hd
      exact (Int.ofNat.inj hd).symm
    subst h0
    clear hd
    go_enter Try.func133, Try.ntmps133
    go_wp2
    go_ret
    exact ⟨rfl, rfl⟩
set_option maxRecDepth 100000 in
theorem asked1_any (w : World) (lo hi : Nat) (A : Option Addr) (n c : Nat) (xs : List Int) (hX : Ints w lo hi .u32 A n xs) (h : MayL xs) :
    Calls Try.prog 142 #[.slice A n c] w fun e w' => e = .returned (.bool false) ∧ w' = w := by
  have H := Lib.hid h
  clear h
  go_enter Try.func142, Try.ntmps142
  go_wp2_with fail
  refine (limbCheck_ok w lo hi A n c xs hX H.out).mono ?_
  rintro e w2 ⟨rfl, rfl⟩
  go_wp2
  go_ret
  exact ⟨rfl, rfl⟩
set_option maxHeartbeats 800000 in
set_option maxRecDepth 100000 in
theorem indexFunc_one (w : World) (g : Nat) (A : Option Addr) (n c : Nat) (hg : w.heap[g]? = some (.cells #[.slice A n c] 23 (0, 0))) (lo hi : Nat) (xs : List Int) (hX : Ints w lo hi .u32 A n xs) (h : MayL xs) :
    Calls Try.prog 143 #[.slice (some ⟨g, 0, none⟩) 1 1, .func (.func 142) #[] #[]] w fun e w' => e = .returned (.int .i64 (-1)) ∧ w' = w := by
  have H := Lib.hid h
  clear h
  have g1 : w.cell? ⟨g, 0, none⟩ = some (.slice A n c) := cell_of_row w g 0 _ _ _ hg
  go_enter Try.func143, Try.ntmps143
  go_wp2
  go_loopw [5, 8] (fun _ iv wr => (iv = .int .i64 0 ∨ iv = .int .i64 1) ∧ wr = w) (fun _ iv _ => 1 - (intOf iv).toNat)
  case atStart => exact ⟨.inl rfl, rfl⟩
  case round =>
    obtain ⟨hiv, rfl⟩ := hrel
    rcases hiv with rfl | rfl
    · go_wp2_with fail
      refine (asked1_any wr lo hi A n c xs hX H.out).mono ?_
      rintro e w2 ⟨rfl, rfl⟩
      go_wp2
      go_roundw
      case rel => exact ⟨.inr (by first | rfl | (congr 1; omega)), by first | rfl | trivial⟩
      case measure => first | (simp [intOf]; done) | (simp [intOf]; omega)
    · go_wp2
      go_ret
      exact ⟨rfl, by first | rfl | trivial⟩
set_option maxRecDepth 100000 in
theorem asked_one (w : World) (g : Nat) (A : Option Addr) (n c : Nat) (hg : w.heap[g]? = some (.cells #[.slice A n c] 23 (0, 0))) (lo hi : Nat) (xs : List Int) (hX : Ints w lo hi .u32 A n xs) (h : MayL xs) :
    Calls Try.prog 132 #[.slice (some ⟨g, 0, none⟩) 1 1] w fun e w' => e = .returned (.int .i64 0) ∧ w' = w := by
  have H := Lib.hid h
  have hc : Calls Try.prog 141 #[.slice (some ⟨g, 0, none⟩) 1 1, .func (.func 142) #[] #[]] w fun e w' => e = .returned (.bool false) ∧ w' = w := by
    go_enter Try.func141, Try.ntmps141
    go_wp2_with fail
    refine (indexFunc_one w g A n c hg lo hi xs hX H.out).mono ?_
    rintro e w2 ⟨rfl, rfl⟩
    go_wp2
    go_ret
    exact ⟨rfl, rfl⟩
  clear h hg hX
  go_enter Try.func132, Try.ntmps132
  go_wp2_with fail
  refine hc.mono ?_
  rintro e w2 ⟨rfl, rfl⟩
  clear hc
  go_wp2
  go_ret
  exact ⟨rfl, rfl⟩
/-- What stands amid the rounds of 'Right'. -/
structure RightI (w wr : World) (q : Nat) (M i n : Nat) (ds : List Int) : Prop where
  hQ : wr.heap[q]? = some (.cells (rowU ds) 70 (0, 0))
  hB : Below w.heap.size w wr
  lq : w.heap.size ≤ q
  len : ds.length = n
  dig : Dig 4294967296 ds
  done : ∀ j, j < i → ds[j]?.getD 0 = ((M / 4294967296 ^ j % 4294967296 : Nat) : Int)
theorem RightI.set {w wr : World} {q M i n : Nat} {ds : List Int} (h : RightI w wr q M i n ds) {d : Nat} (hi : i < n) (hd : d < 4294967296) (hv : d = M / 4294967296 ^ i % 4294967296) : RightI w (wr.setCell ⟨q, i, none⟩ (.int .u32 d)) q M (i + 1) n (ds.set i (d : Int)) :=
  ⟨by rw [heap_setCell_same wr q i _ _ _ h.hQ, rowU_set], h.hB.setCell h.lq _, h.lq, by rw [List.length_set, h.len], dig_set h.dig i d hd, fun j hj => by
    by_cases hji : j = i
    · subst hji
      rw [List.getElem?_set_self (by rw [h.len]; exact hi), ← hv]
      rfl
    · rw [set_far _ _ (fun e => hji e.symm)]
      exact h.done j (by omega)⟩
theorem RightI.drewN {w wr : World} {q M i n : Nat} {ds : List Int} (h : RightI w wr q M i n ds) (m : Nat) : RightI w (wr.drewN m) q M i n ds := ⟨h.hQ, ⟨h.hB.os, h.hB.tape, h.hB.output, h.hB.size, h.hB.block⟩, h.lq, h.len, h.dig, h.done⟩
theorem RightI.ints {w wr : World} {q M n : Nat} {ds : List Int} (h : RightI w wr q M n n ds) (hn : n ≤ 1000) : Ints wr w.heap.size wr.heap.size .u32 (some ⟨q, 0, none⟩) n ds :=
  ⟨h.len, fun x hx => by
    have h3 := h.dig x hx
    have h4 : 0 ≤ x ∧ x ≤ 4294967295 := by omega
    simpa [IntKind.min, IntKind.max, IntKind.signed, IntKind.bits] using h4, by omega, fun _ => ⟨q, 0, rfl, h.lq, (Array.getElem?_eq_some_iff.1 h.hQ).1, fun j hj => ⟨by
      rw [Nat.zero_add, cell_of_row wr q j _ _ _ h.hQ]
      exact rowU_get ds (by rw [h.len]; exact hj), by
      rw [Nat.zero_add]
      exact frozen_of_row wr q j _ _ h.hQ⟩⟩⟩
theorem or_limbs (x y : Nat) (hx : x < 4294967296) (hy : y < 4294967296) : bits BinOp.or IntKind.u64 ((x : Int) * 4294967296) (y : Int) = ((x * 4294967296 + y : Nat) : Int) := by
  have := u64_or_nat (x * 4294967296) y (by omega) (by omega)
  rw [nat_join 32 _ _ (by omega) (by omega)] at this
  rw [← this]
  congr 1
set_option maxHeartbeats 3200000 in
set_option maxRecDepth 100000 in
/-- limb.Right, by less than a limb. -/
theorem Right_any (w : World) (A : Option Addr) (n c : Nat) (xs : List Int) (hX : Ints w 0 w.heap.size .u32 A n xs) (h : MayL xs) (hd : Dig 4294967296 xs) (hn : 0 < n) (hnc : n ≤ c) (k : Nat) (hk : k < 32) (v : Nat) (hv : num 4294967296 xs / 2 ^ k = v) :
    Calls Try.prog 110 #[.slice A n c, .int .i64 k] w fun e w' => ∃ A' m, e = .returned (.tuple #[.slice A' m m, .int .i64 0]) ∧ Below w.heap.size w w' ∧ m ≤ n ∧ Ints w' w.heap.size w'.heap.size .u32 A' m (canon 4294967296 v) := by
  have hl := Lib.hid hX.len
  have h40 : n ≤ 40 := by have := h.1; have := hl.out; omega
  have HM := Lib.hid h
  have HV := Lib.hid hv
  have HD := Lib.hid hd
  clear h hv hd
  have hX1 := hX.alloc (Nat.le_refl _) (.cells #[.slice A n c] 23)
  generalize hw : w.alloc (.cells #[.slice A n c] 23) = w1
  rw [hw] at hX1
  have hg : w1.heap[w.heap.size]? = some (.cells #[.slice A n c] 23 (0, 0)) := by rw [← hw]; exact heap_alloc_last _ _
  have hb : Below w.heap.size w w1 := by rw [← hw]; exact (Below.refl _ _).alloc (Nat.le_refl _) _
  have l1 : w.heap.size < w1.heap.size := by rw [← hw]; simp
  have hk0 : (k : Int) / 32 = 0 := by omega
  have hnb : decide (n = 0) = false := decide_eq_false (by omega)
  have hkb : decide ((k : Int) < 0) = false := decide_eq_false (by omega)
  go_enter Try.func110, Try.ntmps110
  go_wp2_with fail
  try clear hw
  refine (asked_one w1 w.heap.size A n c hg 0 w.heap.size xs hX1 HM.out).mono ?_
  rintro e w2 ⟨rfl, rfl⟩
  clear hg
  have hmk := make_u32 n (by omega)
  obtain ⟨b, off, rfl, _⟩ := get hX1 hn
  go_wp2_with fail
  generalize hw3 : w2.alloc (.cells (rowU (List.replicate n 0)) 70) = w3
  have hQ3 : w3.heap[w2.heap.size]? = some (.cells (rowU (List.replicate n 0)) 70 (0, 0)) := by rw [← hw3]; exact heap_alloc_last _ _
  have hb3 : Below w.heap.size w w3 := by rw [← hw3]; exact hb.alloc (by omega) _
  have hX3 : Ints w3 0 w.heap.size .u32 (some ⟨b, off, none⟩) n xs := by rw [← hw3]; exact hX1.alloc (by omega) _
  clear hw3 hmk
  go_loopw [8, 9, 35] (fun _ _ iv wr => ∃ (i : Nat) (ds : List Int), iv = .int .i64 i ∧ i ≤ n ∧ RightI w wr w2.heap.size v i n ds) (fun _ _ iv _ => n - (intOf iv).toNat)
  case atStart => exact ⟨0, _, rfl, Nat.zero_le _, hQ3, hb3, by omega, by simp, dig_zeros n, fun j hj => absurd hj (Nat.not_lt_zero _)⟩
  case round =>
    clear hQ3 hb3 hX3
    obtain ⟨i, ds, rfl, hi, hR⟩ := hrel
    have hXr := hX.below hR.hB (Nat.le_refl _)
    by_cases hlt : i < n
    · obtain ⟨b', off', e, hcell⟩ := get hXr hn
      injection e with e
      injection e with e1 e2
      subst e1 e2
      obtain ⟨x, hx, hx2⟩ := dig_get (by decide) HD.out (i + 1)
      obtain ⟨y, hy, hy2⟩ := dig_get (by decide) HD.out i
      have hlaw := at_limb HD.out i k x y (by rw [show i + k / 32 + 1 = i + 1 by omega]; exact hx) (by rw [show i + k / 32 = i by omega]; exact hy)
      rw [HV.out, show k % 32 = k by omega] at hlaw
      have g1 := hcell i hlt
      rw [hy] at g1
      have e1 := or_limbs x y hx2 hy2
      obtain ⟨s, hs⟩ : ∃ s, x * 4294967296 + y = s := ⟨_, rfl⟩
      rw [hs] at hlaw e1
      obtain ⟨d, hd⟩ : ∃ d, s / 2 ^ k % 4294967296 = d := ⟨_, rfl⟩
      have hd2 : d < 4294967296 := by omega
      have E : (s : Int) / 2 ^ k % 4294967296 = (d : Int) := by rw [cast_dm, hd]
      have HDV := Lib.hid (hd.symm.trans hlaw)
      have HX := Lib.hid hx
      have hk1 : (k : Int) % 32 = k := by omega
      have c3 : wr.cell? ⟨w2.heap.size, i, none⟩ = some (.int .u32 (ds[i]?.getD 0)) := by
        rw [cell_of_row wr _ i _ _ _ hR.hQ]
        exact rowU_get ds (by rw [hR.len]; exact hlt)
      have f3 : wr.frozen? ⟨w2.heap.size, i, none⟩ = false := frozen_of_row wr _ i _ _ hR.hQ
      clear hcell hx hy hs hd hlaw
      go_wp2_with fail
      go_quiet (first | (go_at_call 133; refine Calls.quiet_of_same (limbAt_any _ 0 w.heap.size _ n c xs (hXr.drewN _) (i + 1) _ (by omega) x HX.out)))
      go_wp2
      go_roundw
      case rel =>
        exact ⟨i + 1, ds.set i (d : Int), by go_num, by omega, (hR.drewN _).set hlt hd2 HDV.out⟩
      case measure => first | (simp [intOf]; done) | (simp [intOf]; omega)
    · obtain rfl : i = n := by omega
      have hnum : num 4294967296 ds = v := by
        refine num_of ds v (fun j hj => hR.done j (by rw [← hR.len]; exact hj)) ?_
        rw [hR.len, ← HV.out]
        have := num_lt 4294967296 (by decide) xs HD.out
        rw [hl.out] at this
        exact Nat.lt_of_le_of_lt (Nat.div_le_self _ _) this
      have HN := Lib.hid hnum
      have hI := hR.ints (by omega)
      have hbR := hR.hB
      have hdR := Lib.hid hR.dig
      clear hnum hR hXr
      go_wp2_with fail
      refine (cut_any wr w.heap.size wr.heap.size (some ⟨w2.heap.size, 0, none⟩) i i ds hI hdR.out (Nat.le_refl _) v HN.out).mono ?_
      rintro e w4 ⟨⟨m, rfl, hm, hIm⟩, rfl⟩
      clear hI
      go_wp2
      go_ret2
      exact ⟨_, m, rfl, hbR, hm, hIm⟩
end Dy
end Go.Proofs.Ytbbnbgllgomolaa
namespace Go.Proofs.Ytbbnbgllgomolaa
open Go.RowKit
namespace Dy
theorem canon_shift {B n : Nat} (hB : 2 ≤ B) (k : Nat) (h : n ≠ 0) : List.replicate k 0 ++ canon B n = canon B (B ^ k * n) := by
  obtain ⟨h1, h2, h3⟩ := canon_spec B n hB
  have hne : canon B n ≠ [] := fun e => h (canon_nil hB e)
  refine canon_of hB (fun x hx => ?_) (fun hn => ?_) (by rw [num_append, num_zeros, h3]; simp)
  · rcases List.mem_append.1 hx with h' | h'
    · rw [(List.mem_replicate.1 h').2]
      omega
    · exact h1 x h'
  · rw [List.getLast_append_of_ne_nil _ hne]
    exact h2 hne
set_option maxHeartbeats 800000 in
set_option maxRecDepth 100000 in
/-- headcountref01.Times2. -/
theorem Times2_any (w : World) (lo hi : Nat) (A : Option Addr) (n c : Nat) (v : Nat) (hX : Ints w lo hi .u8 A n (canon 2 v)) (hhi : hi ≤ w.heap.size) (hn : n ≤ 1000000) (k : Nat) (kk : Int) (hkk : kk = k) (hk : k ≤ 100000) :
    Calls Try.prog 103 #[.slice A n c, .int .i64 kk] w fun e w' => ∃ A' n' c', e = .returned (.slice A' n' c') ∧ n' ≤ c' ∧ n' ≤ n + k ∧ Below w.heap.size w w' ∧ Ints w' w.heap.size w'.heap.size .u8 A' n' (canon 2 (2 ^ k * v)) := by
  subst hkk
  obtain ⟨i0, hi0, hz0, hz1, hz2⟩ := info_parts Try.info5
  have HL := Lib.hid hX.len
  by_cases h0 : v = 0
  · subst h0
    have hn0 : n = 0 := by rw [← HL.out]; rfl
    subst hn0
    go_enter Try.func103, Try.ntmps103
    go_wp2
    go_ret
    exact ⟨none, 0, 0, rfl, Nat.le_refl _, by omega, Below.refl _ _, by rw [Nat.mul_zero]; exact Ints.nil_ ..⟩
  · have hn0 : 0 < n := by
      rw [← HL.out]
      exact List.length_pos_iff.2 fun e => h0 (canon_nil (by decide) e)
    have hC := Lib.hid (canon_shift (B := 2) (by decide) k h0)
    go_enter Try.func103, Try.ntmps103
    go_wp2_with (first
      | (at_make; refine wpList_make_full _ rfl _ _ 108 rfl w.heap.size 5 i0 (.int .u8 0) 1 Try.underlying108 hi0 hz0 hz1 .i64 .i64 k k k rfl rfl rfl rfl (by rw [hz2]; omega) (by unfold maxLen; omega) (Nat.le_refl _) ?_))
    intro w1 hown1 hgrow1
    have hz : (madeCells #[Value.int .u8 0] k).toList = (List.replicate k (0 : Int)).map (Value.int .u8) := by
      apply List.ext_getElem
      · simp [madeCells]
      · intro j h1 h2
        simp [madeCells, Nat.mod_one]
    rw [hz] at hown1
    have hb1 : Below w.heap.size w w1 := (Below.refl _ w).grown hgrow1 (Nat.le_refl _) (fun q hq => by cases hq)
    clear hz hgrow1
    go_wp2_with (first
      | (at_builtin; refine wpList_append_raw _ rfl (.tmp 9) (.tmp 10) 108 rfl w.heap.size 5 i0 (.int .u8 0) 1 1 Try.underlying108 hi0 hz0 hz1 hz2 rfl (by decide) _ _ _ rfl hown1 _ _ _ n _ _ rfl (hX.below hb1 hhi).raw ?c1 ?c2 ?c3 ?c4 ?_))
    case c1 => exact ints_oneCell _ _
    case c2 => unfold maxLen; omega
    case c3 => omega
    case c4 => exact hb1.size
    intro A2 c2 w2 hown2 hgrow2 _
    have hb2 : Below w.heap.size w w2 := hb1.grown hgrow2 hb1.size (fun q hq => (hown1.lt q hq).1)
    have hcz : List.replicate k (Value.int .u8 0) ++ (canon 2 v).map (Value.int .u8) = (canon 2 (2 ^ k * v)).map (Value.int .u8) := by rw [← hC.out]; simp
    rw [hcz] at hown2
    clear hcz
    have hc2 := own_cap hown2
    have hwf : ∀ x ∈ canon 2 (2 ^ k * v), IntKind.u8.min ≤ x ∧ x ≤ IntKind.u8.max := fun x hx => by
      have := (canon_spec 2 (2 ^ k * v) (by decide)).1 x hx
      simp only [IntKind.min, IntKind.max, IntKind.signed, IntKind.bits]
      omega
    have hI := Ints.of_own hown2 hwf (by omega)
    clear hown1 hown2 hgrow2 hb1
    go_wp2
    go_ret
    exact ⟨A2, k + n, c2, rfl, hc2, by omega, hb2, hI⟩
end Dy
end Go.Proofs.Ytbbnbgllgomolaa
namespace Go.Proofs.Ytbbnbgllgomolaa
open Go.RowKit
namespace Dy
theorem bits_law {out : List Int} {k i t : Nat} (S r : Nat) (hl : out.length = i + k) (h : num 2 out = S + 2 ^ i * (t % 2 ^ k)) (hr : t / 2 ^ k = r) :
    num 2 (out ++ [((r % 2 : Nat) : Int)]) = S + 2 ^ i * (t % 2 ^ (k + 1)) := by
  rw [num_append, hl, h, Nat.mod_pow_succ, hr]
  simp only [num, Int.toNat_natCast, Nat.mul_zero, Nat.add_zero, Nat.mul_add, Nat.pow_add]
  rw [Nat.mul_assoc, Nat.add_assoc]
set_option maxHeartbeats 1600000 in
set_option maxRecDepth 100000 in
/-- headcountref01.Digits. -/
theorem Digits_any (w : World) (lo hi : Nat) (A : Option Addr) (n c : Nat) (xs : List Int) (hX : Ints w lo hi .u32 A n xs) (hdx : Dig 4294967296 xs) (hhi : hi ≤ w.heap.size) (hn : n ≤ 10000) (v : Nat) (hv : num 4294967296 xs = v) :
    Calls Try.prog 104 #[.slice A n c] w fun e w' => ∃ A' n' c', e = .returned (.slice A' n' c') ∧ n' ≤ c' ∧ n' ≤ 32 * n ∧ Below w.heap.size w w' ∧ Ints w' w.heap.size w'.heap.size .u8 A' n' (canon 2 v) := by
  have HL := Lib.hid hX.len
  have HV := Lib.hid hv
  clear hv
  obtain ⟨i0, hi0, hz0, hz1, hz2⟩ := info_parts Try.info5
  go_enter Try.func104, Try.ntmps104
  go_wp2
  go_loopw [3, 4] (fun o i wr => ∃ j : Nat, ∃ out : List Int, i = .int .i64 j ∧ j ≤ n ∧ wr.ownsRow w.heap.size 5 1 o (32 * j) (out.map (Value.int .u8)) ∧ Dig 2 out ∧ Hid (num 2 out = num 4294967296 (xs.take j)) ∧ Below w.heap.size w wr)
    (fun _ i _ => n - (intOf i).toNat)
  case atStart => exact ⟨0, [], rfl, by omega, ⟨rfl, .inl ⟨rfl, rfl⟩⟩, fun x hx => (by simp at hx), by simp [Hid, num], Below.refl _ _⟩
  case round =>
    obtain ⟨j, out, rfl, hj, hown, hdo, hnum, hnx⟩ := hrel
    by_cases hlt : j < n
    · obtain ⟨b, off, rfl, hcell⟩ := get (hX.below hnx hhi) (by omega)
      have g1 : wr.cell? ⟨b, off + j, none⟩ = some (.int .u32 (xs[j]?.getD 0)) := hcell j hlt
      clear hcell
      have hxm : 0 ≤ xs[j]?.getD 0 ∧ xs[j]?.getD 0 < 4294967296 := by
        rw [List.getElem?_eq_getElem (by rw [HL.out]; exact hlt)]
        exact hdx _ (List.getElem_mem _)
      obtain ⟨t, ht⟩ : ∃ t : Nat, xs[j]?.getD 0 = t := ⟨(xs[j]?.getD 0).toNat, by omega⟩
      have HT := Lib.hid ht
      rw [ht] at g1 hxm
      clear ht
      obtain ⟨S, hS⟩ : ∃ S, num 4294967296 (xs.take j) = S := ⟨_, rfl⟩
      rw [hS] at hnum
      have HSS := Lib.hid hS
      clear hS
      go_wp2
      go_loopw [3, 5, 6] (fun o nn kv wr => ∃ k r : Nat, ∃ out : List Int, kv = .int .i64 k ∧ nn = .int .u32 r ∧ Hid (t / 2 ^ k = r) ∧ r ≤ 4294967295 ∧ k ≤ 32 ∧ wr.ownsRow w.heap.size 5 1 o (32 * j + k) (out.map (Value.int .u8)) ∧ Dig 2 out ∧ Hid (num 2 out = S + 2 ^ (32 * j) * (t % 2 ^ k)) ∧ Below w.heap.size w wr)
        (fun _ _ kv _ => 32 - (intOf kv).toNat)
      case atStart => exact ⟨0, t, out, rfl, rfl, by simp [Hid], by omega, by omega, hown, hdo, by rw [Hid, hnum.out]; simp [Nat.mod_one], hnx⟩
      case round =>
        clear hown hdo hnum hnx g1
        obtain ⟨k, r, out, rfl, rfl, hr, hr2, hk, hown, hdo, hnum, hnx⟩ := hrel
        by_cases hkl : k < 32
        · have hol : out.length = 32 * j + k := by have := hown.1; simpa using this
          have hnum2 := Lib.hid (bits_law S r hol hnum.out hr.out)
          have hdo2 := dig_snoc hdo (r % 2) (by omega)
          have hr3 : Hid (t / 2 ^ (k + 1) = r / 2) := by rw [Hid, Nat.pow_succ, ← Nat.div_div_eq_div_mul, hr.out]
          clear hol hnum hr
          go_wp2_with (first
            | (at_builtin; refine wpList_append_raw _ rfl (.tmp 21) (.tmp 25) 108 rfl w.heap.size 5 i0 (.int .u8 0) 1 1 Try.underlying108 hi0 hz0 hz1 hz2 rfl (by decide) _ _ _ rfl (hown.alloc _) _ _ _ 1 1 [.int .u8 ((r : Int) % 2)] rfl (raw_one _ _ _ _) ?c1 ?c2 ?c3 ?c4 ?_))
          case c1 => first | rfl | (intro u hu; simp at hu; subst hu; rfl)
          case c2 => unfold maxLen; omega
          case c3 => omega
          case c4 => have := hnx.size; simp; omega
          intro A2 c2 w3 hown2 hgrow2 _
          have hnx2 : Below w.heap.size w w3 := (hnx.alloc hnx.size _).grown hgrow2 (by have := hnx.size; simp; omega) (fun q hq => (hown.lt q hq).1)
          have hs : (r : Int) % 2 = ((r % 2 : Nat) : Int) := by omega
          rw [hs] at hown2
          have hown3 : w3.ownsRow w.heap.size 5 1 (.slice A2 (32 * j + k + 1) c2) (32 * j + (k + 1)) ((out ++ [((r % 2 : Nat) : Int)]).map (Value.int .u8)) := by simpa [Nat.add_assoc] using hown2
          clear hs hown2 hgrow2 hown
          go_wp2
          go_roundw
          case rel => exact ⟨k + 1, r / 2, _, by go_num, by congr 1, hr3, by omega, by omega, hown3, hdo2, hnum2, hnx2⟩
          case measure => simp [intOf]; omega
        · obtain rfl : k = 32 := by omega
          have hfin : Hid (num 2 out = num 4294967296 (xs.take (j + 1))) := by
            rw [Hid, take_num, HT.out, HSS.out, hnum.out, Nat.mod_eq_of_lt (by omega), Nat.pow_mul]
            simp
          clear hnum
          go_wp2
          go_roundw
          case rel => exact ⟨j + 1, out, by go_num, by omega, by rw [show 32 * (j + 1) = 32 * j + 32 by omega]; exact hown, hdo, hfin, hnx⟩
          case measure => simp [intOf]; omega
    · obtain rfl : j = n := by omega
      obtain ⟨A2, c2, rfl, hc2, _⟩ := own_shape hown
      have hend : num 2 out = v := by rw [hnum.out, List.take_of_length_le (by rw [HL.out]; exact Nat.le_refl _), HV.out]
      have hwf : ∀ x ∈ out, IntKind.u8.min ≤ x ∧ x ≤ IntKind.u8.max := fun x hx => by
        have := hdo x hx
        simp only [IntKind.min, IntKind.max, IntKind.signed, IntKind.bits]
        omega
      have hI := Ints.of_own hown hwf (by omega)
      have HE := Lib.hid hend
      clear hown hnum hend
      go_wp2_with fail
      refine (Cut_any _ _ _ _ _ _ _ hI hdo hc2).mono ?_
      rintro e w4 ⟨⟨m4, rfl, hm4, hI4⟩, rfl⟩
      rw [HE.out] at hI4
      go_wp2_with fail
      go_ret
      exact ⟨A2, m4, c2, rfl, by omega, hm4, hnx, hI4⟩
end Dy
end Go.Proofs.Ytbbnbgllgomolaa
