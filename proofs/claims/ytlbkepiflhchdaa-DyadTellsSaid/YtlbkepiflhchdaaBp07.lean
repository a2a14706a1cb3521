/- The law DyadSums: a walk (printed by a program of mine). -/
/- headcountref01.Of, headcountref02.Of: walks. -/
/- The law DyadTells: a walk (printed by a program of mine). -/
/- What every statement's row asks beside its walk: arguments that read as data hold what our predicates say; behind the call they read as before. -/
/- Dyads among the arguments. -/
import Derived.Test.YtlbkepiflhchdaaBp05
import Derived.Test.YtlbkepiflhchdaaBp06
import Derived.Test.YtlbkepiflhchdaaBp03
import Derived.ProofKit
import Derived.Test.YtlbkepiflhchdaaBp01
import Derived.Lib.SmallJoins
import Derived.Deep.SlicePairs
namespace Go.Proofs.Ytlbkepiflhchdaa
open Go.RowKit
namespace Dy
open Dp
/-- Cells that may be written. -/
def WrD (w : World) (b off n : Nat) : Prop := ∀ j, j < n → (∃ u, w.cell? ⟨b, off + j, none⟩ = some u) ∧ w.frozen? ⟨b, off + j, none⟩ = false
theorem WrD.set_ {w : World} {b off n : Nat} (h : WrD w b off n) (p : Addr) (v : Value) : WrD (w.setCell p v) b off n := fun j hj => by
  obtain ⟨⟨u, h1⟩, h2⟩ := h j hj
  refine ⟨?_, by rw [World.frozen?_setCell]; exact h2⟩
  by_cases e : p = ⟨b, off + j, none⟩
  · subst e
    exact ⟨v, World.cell?_setCell_same' _ _ _ (by rw [h1]; rfl)⟩
  · exact ⟨u, (World.cell?_setCell_other _ _ _ _ e).trans h1⟩
/-- What lies from hi on stays, too. -/
def From (hi : Nat) (w w' : World) : Prop := ∀ k, hi ≤ k → k < w.heap.size → w'.heap[k]? = w.heap[k]?
theorem From.setCell {hi : Nat} {w0 w : World} (h : From hi w0 w) {p : Addr} (hp : p.block < hi) (v : Value) : From hi w0 (w.setCell p v) := fun k h1 h2 => by
  rw [← h k h1 h2]
  exact Below.heap_setCell _ _ _ _ (by omega)
set_option maxHeartbeats 800000 in
set_option maxRecDepth 100000 in
/-- headcountlaw02.spoil: just the row's own range is written. -/
theorem spoilD_any (w : World) (s : Bool) (A : Option Addr) (n c : Nat) (xs : List Int) (ex : Int) (lo hi : Nat) (h : Ints w lo hi .u32 A n xs) (hn : n ≤ 1000000) (hhi : hi ≤ w.heap.size) (hlo : lo ≤ w.heap.size) :
    Calls Try.prog 15 #[.agg #[.bool s, .slice A n c, .int .i64 ex]] w fun e w' => e = .returned (.tuple #[]) ∧ Below lo w w' ∧ From hi w w' := by
  generalize hw : w.alloc (.cells #[.bool s, .slice A n c, .int .i64 ex] 24) = w1 at *
  have X1 : w1.heap[w.heap.size]? = some (.cells #[.bool s, .slice A n c, .int .i64 ex] 24 (0, 0)) := by rw [← hw]; exact heap_alloc_last _ _
  have b1 : Below lo w w1 := by rw [← hw]; exact (Below.refl _ w).alloc hlo _
  have f1 : From hi w w1 := by rw [← hw]; exact fun k _ h2 => Below.heap_alloc _ _ _ h2
  have hc : 0 < n → ∃ b off, A = some ⟨b, off, none⟩ ∧ lo ≤ b ∧ b < hi ∧ WrD w1 b off n := fun h0 => by
    obtain ⟨b, off, e, h1, h2, hc⟩ := h.row h0
    refine ⟨b, off, e, h1, h2, fun j hj => ?_⟩
    have h3 : w1.heap[b]? = w.heap[b]? := by rw [← hw]; exact Below.heap_alloc _ _ _ (by omega)
    obtain ⟨h4, h5⟩ := hc j hj
    exact ⟨⟨_, by rw [World.cell?_of_block h3]; exact h4⟩, by rw [World.frozen?_of_block h3]; exact h5⟩
  clear h
  go_enter Try.func15, Try.ntmps15
  go_wp2
  try clear hw
  go_loopw [2] (fun iv wr => ∃ i : Nat, iv = .int .i64 i ∧ i ≤ n ∧ wr.heap[w.heap.size]? = some (.cells #[.bool s, .slice A n c, .int .i64 ex] 24 (0, 0)) ∧ Below lo w wr ∧ From hi w wr ∧ (0 < n → ∃ b off, A = some ⟨b, off, none⟩ ∧ lo ≤ b ∧ b < hi ∧ WrD wr b off n)) (fun iv _ => n - (intOf iv).toNat)
  case atStart => exact ⟨0, rfl, Nat.zero_le _, X1, b1, f1, hc⟩
  case round =>
    clear X1 b1 f1 hc
    obtain ⟨i, rfl, hi1, X1, b1, f1, hc⟩ := hrel
    obtain ⟨⟨y1, y2, y3⟩, y4, y5, y6⟩ := boxD X1
    by_cases hlt : i < n
    · obtain ⟨b, off, rfl, hb1, hb2, hW⟩ := hc (by omega)
      clear hc
      obtain ⟨⟨u, q1⟩, q2⟩ := hW i hlt
      have hwr : IntKind.i64.wrap ((i : Int) + 1) = ((i + 1 : Nat) : Int) := by rw [IntKind.wrap_i64]; omega
      go_wp2
      go_roundw
      case rel => exact ⟨i + 1, by first | rfl | (congr 1; omega) | go_num, by omega, (Below.heap_setCell _ _ _ _ (by simp; omega)).trans X1, b1.setCell hb1 _, f1.setCell hb2 _, fun _ => ⟨b, off, rfl, hb1, hb2, hW.set_ _ _⟩⟩
      case measure => first | (simp [intOf]; done) | (simp [intOf]; omega)
    · obtain rfl : i = n := by omega
      clear hc
      go_wp2
      go_end0
      exact ⟨rfl, b1, f1⟩
theorem ints_spoilt {w w' : World} {lo hi l h n : Nat} {k : IntKind} {A : Option Addr} {xs : List Int} (hI : Ints w l h k A n xs) (hb : Below lo w w') (hf : From hi w w') (hs : h ≤ w.heap.size) (hd : h ≤ lo ∨ hi ≤ l) : Ints w' l h k A n xs :=
  ⟨hI.len, hI.wf, hI.big, fun h0 => by
    obtain ⟨b, off, e, h1, h2, hc⟩ := hI.row h0
    have h3 : w'.heap[b]? = w.heap[b]? := by
      rcases hd with hd | hd
      · exact hb.block b (by omega)
      · exact hf b (by omega) (by omega)
    exact ⟨b, off, e, h1, h2, fun j hj => ⟨by rw [World.cell?_of_block h3]; exact (hc j hj).1, by rw [World.frozen?_of_block h3]; exact (hc j hj).2⟩⟩⟩
theorem box_spoilt {w w' : World} {lo hi g : Nat} {o : Obj} (h : w.heap[g]? = some o) (hb : Below lo w w') (hf : From hi w w') (hd : g < lo ∨ hi ≤ g) : w'.heap[g]? = some o := by
  rcases hd with hd | hd
  · exact (hb.block g hd).trans h
  · exact (hf g hd (Array.getElem?_eq_some_iff.1 h).1).trans h
theorem great_len {s : Bool} {xs : List Int} {e : Int} {n : Nat} {gr : Bool} (hl : xs.length = n) (h : Pa.Dy.great ⟨s, xs, e⟩ = gr) : gr = false → n ≤ 42 := by
  rintro rfl
  simp [Pa.Dy.great] at h
  omega
end Dy
end Go.Proofs.Ytlbkepiflhchdaa
namespace Go.Proofs.Ytlbkepiflhchdaa
open Go.RowKit
namespace Dy
open Dp
theorem of_bound {k r v : Nat} {o : Nat} (h : o + 2 ^ k * r = v) (h0 : 0 < r) (hv : v < 18446744073709551616) : k < 64 := by
  have h1 : 2 ^ k * 1 ≤ 2 ^ k * r := Nat.mul_le_mul_left _ h0
  have h2 : 2 ^ k < 2 ^ 64 := by
    have e : (2 : Nat) ^ 64 = 18446744073709551616 := by decide
    rw [e]
    omega
  exact (Nat.pow_lt_pow_iff_right (by decide)).1 h2
theorem of_step {k r v : Nat} {out : List Int} (hl : out.length = k) (h : num 2 out + 2 ^ k * r = v) : num 2 (out ++ [((r % 2 : Nat) : Int)]) + 2 ^ (k + 1) * (r / 2) = v := by
  rw [num_append, hl, ← h]
  have e1 : num 2 [((r % 2 : Nat) : Int)] = r % 2 := by
    simp [num]
    omega
  have e2 : 2 ^ k * r = 2 ^ k * (r % 2) + 2 ^ k * (2 * (r / 2)) := by
    rw [← Nat.mul_add]
    congr 1
    omega
  rw [e1, e2, Nat.pow_succ, Nat.mul_assoc]
  omega
set_option maxHeartbeats 3200000 in
set_option maxRecDepth 100000 in
/-- headcountref01.Of. -/
theorem rOf1_any (w : World) (v : Nat) (hv : v < 18446744073709551616) :
    Calls Try.prog 28 #[.int .u64 v] w fun e w' => ∃ A n c, e = .returned (.slice A n c) ∧ n ≤ c ∧ Below w.heap.size w w' ∧ Ints w' w.heap.size w'.heap.size .u32 A n (canon 4294967296 v) := by
  obtain ⟨i0, hi0, hz0, hz1, hz2⟩ := info_parts Try.info5
  go_enter Try.func28, Try.ntmps28
  go_wp2
  go_loopw [0, 3] (fun nv o wr => ∃ k r : Nat, ∃ out : List Int, nv = .int .u64 r ∧ r ≤ 18446744073709551615 ∧ k ≤ 64 ∧ wr.ownsRow w.heap.size 5 1 o k (out.map (Value.int .u8)) ∧ Dig 2 out ∧ Hid (num 2 out + 2 ^ k * r = v) ∧ Below w.heap.size w wr)
    (fun nv _ _ => (intOf nv).toNat)
  case atStart => exact ⟨0, v, [], rfl, by omega, by omega, ⟨rfl, .inl ⟨rfl, rfl⟩⟩, fun x hx => (by simp at hx), by simp [Hid, num], Below.refl _ _⟩
  case round =>
    obtain ⟨k, r, out, rfl, hr, hk, hown, hdo, hnum, hnx⟩ := hrel
    by_cases h0 : 0 < r
    · have hol : out.length = k := by have := hown.1; simpa using this
      have hk64 := of_bound hnum.out h0 hv
      have hnum2 := Lib.hid (of_step hol hnum.out)
      have hdo2 := dig_snoc hdo (r % 2) (by omega)
      clear hol hnum
      go_wp2_with (first
        | (at_builtin; refine wpList_append_raw _ rfl (.tmp 6) (.tmp 10) 47 rfl w.heap.size 5 i0 (.int .u8 0) 1 1 Try.underlying47 hi0 hz0 hz1 hz2 rfl (by decide) _ _ _ rfl (hown.alloc _) _ _ _ 1 1 [.int .u8 ((r : Int) % 2)] rfl (raw_one _ _ _ _) ?c1 ?c2 ?c3 ?c4 ?_))
      case c1 => first | rfl | (intro u hu; simp at hu; subst hu; rfl)
      case c2 => unfold maxLen; omega
      case c3 => omega
      case c4 => have := hnx.size; simp; omega
      intro A2 c2 w3 hown2 hgrow2 _
      have hnx2 : Below w.heap.size w w3 := (hnx.alloc hnx.size _).grown hgrow2 (by have := hnx.size; simp; omega) (fun q hq => (hown.lt q hq).1)
      have hs : (r : Int) % 2 = ((r % 2 : Nat) : Int) := by omega
      rw [hs] at hown2
      have hown3 : w3.ownsRow w.heap.size 5 1 (.slice A2 (k + 1) c2) (k + 1) ((out ++ [((r % 2 : Nat) : Int)]).map (Value.int .u8)) := by simpa [Nat.add_assoc] using hown2
      clear hs hown2 hgrow2 hown
      go_wp2
      go_roundw
      case rel => exact ⟨k + 1, r / 2, _, by congr 1, by omega, by omega, hown3, hdo2, hnum2, hnx2⟩
      case measure => simp [intOf]; omega
    · obtain rfl : r = 0 := by omega
      obtain ⟨A2, c2, rfl, hc2, _⟩ := own_shape hown
      have hend : num 2 out = v := by have := hnum.out; omega
      have hwf : ∀ x ∈ out, IntKind.u8.min ≤ x ∧ x ≤ IntKind.u8.max := fun x hx => by
        have := hdo x hx
        simp only [IntKind.min, IntKind.max, IntKind.signed, IntKind.bits]
        omega
      have hI := Ints.of_own hown hwf (by omega)
      have HE := Lib.hid hend
      clear hown hnum hend
      go_wp2_with fail
      refine (Limbs_any _ _ _ _ _ _ out hI hdo hc2 (Nat.le_refl _) (by omega) v HE.out).mono ?_
      rintro e w4 ⟨A4, n4, c4, rfl, hn4, hB, hI4⟩
      go_wp2
      go_ret
      exact ⟨A4, n4, c4, rfl, hn4, hnx.trans (hB.mono hnx.size), hI4.more hnx.size (Nat.le_refl _)⟩
set_option maxHeartbeats 3200000 in
set_option maxRecDepth 100000 in
/-- headcountref02.Of. -/
theorem rOf_any (w : World) (z : Int) (h0 : -9223372036854775808 ≤ z) (h1 : z ≤ 9223372036854775807) (s : Bool) (v : Nat) (hs : decide (z < 0) = s) (hv : z.natAbs = v) :
    Calls Try.prog 13 #[.int .i64 z] w fun e w' => ∃ A n c, e = .returned (.agg #[.bool s, .slice A n c, .int .i64 0]) ∧ n ≤ c ∧ Below w.heap.size w w' ∧ Ints w' w.heap.size w'.heap.size .u32 A n (canon 4294967296 v) := by
  generalize hw : w.alloc (.cells #[.bool false, .slice none 0 0, .int .i64 0] 24) = w1
  have X1 : w1.heap[w.heap.size]? = some (.cells #[.bool false, .slice none 0 0, .int .i64 0] 24 (0, 0)) := by rw [← hw]; exact heap_alloc_last _ _
  have hb : Below w.heap.size w w1 := by rw [← hw]; exact (Below.refl _ w).alloc (Nat.le_refl _) _
  have l1 : w.heap.size < w1.heap.size := by rw [← hw]; simp
  have hv64 : v < 18446744073709551616 := by omega
  by_cases hz : z < 0
  · obtain rfl : s = true := by rw [← hs]; simpa using hz
    obtain ⟨u, hu⟩ : ∃ u : Nat, v = u + 1 := ⟨v - 1, by omega⟩
    obtain rfl : z = -((u : Int) + 1) := by omega
    subst hu
    have e1 : IntKind.i64.wrap (-((u : Int) + 1) + 1) = -(u : Int) := by rw [IntKind.wrap_i64]; omega
    have e2 : wrap64 (u : Int) = u := by unfold wrap64; omega
    have e3 : IntKind.u64.wrap (u : Int) = u := by rw [IntKind.wrap_u64]; omega
    have e4 : IntKind.u64.wrap ((u : Int) + 1) = ((u + 1 : Nat) : Int) := by rw [IntKind.wrap_u64]; omega
    clear hs hv h0
    obtain ⟨⟨p0, p1, p2⟩, p3, p4, p5⟩ := boxD X1
    go_enter Try.func13, Try.ntmps13
    go_wp2_with fail
    try clear hw
    clear p0 p1 p2 p3 p4 p5 e1 e2 e3 e4
    refine (rOf1_any w1 (u + 1) hv64).mono ?_
    rintro e w2 ⟨A, n, c, rfl, hc, hB, hI⟩
    have l2 := hB.size
    replace X1 := (hB.block _ l1).trans X1
    replace hb := hb.trans (hB.mono (by omega))
    clear hB
    obtain ⟨⟨p0, p1, p2⟩, p3, p4, p5⟩ := boxD X1
    go_wp2
    clear p0 p1 p2 p3 p4 p5
    have X5 := box_put X1 (.bool true) (.slice A n c) (.int .i64 0)
    have b5 := below_put hb (g := w.heap.size) (Nat.le_refl _) (.bool true) (.slice A n c) (.int .i64 0)
    have I5 := ints_put hI (g := w.heap.size) (.inl (by omega)) (.bool true) (.slice A n c) (.int .i64 0)
    have s5 := size_put (w := w2) (g := w.heap.size) (.bool true) (.slice A n c) (.int .i64 0)
    obtain ⟨⟨q0, q1, q2⟩, q3, q4, q5⟩ := boxD X5
    exact bodyPost_ret (v := .agg #[.bool true, .slice A n c, .int .i64 0]) (by simp [results, Try.results13, go_sem, q0, q1, q2]) rfl ⟨A, n, c, rfl, hc, b5, I5.more (by omega) (by omega)⟩
  · obtain rfl : s = false := by rw [← hs]; simpa using hz
    obtain rfl : z = (v : Int) := by omega
    clear hs hv h0
    obtain ⟨⟨p0, p1, p2⟩, p3, p4, p5⟩ := boxD X1
    go_enter Try.func13, Try.ntmps13
    go_wp2_with fail
    try clear hw
    clear p0 p1 p2 p3 p4 p5
    refine (rOf1_any w1 v hv64).mono ?_
    rintro e w2 ⟨A, n, c, rfl, hc, hB, hI⟩
    have l2 := hB.size
    replace X1 := (hB.block _ l1).trans X1
    replace hb := hb.trans (hB.mono (by omega))
    clear hB
    obtain ⟨⟨p0, p1, p2⟩, p3, p4, p5⟩ := boxD X1
    go_wp2
    clear p0 p1 p2 p3 p4 p5
    have X5 := box_put X1 (.bool false) (.slice A n c) (.int .i64 0)
    have b5 := below_put hb (g := w.heap.size) (Nat.le_refl _) (.bool false) (.slice A n c) (.int .i64 0)
    have I5 := ints_put hI (g := w.heap.size) (.inl (by omega)) (.bool false) (.slice A n c) (.int .i64 0)
    have s5 := size_put (w := w2) (g := w.heap.size) (.bool false) (.slice A n c) (.int .i64 0)
    obtain ⟨⟨q0, q1, q2⟩, q3, q4, q5⟩ := boxD X5
    exact bodyPost_ret (v := .agg #[.bool false, .slice A n c, .int .i64 0]) (by simp [results, Try.results13, go_sem, q0, q1, q2]) rfl ⟨A, n, c, rfl, hc, b5, I5.more (by omega) (by omega)⟩
end Dy
end Go.Proofs.Ytlbkepiflhchdaa
namespace Go.Proofs.Ytlbkepiflhchdaa
open Go.RowKit
namespace Dy
open Dp
set_option maxHeartbeats 25600000 in
set_option maxRecDepth 100000 in
theorem tells02_walk (w : World) (s1 : Bool) (A1 : Option Addr) (n1 c1 : Nat) (xs1 : List Int) (e1 : Int) (h1 : Ints w 0 w.heap.size .u32 A1 n1 xs1) (s2 : Bool) (A2 : Option Addr) (n2 c2 : Nat) (xs2 : List Int) (e2 : Int) (h2 : Ints w 0 w.heap.size .u32 A2 n2 xs2) (z : Int) (z0 : -9223372036854775808 ≤ z) (z1 : z ≤ 9223372036854775807) :
    Calls Try.prog 3 #[.agg #[.bool s1, .slice A1 n1 c1, .int .i64 e1], .agg #[.bool s2, .slice A2 n2 c2, .int .i64 e2], .int .i64 z] w (Yes w) := by
  have L1 := Lib.hid h1.len
  have L2 := Lib.hid h2.len
  obtain ⟨y, ky, hy⟩ : ∃ r k, cmpX s1 xs1 e1 s2 xs2 e2 = (r, k) := ⟨_, _, rfl⟩
  obtain ⟨kc, hc⟩ : ∃ k, chkX s1 xs1 e1 = k := ⟨_, rfl⟩
  obtain ⟨sz, hs⟩ : ∃ s, decide (z < 0) = s := ⟨_, rfl⟩
  obtain ⟨vz, hv⟩ : ∃ v, z.natAbs = v := ⟨_, rfl⟩
  obtain ⟨q, hq⟩ : ∃ q, Pa.Dy.same ⟨s1, xs1, e1⟩ ⟨s2, xs2, e2⟩ = q := ⟨_, rfl⟩
  have HY := Lib.hid hy
  have HC := Lib.hid hc
  have HS := Lib.hid hs
  have HV := Lib.hid hv
  have HQ := Lib.hid hq
  clear hy hc hs hv hq
  generalize hw : (w.alloc (.cells #[.bool s1, .slice A1 n1 c1, .int .i64 e1] 24)).alloc (.cells #[.bool s2, .slice A2 n2 c2, .int .i64 e2] 24) = w1 at *
  obtain ⟨D1, D2, b1, l1, l2⟩ := boxes2 w _ _ hw
  replace h1 := h1.below b1 (Nat.le_refl _)
  replace h2 := h2.below b1 (Nat.le_refl _)
  go_enter Try.func3, Try.ntmps3
  obtain ⟨⟨pD1, qD1, rD1⟩, uD1, vD1, xD1⟩ := boxD D1
  go_wp2_with fail
  obtain ⟨gr1, hgr1⟩ : ∃ gr, Pa.Dy.great ⟨s1, xs1, e1⟩ = gr := ⟨_, rfl⟩
  try clear hw
  refine (Pa.rGreat_any w1 s1 A1 n1 c1 xs1 e1 L1.out gr1 hgr1).mono ?_
  rintro e' w2 ⟨rfl, hB⟩
  clear pD1 qD1 rD1 uD1 vD1 xD1
  have lw2 : w1.heap.size ≤ w2.heap.size := hB.size
  replace h1 := h1.below hB (by omega)
  replace h2 := h2.below hB (by omega)
  replace D1 := (hB.block _ (by omega)).trans D1
  replace D2 := (hB.block _ (by omega)).trans D2
  have c3 := b1.trans (hB.mono (by omega))
  clear hB
  have q1 := great_len L1.out hgr1
  clear hgr1
  cases gr1
  rotate_left
  · go_wp2
    go_ret
    exact ⟨rfl, c3⟩
  obtain ⟨⟨pD2, qD2, rD2⟩, uD2, vD2, xD2⟩ := boxD D2
  go_wp2_with fail
  obtain ⟨gr2, hgr2⟩ : ∃ gr, Pa.Dy.great ⟨s2, xs2, e2⟩ = gr := ⟨_, rfl⟩
  refine (Pa.rGreat_any w2 s2 A2 n2 c2 xs2 e2 L2.out gr2 hgr2).mono ?_
  rintro e' w4 ⟨rfl, hB⟩
  clear pD2 qD2 rD2 uD2 vD2 xD2
  have lw4 : w2.heap.size ≤ w4.heap.size := hB.size
  replace h1 := h1.below hB (by omega)
  replace h2 := h2.below hB (by omega)
  replace D1 := (hB.block _ (by omega)).trans D1
  replace D2 := (hB.block _ (by omega)).trans D2
  have c5 := c3.trans (hB.mono (by omega))
  clear hB
  have q2 := great_len L2.out hgr2
  clear hgr2
  cases gr2
  rotate_left
  · go_wp2
    go_ret
    exact ⟨rfl, c5⟩
  replace q1 : n1 ≤ 42 := by simpa using q1
  replace q2 : n2 ≤ 42 := by simpa using q2
  obtain ⟨⟨pD1, qD1, rD1⟩, uD1, vD1, xD1⟩ := boxD D1
  go_wp2_with fail
  refine (Pa.rTwin_any w4 s1 A1 n1 c1 xs1 e1 (h1.more (Nat.zero_le _) (by omega)) (by omega)).mono ?_
  rintro e' w6 ⟨T1, m1, rfl, lm1, hB, lt1, IT1⟩
  clear pD1 qD1 rD1 uD1 vD1 xD1
  have lw6 : w4.heap.size ≤ w6.heap.size := hB.size
  replace h1 := h1.below hB (by omega)
  replace h2 := h2.below hB (by omega)
  replace D1 := (hB.block _ (by omega)).trans D1
  replace D2 := (hB.block _ (by omega)).trans D2
  have c7 := c5.trans (hB.mono (by omega))
  clear hB
  have hB := (Below.refl w6.heap.size w6).alloc (Nat.le_refl _) (.cells #[.bool s1, .slice T1 n1 m1, .int .i64 e1] 24)
  have D7 := heap_alloc_last w6 (.cells #[.bool s1, .slice T1 n1 m1, .int .i64 e1] 24)
  have mw8 : w6.heap.size < (w6.alloc (.cells #[.bool s1, .slice T1 n1 m1, .int .i64 e1] 24)).heap.size := by simp
  generalize hw : w6.alloc (.cells #[.bool s1, .slice T1 n1 m1, .int .i64 e1] 24) = w8 at *
  have lw8 : w6.heap.size ≤ w8.heap.size := hB.size
  replace h1 := h1.below hB (by omega)
  replace h2 := h2.below hB (by omega)
  replace IT1 := IT1.below hB (by omega)
  replace D1 := (hB.block _ (by omega)).trans D1
  replace D2 := (hB.block _ (by omega)).trans D2
  have c9 := c7.trans (hB.mono (by omega))
  clear hB
  obtain ⟨⟨pD7, qD7, rD7⟩, uD7, vD7, xD7⟩ := boxD D7
  obtain ⟨⟨pD2, qD2, rD2⟩, uD2, vD2, xD2⟩ := boxD D2
  go_wp2_with fail
  try clear hw
  refine (Cmp_allP w8 s1 s2 T1 A2 n1 m1 n2 c2 xs1 xs2 e1 e2 (IT1.more (Nat.zero_le _) (by omega)) (h2.more (Nat.zero_le _) (by omega)) y ky HY.out).mono ?_
  rintro e' w10 ⟨rfl, hB⟩
  clear pD7 qD7 rD7 uD7 vD7 xD7 pD2 qD2 rD2 uD2 vD2 xD2
  have lw10 : w8.heap.size ≤ w10.heap.size := hB.size
  replace h1 := h1.below hB (by omega)
  replace h2 := h2.below hB (by omega)
  replace IT1 := IT1.below hB (by omega)
  replace D1 := (hB.block _ (by omega)).trans D1
  replace D2 := (hB.block _ (by omega)).trans D2
  replace D7 := (hB.block _ (by omega)).trans D7
  have c11 := c9.trans (hB.mono (by omega))
  clear hB
  obtain ⟨⟨pD1, qD1, rD1⟩, uD1, vD1, xD1⟩ := boxD D1
  obtain ⟨⟨pD2, qD2, rD2⟩, uD2, vD2, xD2⟩ := boxD D2
  go_wp2_with fail
  refine (rCmp_all w10 s1 s2 A1 A2 n1 c1 n2 c2 xs1 xs2 e1 e2 (h1.more (Nat.zero_le _) (by omega)) (h2.more (Nat.zero_le _) (by omega)) y ky HY.out).mono ?_
  rintro e' w12 ⟨rfl, hB⟩
  clear pD1 qD1 rD1 uD1 vD1 xD1 pD2 qD2 rD2 uD2 vD2 xD2
  have lw12 : w10.heap.size ≤ w12.heap.size := hB.size
  replace h1 := h1.below hB (by omega)
  replace h2 := h2.below hB (by omega)
  replace IT1 := IT1.below hB (by omega)
  replace D1 := (hB.block _ (by omega)).trans D1
  replace D2 := (hB.block _ (by omega)).trans D2
  replace D7 := (hB.block _ (by omega)).trans D7
  have c13 := c11.trans (hB.mono (by omega))
  clear hB
  obtain ⟨⟨pD7, qD7, rD7⟩, uD7, vD7, xD7⟩ := boxD D7
  go_wp2_with fail
  refine (Pa.dyadTwin_any w12 s1 T1 n1 m1 xs1 e1 (IT1.more (Nat.zero_le _) (by omega)) (by omega)).mono ?_
  rintro e' w14 ⟨T2, m2, rfl, lm2, hB, lt2, IT2⟩
  clear pD7 qD7 rD7 uD7 vD7 xD7
  have lw14 : w12.heap.size ≤ w14.heap.size := hB.size
  replace h1 := h1.below hB (by omega)
  replace h2 := h2.below hB (by omega)
  replace IT1 := IT1.below hB (by omega)
  replace D1 := (hB.block _ (by omega)).trans D1
  replace D2 := (hB.block _ (by omega)).trans D2
  replace D7 := (hB.block _ (by omega)).trans D7
  have c15 := c13.trans (hB.mono (by omega))
  clear hB
  have hB := (Below.refl w14.heap.size w14).alloc (Nat.le_refl _) (.cells #[.bool s1, .slice T2 n1 m2, .int .i64 e1] 24)
  have D12 := heap_alloc_last w14 (.cells #[.bool s1, .slice T2 n1 m2, .int .i64 e1] 24)
  have mw16 : w14.heap.size < (w14.alloc (.cells #[.bool s1, .slice T2 n1 m2, .int .i64 e1] 24)).heap.size := by simp
  generalize hw : w14.alloc (.cells #[.bool s1, .slice T2 n1 m2, .int .i64 e1] 24) = w16 at *
  have lw16 : w14.heap.size ≤ w16.heap.size := hB.size
  replace h1 := h1.below hB (by omega)
  replace h2 := h2.below hB (by omega)
  replace IT1 := IT1.below hB (by omega)
  replace IT2 := IT2.below hB (by omega)
  replace D1 := (hB.block _ (by omega)).trans D1
  replace D2 := (hB.block _ (by omega)).trans D2
  replace D7 := (hB.block _ (by omega)).trans D7
  have c17 := c15.trans (hB.mono (by omega))
  clear hB
  go_upto_region 7 with fail
  try clear hw
  go_cut [13] from 36 to 76 (fun s13 wx => s13 = .bool true ∧ Below w16.heap.size w16 wx)
  case first =>
    have ek : ((kc : Int) == kc) = true := by simp
    have ey : ((y : Int) == y) = true := by simp
    have eky : ((ky : Int) == ky) = true := by simp
    have eq_ : (q == q) = true := by simp
    have hBz : Below w16.heap.size w16 w16 := Below.refl _ _
    have kD : Keeps w16 w16.drew := fun _ _ => rfl
    have hB : Below w16.heap.size w16 w16.drew := (Below.refl _ _).drew
    refine region_E (Keeps w16) [] (m := 42) (L := #[false, false, false, false, false, false, false, false, false, false, false, false, false, false, false, false, false, false, false, false, false, false, false, false, false, false, false, false, false, false, false, false, false, false, false, false, false, false, false, false, false, false]) (by kernel_rfl) (by rfl) (by rfl) ?_
    generalize w16.drew = w18 at *
    have lw18 : w16.heap.size ≤ w18.heap.size := hB.size
    have sv_D1 := D1
    have sv_D2 := D2
    have sv_D7 := D7
    have sv_D12 := D12
    replace h1 := h1.below hB (by omega)
    replace h2 := h2.below hB (by omega)
    replace IT1 := IT1.below hB (by omega)
    replace IT2 := IT2.below hB (by omega)
    replace D1 := (hB.block _ (by omega)).trans D1
    replace D2 := (hB.block _ (by omega)).trans D2
    replace D7 := (hB.block _ (by omega)).trans D7
    replace D12 := (hB.block _ (by omega)).trans D12
    have hB0 := hB
    clear hB
    refine readE (i := 0) (L := #[true, false, false, false, false, false, false, false, false, false, false, false, false, false, false, false, false, false, false, false, false, false, false, false, false, false, false, false, false, false, false, false, false, false, false, false, false, false, false, false, false, false]) (v := .agg #[.bool s1, .slice T1 n1 m1, .int .i64 e1]) rfl (by rfl) (by kernel_rfl) (by kernel_rfl) (by kernel_rfl) (fun _ _ _ h => h) (by assumption) (by rfl) ?hy0_1 ?rest0_1
    case hy0_1 =>
      intro w' h1
      obtain ⟨⟨k1, k2, k3⟩, _⟩ := boxD ((h1 _ (by omega)).trans sv_D7)
      go_simp
    try simp only [Act.put, List.setIfInBounds_toArray, List.set_cons_zero, List.set_cons_succ]
    refine readE (i := 2) (L := #[true, false, true, false, false, false, false, false, false, false, false, false, false, false, false, false, false, false, false, false, false, false, false, false, false, false, false, false, false, false, false, false, false, false, false, false, false, false, false, false, false, false]) (v := .agg #[.bool s1, .slice A1 n1 c1, .int .i64 e1]) rfl (by rfl) (by kernel_rfl) (by kernel_rfl) (by kernel_rfl) (fun _ _ _ h => h) (by assumption) (by rfl) ?hy2_2 ?rest2_2
    case hy2_2 =>
      intro w' h1
      obtain ⟨⟨k1, k2, k3⟩, _⟩ := boxD ((h1 _ (by omega)).trans sv_D1)
      go_simp
    try simp only [Act.put, List.setIfInBounds_toArray, List.set_cons_zero, List.set_cons_succ]
    refine stepK (i := 1) (L := #[true, true, true, false, false, false, false, false, false, false, false, false, false, false, false, false, false, false, false, false, false, false, false, false, false, false, false, false, false, false, false, false, false, false, false, false, false, false, false, false, false, false]) rfl (by rfl) (by kernel_rfl) (by rfl) (fun K hK => ?_)
    go_simp
    go_at_call 9
    refine (Check_all w18 s1 T1 n1 m1 xs1 e1 (IT1.more (Nat.zero_le _) (by omega)) kc HC.out).mono ?_
    rintro e' w19 ⟨rfl, hB⟩
    have lw19 : w18.heap.size ≤ w19.heap.size := hB.size
    replace h1 := h1.below hB (by omega)
    replace h2 := h2.below hB (by omega)
    replace IT1 := IT1.below hB (by omega)
    replace IT2 := IT2.below hB (by omega)
    replace D1 := (hB.block _ (by omega)).trans D1
    replace D2 := (hB.block _ (by omega)).trans D2
    replace D7 := (hB.block _ (by omega)).trans D7
    replace D12 := (hB.block _ (by omega)).trans D12
    have c20 := hB0.trans (hB.mono (by omega))
    clear hB
    refine hK _ _ ⟨fun _ _ p hp => c20.block p hp, ?_⟩
    clear hK K
    try simp only [Act.put, List.setIfInBounds_toArray, List.set_cons_zero, List.set_cons_succ]
    refine stepK (i := 3) (L := #[true, true, true, true, false, false, false, false, false, false, false, false, false, false, false, false, false, false, false, false, false, false, false, false, false, false, false, false, false, false, false, false, false, false, false, false, false, false, false, false, false, false]) rfl (by rfl) (by kernel_rfl) (by rfl) (fun K hK => ?_)
    go_simp
    go_at_call 10
    refine (rCheck_all w19 s1 A1 n1 c1 xs1 e1 (h1.more (Nat.zero_le _) (by omega)) kc HC.out).mono ?_
    rintro e' w21 ⟨rfl, hB⟩
    have lw21 : w19.heap.size ≤ w21.heap.size := hB.size
    replace h1 := h1.below hB (by omega)
    replace h2 := h2.below hB (by omega)
    replace IT1 := IT1.below hB (by omega)
    replace IT2 := IT2.below hB (by omega)
    replace D1 := (hB.block _ (by omega)).trans D1
    replace D2 := (hB.block _ (by omega)).trans D2
    replace D7 := (hB.block _ (by omega)).trans D7
    replace D12 := (hB.block _ (by omega)).trans D12
    have c22 := c20.trans (hB.mono (by omega))
    clear hB
    refine hK _ _ ⟨fun _ _ p hp => c22.block p hp, ?_⟩
    clear hK K
    try simp only [Act.put, List.setIfInBounds_toArray, List.set_cons_zero, List.set_cons_succ]
    refine pureE (i := 4) (L := #[true, true, true, true, true, false, false, false, false, false, false, false, false, false, false, false, false, false, false, false, false, false, false, false, false, false, false, false, false, false, false, false, false, false, false, false, false, false, false, false, false, false]) (v := ?_) rfl (by rfl) (by kernel_rfl) (by kernel_rfl) (by kernel_rfl) (fun _ _ _ h => h) (by rfl) ?hy5 ?rest5
    case hy5 => intro w; go_simp; (try with_reducible rfl)
    try simp only [Act.put, List.setIfInBounds_toArray, List.set_cons_zero, List.set_cons_succ]
    refine pureE (i := 5) (L := #[true, true, true, true, true, true, false, false, false, false, false, false, false, false, false, false, false, false, false, false, false, false, false, false, false, false, false, false, false, false, false, false, false, false, false, false, false, false, false, false, false, false]) (v := ?_) rfl (by rfl) (by kernel_rfl) (by kernel_rfl) (by kernel_rfl) (fun _ _ _ h => h) (by rfl) ?hy6 ?rest6
    case hy6 => intro w; go_simp; (try with_reducible rfl)
    try simp only [Act.put, List.setIfInBounds_toArray, List.set_cons_zero, List.set_cons_succ]
    refine pureE (i := 6) (L := #[true, true, true, true, true, true, true, false, false, false, false, false, false, false, false, false, false, false, false, false, false, false, false, false, false, false, false, false, false, false, false, false, false, false, false, false, false, false, false, false, false, false]) (v := ?_) rfl (by rfl) (by kernel_rfl) (by kernel_rfl) (by kernel_rfl) (fun _ _ _ h => h) (by rfl) ?hy7 ?rest7
    case hy7 => intro w; go_simp; (try with_reducible rfl)
    try simp only [Act.put, List.setIfInBounds_toArray, List.set_cons_zero, List.set_cons_succ]
    refine pureE (i := 8) (L := #[true, true, true, true, true, true, true, false, true, false, false, false, false, false, false, false, false, false, false, false, false, false, false, false, false, false, false, false, false, false, false, false, false, false, false, false, false, false, false, false, false, false]) (v := ?_) rfl (by rfl) (by kernel_rfl) (by kernel_rfl) (by kernel_rfl) (fun _ _ _ h => h) (by rfl) ?hy8 ?rest8
    case hy8 => intro w; go_simp; (try with_reducible rfl)
    try simp only [Act.put, List.setIfInBounds_toArray, List.set_cons_zero, List.set_cons_succ]
    refine stepK (i := 7) (L := #[true, true, true, true, true, true, true, true, true, false, false, false, false, false, false, false, false, false, false, false, false, false, false, false, false, false, false, false, false, false, false, false, false, false, false, false, false, false, false, false, false, false]) rfl (by rfl) (by kernel_rfl) (by rfl) (fun K hK => ?_)
    go_simp
    go_at_call 12
    refine (Of_any w21 z z0 z1 sz vz HS.out HV.out).mono ?_
    rintro e' w23 ⟨O1, on1, rfl, hB, IO1⟩
    have lw23 : w21.heap.size ≤ w23.heap.size := hB.size
    replace h1 := h1.below hB (by omega)
    replace h2 := h2.below hB (by omega)
    replace IT1 := IT1.below hB (by omega)
    replace IT2 := IT2.below hB (by omega)
    replace D1 := (hB.block _ (by omega)).trans D1
    replace D2 := (hB.block _ (by omega)).trans D2
    replace D7 := (hB.block _ (by omega)).trans D7
    replace D12 := (hB.block _ (by omega)).trans D12
    have c24 := c22.trans (hB.mono (by omega))
    clear hB
    refine hK _ _ ⟨fun _ _ p hp => c24.block p hp, ?_⟩
    clear hK K
    try simp only [Act.put, List.setIfInBounds_toArray, List.set_cons_zero, List.set_cons_succ]
    refine stepK (i := 9) (L := #[true, true, true, true, true, true, true, true, true, true, false, false, false, false, false, false, false, false, false, false, false, false, false, false, false, false, false, false, false, false, false, false, false, false, false, false, false, false, false, false, false, false]) rfl (by rfl) (by kernel_rfl) (by rfl) (fun K hK => ?_)
    go_simp
    go_at_call 13
    refine (rOf_any w23 z z0 z1 sz vz HS.out HV.out).mono ?_
    rintro e' w25 ⟨O2, on2, oc2, rfl, lo2, hB, IO2⟩
    have lw25 : w23.heap.size ≤ w25.heap.size := hB.size
    replace h1 := h1.below hB (by omega)
    replace h2 := h2.below hB (by omega)
    replace IT1 := IT1.below hB (by omega)
    replace IT2 := IT2.below hB (by omega)
    replace IO1 := IO1.below hB (by omega)
    replace D1 := (hB.block _ (by omega)).trans D1
    replace D2 := (hB.block _ (by omega)).trans D2
    replace D7 := (hB.block _ (by omega)).trans D7
    replace D12 := (hB.block _ (by omega)).trans D12
    have c26 := c24.trans (hB.mono (by omega))
    clear hB
    refine hK _ _ ⟨fun _ _ p hp => c26.block p hp, ?_⟩
    clear hK K
    try simp only [Act.put, List.setIfInBounds_toArray, List.set_cons_zero, List.set_cons_succ]
    refine stepK (i := 10) (L := #[true, true, true, true, true, true, true, true, true, true, true, false, false, false, false, false, false, false, false, false, false, false, false, false, false, false, false, false, false, false, false, false, false, false, false, false, false, false, false, false, false, false]) rfl (by rfl) (by kernel_rfl) (by rfl) (fun K hK => ?_)
    go_simp
    go_at_call 11
    refine (Pa.rSame_any w25 _ _ _ _ _ _ _ _ _ _ _ _ (IO1.more (Nat.zero_le _) (by omega)) (IO2.more (Nat.zero_le _) (by omega)) true (Pa.Dy.same_refl _)).mono ?_
    rintro e' w27 ⟨rfl, hB⟩
    have lw27 : w25.heap.size ≤ w27.heap.size := hB.size
    replace h1 := h1.below hB (by omega)
    replace h2 := h2.below hB (by omega)
    replace IT1 := IT1.below hB (by omega)
    replace IT2 := IT2.below hB (by omega)
    replace IO1 := IO1.below hB (by omega)
    replace IO2 := IO2.below hB (by omega)
    replace D1 := (hB.block _ (by omega)).trans D1
    replace D2 := (hB.block _ (by omega)).trans D2
    replace D7 := (hB.block _ (by omega)).trans D7
    replace D12 := (hB.block _ (by omega)).trans D12
    have c28 := c26.trans (hB.mono (by omega))
    clear hB
    refine hK _ _ ⟨fun _ _ p hp => c28.block p hp, ?_⟩
    clear hK K
    try simp only [Act.put, List.setIfInBounds_toArray, List.set_cons_zero, List.set_cons_succ]
    refine pureE (i := 11) (L := #[true, true, true, true, true, true, true, true, true, true, true, true, false, false, false, false, false, false, false, false, false, false, false, false, false, false, false, false, false, false, false, false, false, false, false, false, false, false, false, false, false, false]) (v := ?_) rfl (by rfl) (by kernel_rfl) (by kernel_rfl) (by kernel_rfl) (fun _ _ _ h => h) (by rfl) ?hy12 ?rest12
    case hy12 => intro w; go_simp; (try with_reducible rfl)
    try simp only [Act.put, List.setIfInBounds_toArray, List.set_cons_zero, List.set_cons_succ]
    refine pureE (i := 12) (L := #[true, true, true, true, true, true, true, true, true, true, true, true, true, false, false, false, false, false, false, false, false, false, false, false, false, false, false, false, false, false, false, false, false, false, false, false, false, false, false, false, false, false]) (v := ?_) rfl (by rfl) (by kernel_rfl) (by kernel_rfl) (by kernel_rfl) (fun _ _ _ h => h) (by rfl) ?hy13 ?rest13
    case hy13 => intro w; go_simp; (try with_reducible rfl)
    try simp only [Act.put, List.setIfInBounds_toArray, List.set_cons_zero, List.set_cons_succ]
    refine pureE (i := 13) (L := #[true, true, true, true, true, true, true, true, true, true, true, true, true, true, false, false, false, false, false, false, false, false, false, false, false, false, false, false, false, false, false, false, false, false, false, false, false, false, false, false, false, false]) (v := ?_) rfl (by rfl) (by kernel_rfl) (by kernel_rfl) (by kernel_rfl) (fun _ _ _ h => h) (by rfl) ?hy14 ?rest14
    case hy14 => intro w; go_simp; (try with_reducible rfl)
    try simp only [Act.put, List.setIfInBounds_toArray, List.set_cons_zero, List.set_cons_succ]
    refine pureE (i := 14) (L := #[true, true, true, true, true, true, true, true, true, true, true, true, true, true, true, false, false, false, false, false, false, false, false, false, false, false, false, false, false, false, false, false, false, false, false, false, false, false, false, false, false, false]) (v := ?_) rfl (by rfl) (by kernel_rfl) (by kernel_rfl) (by kernel_rfl) (fun _ _ _ h => h) (by rfl) ?hy15 ?rest15
    case hy15 => intro w; go_simp; (try with_reducible rfl)
    try simp only [Act.put, List.setIfInBounds_toArray, List.set_cons_zero, List.set_cons_succ]
    refine pureE (i := 15) (L := #[true, true, true, true, true, true, true, true, true, true, true, true, true, true, true, true, false, false, false, false, false, false, false, false, false, false, false, false, false, false, false, false, false, false, false, false, false, false, false, false, false, false]) (v := ?_) rfl (by rfl) (by kernel_rfl) (by kernel_rfl) (by kernel_rfl) (fun _ _ _ h => h) (by rfl) ?hy16 ?rest16
    case hy16 => intro w; go_simp; (try with_reducible rfl)
    try simp only [Act.put, List.setIfInBounds_toArray, List.set_cons_zero, List.set_cons_succ]
    refine pureE (i := 16) (L := #[true, true, true, true, true, true, true, true, true, true, true, true, true, true, true, true, true, false, false, false, false, false, false, false, false, false, false, false, false, false, false, false, false, false, false, false, false, false, false, false, false, false]) (v := ?_) rfl (by rfl) (by kernel_rfl) (by kernel_rfl) (by kernel_rfl) (fun _ _ _ h => h) (by rfl) ?hy17 ?rest17
    case hy17 => intro w; go_simp; (try with_reducible rfl)
    try simp only [Act.put, List.setIfInBounds_toArray, List.set_cons_zero, List.set_cons_succ]
    refine pureE (i := 17) (L := #[true, true, true, true, true, true, true, true, true, true, true, true, true, true, true, true, true, true, false, false, false, false, false, false, false, false, false, false, false, false, false, false, false, false, false, false, false, false, false, false, false, false]) (v := ?_) rfl (by rfl) (by kernel_rfl) (by kernel_rfl) (by kernel_rfl) (fun _ _ _ h => h) (by rfl) ?hy18 ?rest18
    case hy18 => intro w; go_simp; (try with_reducible rfl)
    try simp only [Act.put, List.setIfInBounds_toArray, List.set_cons_zero, List.set_cons_succ]
    refine pureE (i := 18) (L := #[true, true, true, true, true, true, true, true, true, true, true, true, true, true, true, true, true, true, true, false, false, false, false, false, false, false, false, false, false, false, false, false, false, false, false, false, false, false, false, false, false, false]) (v := ?_) rfl (by rfl) (by kernel_rfl) (by kernel_rfl) (by kernel_rfl) (fun _ _ _ h => h) (by rfl) ?hy19 ?rest19
    case hy19 => intro w; go_simp; (try with_reducible rfl)
    try simp only [Act.put, List.setIfInBounds_toArray, List.set_cons_zero, List.set_cons_succ]
    refine pureE (i := 19) (L := #[true, true, true, true, true, true, true, true, true, true, true, true, true, true, true, true, true, true, true, true, false, false, false, false, false, false, false, false, false, false, false, false, false, false, false, false, false, false, false, false, false, false]) (v := ?_) rfl (by rfl) (by kernel_rfl) (by kernel_rfl) (by kernel_rfl) (fun _ _ _ h => h) (by rfl) ?hy20 ?rest20
    case hy20 => intro w; go_simp; (try with_reducible rfl)
    try simp only [Act.put, List.setIfInBounds_toArray, List.set_cons_zero, List.set_cons_succ]
    refine pureE (i := 20) (L := #[true, true, true, true, true, true, true, true, true, true, true, true, true, true, true, true, true, true, true, true, true, false, false, false, false, false, false, false, false, false, false, false, false, false, false, false, false, false, false, false, false, false]) (v := ?_) rfl (by rfl) (by kernel_rfl) (by kernel_rfl) (by kernel_rfl) (fun _ _ _ h => h) (by rfl) ?hy21 ?rest21
    case hy21 => intro w; go_simp; (try with_reducible rfl)
    try simp only [Act.put, List.setIfInBounds_toArray, List.set_cons_zero, List.set_cons_succ]
    refine pureE (i := 21) (L := #[true, true, true, true, true, true, true, true, true, true, true, true, true, true, true, true, true, true, true, true, true, true, false, false, false, false, false, false, false, false, false, false, false, false, false, false, false, false, false, false, false, false]) (v := ?_) rfl (by rfl) (by kernel_rfl) (by kernel_rfl) (by kernel_rfl) (fun _ _ _ h => h) (by rfl) ?hy22 ?rest22
    case hy22 => intro w; go_simp; (try with_reducible rfl)
    try simp only [Act.put, List.setIfInBounds_toArray, List.set_cons_zero, List.set_cons_succ]
    refine pureE (i := 22) (L := #[true, true, true, true, true, true, true, true, true, true, true, true, true, true, true, true, true, true, true, true, true, true, true, false, false, false, false, false, false, false, false, false, false, false, false, false, false, false, false, false, false, false]) (v := ?_) rfl (by rfl) (by kernel_rfl) (by kernel_rfl) (by kernel_rfl) (fun _ _ _ h => h) (by rfl) ?hy23 ?rest23
    case hy23 => intro w; go_simp; (try with_reducible rfl)
    try simp only [Act.put, List.setIfInBounds_toArray, List.set_cons_zero, List.set_cons_succ]
    have kD_23_3 : Keeps w16 w27 := fun p hp => c28.block p hp
    refine readE (i := 23) (L := #[true, true, true, true, true, true, true, true, true, true, true, true, true, true, true, true, true, true, true, true, true, true, true, true, false, false, false, false, false, false, false, false, false, false, false, false, false, false, false, false, false, false]) (v := .agg #[.bool s1, .slice T2 n1 m2, .int .i64 e1]) rfl (by rfl) (by kernel_rfl) (by kernel_rfl) (by kernel_rfl) (fun _ _ _ h => h) (by assumption) (by rfl) ?hy23_3 ?rest23_3
    case hy23_3 =>
      intro w' h1
      obtain ⟨⟨k1, k2, k3⟩, _⟩ := boxD ((h1 _ (by omega)).trans sv_D12)
      go_simp
    try simp only [Act.put, List.setIfInBounds_toArray, List.set_cons_zero, List.set_cons_succ]
    have kD_24_4 : Keeps w16 w27 := fun p hp => c28.block p hp
    refine readE (i := 24) (L := #[true, true, true, true, true, true, true, true, true, true, true, true, true, true, true, true, true, true, true, true, true, true, true, true, true, false, false, false, false, false, false, false, false, false, false, false, false, false, false, false, false, false]) (v := .agg #[.bool s1, .slice A1 n1 c1, .int .i64 e1]) rfl (by rfl) (by kernel_rfl) (by kernel_rfl) (by kernel_rfl) (fun _ _ _ h => h) (by assumption) (by rfl) ?hy24_4 ?rest24_4
    case hy24_4 =>
      intro w' h1
      obtain ⟨⟨k1, k2, k3⟩, _⟩ := boxD ((h1 _ (by omega)).trans sv_D1)
      go_simp
    try simp only [Act.put, List.setIfInBounds_toArray, List.set_cons_zero, List.set_cons_succ]
    refine stepK (i := 25) (L := #[true, true, true, true, true, true, true, true, true, true, true, true, true, true, true, true, true, true, true, true, true, true, true, true, true, true, false, false, false, false, false, false, false, false, false, false, false, false, false, false, false, false]) rfl (by rfl) (by kernel_rfl) (by rfl) (fun K hK => ?_)
    go_simp
    go_at_call 11
    refine (Pa.rSame_any w27 _ _ _ _ _ _ _ _ _ _ _ _ (IT2.more (Nat.zero_le _) (by omega)) (h1.more (Nat.zero_le _) (by omega)) true (Pa.Dy.same_refl _)).mono ?_
    rintro e' w29 ⟨rfl, hB⟩
    have lw29 : w27.heap.size ≤ w29.heap.size := hB.size
    replace h1 := h1.below hB (by omega)
    replace h2 := h2.below hB (by omega)
    replace IT1 := IT1.below hB (by omega)
    replace IT2 := IT2.below hB (by omega)
    replace IO1 := IO1.below hB (by omega)
    replace IO2 := IO2.below hB (by omega)
    replace D1 := (hB.block _ (by omega)).trans D1
    replace D2 := (hB.block _ (by omega)).trans D2
    replace D7 := (hB.block _ (by omega)).trans D7
    replace D12 := (hB.block _ (by omega)).trans D12
    have c30 := c28.trans (hB.mono (by omega))
    clear hB
    refine hK _ _ ⟨fun _ _ p hp => c30.block p hp, ?_⟩
    clear hK K
    try simp only [Act.put, List.setIfInBounds_toArray, List.set_cons_zero, List.set_cons_succ]
    refine pureE (i := 26) (L := #[true, true, true, true, true, true, true, true, true, true, true, true, true, true, true, true, true, true, true, true, true, true, true, true, true, true, true, false, false, false, false, false, false, false, false, false, false, false, false, false, false, false]) (v := ?_) rfl (by rfl) (by kernel_rfl) (by kernel_rfl) (by kernel_rfl) (fun _ _ _ h => h) (by rfl) ?hy27 ?rest27
    case hy27 => intro w; go_simp; (try with_reducible rfl)
    try simp only [Act.put, List.setIfInBounds_toArray, List.set_cons_zero, List.set_cons_succ]
    refine pureE (i := 27) (L := #[true, true, true, true, true, true, true, true, true, true, true, true, true, true, true, true, true, true, true, true, true, true, true, true, true, true, true, true, false, false, false, false, false, false, false, false, false, false, false, false, false, false]) (v := ?_) rfl (by rfl) (by kernel_rfl) (by kernel_rfl) (by kernel_rfl) (fun _ _ _ h => h) (by rfl) ?hy28 ?rest28
    case hy28 => intro w; go_simp; (try with_reducible rfl)
    try simp only [Act.put, List.setIfInBounds_toArray, List.set_cons_zero, List.set_cons_succ]
    have kD_28_5 : Keeps w16 w29 := fun p hp => c30.block p hp
    refine readE (i := 28) (L := #[true, true, true, true, true, true, true, true, true, true, true, true, true, true, true, true, true, true, true, true, true, true, true, true, true, true, true, true, true, false, false, false, false, false, false, false, false, false, false, false, false, false]) (v := .agg #[.bool s1, .slice T1 n1 m1, .int .i64 e1]) rfl (by rfl) (by kernel_rfl) (by kernel_rfl) (by kernel_rfl) (fun _ _ _ h => h) (by assumption) (by rfl) ?hy28_5 ?rest28_5
    case hy28_5 =>
      intro w' h1
      obtain ⟨⟨k1, k2, k3⟩, _⟩ := boxD ((h1 _ (by omega)).trans sv_D7)
      go_simp
    try simp only [Act.put, List.setIfInBounds_toArray, List.set_cons_zero, List.set_cons_succ]
    have kD_29_6 : Keeps w16 w29 := fun p hp => c30.block p hp
    refine readE (i := 29) (L := #[true, true, true, true, true, true, true, true, true, true, true, true, true, true, true, true, true, true, true, true, true, true, true, true, true, true, true, true, true, true, false, false, false, false, false, false, false, false, false, false, false, false]) (v := .agg #[.bool s2, .slice A2 n2 c2, .int .i64 e2]) rfl (by rfl) (by kernel_rfl) (by kernel_rfl) (by kernel_rfl) (fun _ _ _ h => h) (by assumption) (by rfl) ?hy29_6 ?rest29_6
    case hy29_6 =>
      intro w' h1
      obtain ⟨⟨k1, k2, k3⟩, _⟩ := boxD ((h1 _ (by omega)).trans sv_D2)
      go_simp
    try simp only [Act.put, List.setIfInBounds_toArray, List.set_cons_zero, List.set_cons_succ]
    have kD_31_7 : Keeps w16 w29 := fun p hp => c30.block p hp
    refine readE (i := 31) (L := #[true, true, true, true, true, true, true, true, true, true, true, true, true, true, true, true, true, true, true, true, true, true, true, true, true, true, true, true, true, true, false, true, false, false, false, false, false, false, false, false, false, false]) (v := .agg #[.bool s1, .slice A1 n1 c1, .int .i64 e1]) rfl (by rfl) (by kernel_rfl) (by kernel_rfl) (by kernel_rfl) (fun _ _ _ h => h) (by assumption) (by rfl) ?hy31_7 ?rest31_7
    case hy31_7 =>
      intro w' h1
      obtain ⟨⟨k1, k2, k3⟩, _⟩ := boxD ((h1 _ (by omega)).trans sv_D1)
      go_simp
    try simp only [Act.put, List.setIfInBounds_toArray, List.set_cons_zero, List.set_cons_succ]
    have kD_32_8 : Keeps w16 w29 := fun p hp => c30.block p hp
    refine readE (i := 32) (L := #[true, true, true, true, true, true, true, true, true, true, true, true, true, true, true, true, true, true, true, true, true, true, true, true, true, true, true, true, true, true, false, true, true, false, false, false, false, false, false, false, false, false]) (v := .agg #[.bool s2, .slice A2 n2 c2, .int .i64 e2]) rfl (by rfl) (by kernel_rfl) (by kernel_rfl) (by kernel_rfl) (fun _ _ _ h => h) (by assumption) (by rfl) ?hy32_8 ?rest32_8
    case hy32_8 =>
      intro w' h1
      obtain ⟨⟨k1, k2, k3⟩, _⟩ := boxD ((h1 _ (by omega)).trans sv_D2)
      go_simp
    try simp only [Act.put, List.setIfInBounds_toArray, List.set_cons_zero, List.set_cons_succ]
    refine stepK (i := 30) (L := #[true, true, true, true, true, true, true, true, true, true, true, true, true, true, true, true, true, true, true, true, true, true, true, true, true, true, true, true, true, true, true, true, true, false, false, false, false, false, false, false, false, false]) rfl (by rfl) (by kernel_rfl) (by rfl) (fun K hK => ?_)
    go_simp
    go_at_call 14
    refine (Pa.dyadSame_any w29 _ _ _ _ _ _ _ _ _ _ _ _ (IT1.more (Nat.zero_le _) (by omega)) (h2.more (Nat.zero_le _) (by omega)) q HQ.out).mono ?_
    rintro e' w31 ⟨rfl, hB⟩
    have lw31 : w29.heap.size ≤ w31.heap.size := hB.size
    replace h1 := h1.below hB (by omega)
    replace h2 := h2.below hB (by omega)
    replace IT1 := IT1.below hB (by omega)
    replace IT2 := IT2.below hB (by omega)
    replace IO1 := IO1.below hB (by omega)
    replace IO2 := IO2.below hB (by omega)
    replace D1 := (hB.block _ (by omega)).trans D1
    replace D2 := (hB.block _ (by omega)).trans D2
    replace D7 := (hB.block _ (by omega)).trans D7
    replace D12 := (hB.block _ (by omega)).trans D12
    have c32 := c30.trans (hB.mono (by omega))
    clear hB
    refine hK _ _ ⟨fun _ _ p hp => c32.block p hp, ?_⟩
    clear hK K
    try simp only [Act.put, List.setIfInBounds_toArray, List.set_cons_zero, List.set_cons_succ]
    refine stepK (i := 33) (L := #[true, true, true, true, true, true, true, true, true, true, true, true, true, true, true, true, true, true, true, true, true, true, true, true, true, true, true, true, true, true, true, true, true, true, false, false, false, false, false, false, false, false]) rfl (by rfl) (by kernel_rfl) (by rfl) (fun K hK => ?_)
    go_simp
    go_at_call 11
    refine (Pa.rSame_any w31 _ _ _ _ _ _ _ _ _ _ _ _ (h1.more (Nat.zero_le _) (by omega)) (h2.more (Nat.zero_le _) (by omega)) q HQ.out).mono ?_
    rintro e' w33 ⟨rfl, hB⟩
    have lw33 : w31.heap.size ≤ w33.heap.size := hB.size
    replace h1 := h1.below hB (by omega)
    replace h2 := h2.below hB (by omega)
    replace IT1 := IT1.below hB (by omega)
    replace IT2 := IT2.below hB (by omega)
    replace IO1 := IO1.below hB (by omega)
    replace IO2 := IO2.below hB (by omega)
    replace D1 := (hB.block _ (by omega)).trans D1
    replace D2 := (hB.block _ (by omega)).trans D2
    replace D7 := (hB.block _ (by omega)).trans D7
    replace D12 := (hB.block _ (by omega)).trans D12
    have c34 := c32.trans (hB.mono (by omega))
    clear hB
    refine hK _ _ ⟨fun _ _ p hp => c34.block p hp, ?_⟩
    clear hK K
    try simp only [Act.put, List.setIfInBounds_toArray, List.set_cons_zero, List.set_cons_succ]
    refine pureE (i := 34) (L := #[true, true, true, true, true, true, true, true, true, true, true, true, true, true, true, true, true, true, true, true, true, true, true, true, true, true, true, true, true, true, true, true, true, true, true, false, false, false, false, false, false, false]) (v := ?_) rfl (by rfl) (by kernel_rfl) (by kernel_rfl) (by kernel_rfl) (fun _ _ _ h => h) (by rfl) ?hy35 ?rest35
    case hy35 => intro w; go_simp; (try with_reducible rfl)
    try simp only [Act.put, List.setIfInBounds_toArray, List.set_cons_zero, List.set_cons_succ]
    refine pureE (i := 35) (L := #[true, true, true, true, true, true, true, true, true, true, true, true, true, true, true, true, true, true, true, true, true, true, true, true, true, true, true, true, true, true, true, true, true, true, true, true, false, false, false, false, false, false]) (v := ?_) rfl (by rfl) (by kernel_rfl) (by kernel_rfl) (by kernel_rfl) (fun _ _ _ h => h) (by rfl) ?hy36 ?rest36
    case hy36 => intro w; go_simp; (try with_reducible rfl)
    try simp only [Act.put, List.setIfInBounds_toArray, List.set_cons_zero, List.set_cons_succ]
    refine pureE (i := 36) (L := #[true, true, true, true, true, true, true, true, true, true, true, true, true, true, true, true, true, true, true, true, true, true, true, true, true, true, true, true, true, true, true, true, true, true, true, true, true, false, false, false, false, false]) (v := ?_) rfl (by rfl) (by kernel_rfl) (by kernel_rfl) (by kernel_rfl) (fun _ _ _ h => h) (by rfl) ?hy37 ?rest37
    case hy37 => intro w; go_simp; (try with_reducible rfl)
    try simp only [Act.put, List.setIfInBounds_toArray, List.set_cons_zero, List.set_cons_succ]
    have kD_37_9 : Keeps w16 w33 := fun p hp => c34.block p hp
    refine readE (i := 37) (L := #[true, true, true, true, true, true, true, true, true, true, true, true, true, true, true, true, true, true, true, true, true, true, true, true, true, true, true, true, true, true, true, true, true, true, true, true, true, true, false, false, false, false]) (v := .agg #[.bool s1, .slice T1 n1 m1, .int .i64 e1]) rfl (by rfl) (by kernel_rfl) (by kernel_rfl) (by kernel_rfl) (fun _ _ _ h => h) (by assumption) (by rfl) ?hy37_9 ?rest37_9
    case hy37_9 =>
      intro w' h1
      obtain ⟨⟨k1, k2, k3⟩, _⟩ := boxD ((h1 _ (by omega)).trans sv_D7)
      go_simp
    try simp only [Act.put, List.setIfInBounds_toArray, List.set_cons_zero, List.set_cons_succ]
    have kD_38_10 : Keeps w16 w33 := fun p hp => c34.block p hp
    refine readE (i := 38) (L := #[true, true, true, true, true, true, true, true, true, true, true, true, true, true, true, true, true, true, true, true, true, true, true, true, true, true, true, true, true, true, true, true, true, true, true, true, true, true, true, false, false, false]) (v := .agg #[.bool s1, .slice A1 n1 c1, .int .i64 e1]) rfl (by rfl) (by kernel_rfl) (by kernel_rfl) (by kernel_rfl) (fun _ _ _ h => h) (by assumption) (by rfl) ?hy38_10 ?rest38_10
    case hy38_10 =>
      intro w' h1
      obtain ⟨⟨k1, k2, k3⟩, _⟩ := boxD ((h1 _ (by omega)).trans sv_D1)
      go_simp
    try simp only [Act.put, List.setIfInBounds_toArray, List.set_cons_zero, List.set_cons_succ]
    refine stepK (i := 39) (L := #[true, true, true, true, true, true, true, true, true, true, true, true, true, true, true, true, true, true, true, true, true, true, true, true, true, true, true, true, true, true, true, true, true, true, true, true, true, true, true, true, false, false]) rfl (by rfl) (by kernel_rfl) (by rfl) (fun K hK => ?_)
    go_simp
    go_at_call 14
    refine (Pa.dyadSame_any w33 _ _ _ _ _ _ _ _ _ _ _ _ (IT1.more (Nat.zero_le _) (by omega)) (h1.more (Nat.zero_le _) (by omega)) true (Pa.Dy.same_refl _)).mono ?_
    rintro e' w35 ⟨rfl, hB⟩
    have lw35 : w33.heap.size ≤ w35.heap.size := hB.size
    replace h1 := h1.below hB (by omega)
    replace h2 := h2.below hB (by omega)
    replace IT1 := IT1.below hB (by omega)
    replace IT2 := IT2.below hB (by omega)
    replace IO1 := IO1.below hB (by omega)
    replace IO2 := IO2.below hB (by omega)
    replace D1 := (hB.block _ (by omega)).trans D1
    replace D2 := (hB.block _ (by omega)).trans D2
    replace D7 := (hB.block _ (by omega)).trans D7
    replace D12 := (hB.block _ (by omega)).trans D12
    have c36 := c34.trans (hB.mono (by omega))
    clear hB
    refine hK _ _ ⟨fun _ _ p hp => c36.block p hp, ?_⟩
    clear hK K
    try simp only [Act.put, List.setIfInBounds_toArray, List.set_cons_zero, List.set_cons_succ]
    refine pureE (i := 40) (L := #[true, true, true, true, true, true, true, true, true, true, true, true, true, true, true, true, true, true, true, true, true, true, true, true, true, true, true, true, true, true, true, true, true, true, true, true, true, true, true, true, true, false]) (v := ?_) rfl (by rfl) (by kernel_rfl) (by kernel_rfl) (by kernel_rfl) (fun _ _ _ h => h) (by rfl) ?hy41 ?rest41
    case hy41 => intro w; go_simp; (try with_reducible rfl)
    try simp only [Act.put, List.setIfInBounds_toArray, List.set_cons_zero, List.set_cons_succ]
    refine pureE (i := 41) (L := #[true, true, true, true, true, true, true, true, true, true, true, true, true, true, true, true, true, true, true, true, true, true, true, true, true, true, true, true, true, true, true, true, true, true, true, true, true, true, true, true, true, true]) (v := ?_) rfl (by rfl) (by kernel_rfl) (by kernel_rfl) (by kernel_rfl) (fun _ _ _ h => h) (by rfl) ?hy42 ?rest42
    case hy42 => intro w; go_simp; (try with_reducible rfl)
    try simp only [Act.put, List.setIfInBounds_toArray, List.set_cons_zero, List.set_cons_succ]
    refine doneE (by kernel_rfl) ?_ _
    go_wp2_with fail
    go_meet
    exact ⟨rfl, c36⟩
  case rest =>
    obtain ⟨rfl, hB⟩ := hcut
    obtain ⟨w99, hwc⟩ : ∃ W : World, W = wc := ⟨_, rfl⟩
    subst hwc
    have lw99 : w16.heap.size ≤ w99.heap.size := hB.size
    replace h1 := h1.below hB (by omega)
    replace h2 := h2.below hB (by omega)
    replace IT1 := IT1.below hB (by omega)
    replace IT2 := IT2.below hB (by omega)
    replace D1 := (hB.block _ (by omega)).trans D1
    replace D2 := (hB.block _ (by omega)).trans D2
    replace D7 := (hB.block _ (by omega)).trans D7
    replace D12 := (hB.block _ (by omega)).trans D12
    have c37 := c17.trans (hB.mono (by omega))
    clear hB
    obtain ⟨⟨pD12, qD12, rD12⟩, uD12, vD12, xD12⟩ := boxD D12
    go_wp2_with fail
    have KJ : Ints w99 w12.heap.size w99.heap.size .u32 T2 n1 xs1 := IT2.more (by omega) (by omega)
    refine (spoilD_any w99 s1 T2 n1 m2 xs1 e1 _ _ KJ (by omega) (by omega) (by omega)).mono ?_
    rintro e' w38 ⟨rfl, hB, hF⟩
    clear pD12 qD12 rD12 uD12 vD12 xD12
    clear KJ IT2 D12
    replace h1 := ints_spoilt h1 hB hF (by omega) (by omega)
    replace IT1 := ints_spoilt IT1 hB hF (by omega) (by omega)
    replace D1 := box_spoilt D1 hB hF (by omega)
    replace D7 := box_spoilt D7 hB hF (by omega)
    have lw38 : w99.heap.size ≤ w38.heap.size := hB.size
    have cz := c37.trans (hB.mono (by omega))
    clear hB hF h2 D2
    obtain ⟨⟨pD7, qD7, rD7⟩, uD7, vD7, xD7⟩ := boxD D7
    obtain ⟨⟨pD1, qD1, rD1⟩, uD1, vD1, xD1⟩ := boxD D1
    go_wp2_with fail
    refine (Pa.rSame_any w38 _ _ _ _ _ _ _ _ _ _ _ _ (IT1.more (Nat.zero_le _) (by omega)) (h1.more (Nat.zero_le _) (by omega)) true (Pa.Dy.same_refl _)).mono ?_
    rintro e' w39 ⟨rfl, hB⟩
    clear pD7 qD7 rD7 uD7 vD7 xD7 pD1 qD1 rD1 uD1 vD1 xD1
    have lw39 : w38.heap.size ≤ w39.heap.size := hB.size
    replace h1 := h1.below hB (by omega)
    replace IT1 := IT1.below hB (by omega)
    replace D1 := (hB.block _ (by omega)).trans D1
    replace D7 := (hB.block _ (by omega)).trans D7
    have c40 := cz.trans (hB.mono (by omega))
    clear hB
    go_wp2
    go_ret
    exact ⟨rfl, c40⟩
theorem i64_rngD {z : Int} (h : (Lit.int .i64 z).wf = true) : -9223372036854775808 ≤ z ∧ z ≤ 9223372036854775807 := by
  simpa [Lit.wf, IntKind.min, IntKind.max, IntKind.signed, IntKind.bits] using h
theorem tells02_row (w : World) (s1 : Bool) (A1 : Option Addr) (n1 c1 : Nat) (xs1 : List Int) (e1 : Int) (h1 : Ints w 0 w.heap.size .u32 A1 n1 xs1) (s2 : Bool) (A2 : Option Addr) (n2 c2 : Nat) (xs2 : List Int) (e2 : Int) (h2 : Ints w 0 w.heap.size .u32 A2 n2 xs2) (z : Int) (hz : (Lit.int .i64 z).wf = true) :
    Calls Try.prog 3 #[.agg #[.bool s1, .slice A1 n1 c1, .int .i64 e1], .agg #[.bool s2, .slice A2 n2 c2, .int .i64 e2], .int .i64 z] w (Yes w) :=
  tells02_walk w s1 A1 n1 c1 xs1 e1 h1 s2 A2 n2 c2 xs2 e2 h2 z (i64_rngD hz).1 (i64_rngD hz).2
end Dy
end Go.Proofs.Ytlbkepiflhchdaa
namespace Go.Proofs.Ytlbkepiflhchdaa
open Go.ChangeShapes Go.WideShapes Go.ChangeAt Go.RowKit
section
variable {H : Type} {enc : TypeId × Value → H} {P : Program} {W W' : World}
theorem trodAll_below (hl : laidOutB P = true) (hb : Below W.heap.size W W') : ∀ (ts : List TypeId) (vs : List Value) (ds : List (DataW H)) (ps : List MemPlace),
    DataW.TrodAll enc P W 0 (fun _ => true) true ts vs ds ps → (∀ t ∈ ts, P.readableRec t = true ∧ t < P.types.size) → (∀ x ∈ ps, x.block < W.heap.size) →
    DataW.TrodAll enc P W' 0 (fun b => decide (b < W.heap.size)) true ts vs ds ps
  | [], vs, ds, ps, h, _, _ => by
    obtain ⟨rfl, rfl, rfl⟩ := trodAll_nil h
    exact rfl
  | t :: ts, vs, ds, ps, h, hr, hlt => by
    obtain ⟨v, vs', d, ds', p, q, rfl, rfl, rfl, h1, h2⟩ := trodAll_cons h
    obtain ⟨r1, r2⟩ := hr t (List.mem_cons_self ..)
    exact ⟨p, q, Below.trod hl r1 r2 h1 hb fun x hx => hlt x (List.mem_append_left _ hx), trodAll_below hl hb ts vs' ds' q h2 (fun t ht => hr t (List.mem_cons_of_mem _ ht)) fun x hx => hlt x (List.mem_append_right _ hx), rfl⟩
/-- A law that answers true and leaves what was there as it was. -/
theorem law_post {f : Func} {s : ChangeSpec} {args : Array Value} {ds gs : List (DataW H)} {before : List MemPlace} (hW : DataW.Whole enc P f.params.toList s.vars false W args.toList ds gs before)
    (hv : s.vars = []) (hl : laidOutB P = true) (hr : f.params.toList.all (fun t => P.readableRec t && decide (t < P.types.size)) = true) {tb : TypeId} (hres : f.resultTypes = #[tb]) (htb : P.underlying tb = some .bool)
    (h1 : (s.fn H (ds ++ gs)).results = [.lit (.bool true)]) (h2 : (s.fn H (ds ++ gs)).args = ds) (h3 : (s.fn H (ds ++ gs)).vars = []) (hb : Below W.heap.size W W') : s.post enc P f false true false false W args (.bool true) W' := by
  have hW' := hW
  obtain ⟨p, q, hA, hV, rfl, hfz, hnd⟩ := hW
  have hr' : ∀ t ∈ f.params.toList, P.readableRec t = true ∧ t < P.types.size := fun t ht => by
    have := List.all_eq_true.1 hr t ht
    simpa using this
  refine ⟨ds, gs, _, [], p, [], hW', ?_, ?_, ?_, hb.frame _, fun h => by cases h⟩
  · rw [h1, hres]
    exact trodAll_mk1 (shut_bool htb true)
  · rw [h2]
    exact trodAll_below hl hb _ _ _ _ hA hr' fun x hx => hW'.lt x (List.mem_append_left _ hx)
  · rw [h3, hv]
    rfl
end
end Go.Proofs.Ytlbkepiflhchdaa
namespace Go.Proofs.Ytlbkepiflhchdaa
open Go.ChangeShapes Go.WideShapes Go.ChangeAt Go.RowKit Go.Joins Go.Deep
section
variable {H : Type} {enc : TypeId × Value → H} {P : Program} {W W' : World}
theorem ints_trod {t e : TypeId} {k : IntKind} {fuel : Nat} {v : Value} {x : DataW H × List MemPlace} (ht : P.underlying t = some (.slice e)) (he : P.underlying e = some (.int k)) (hc : P.cellsOf e = 1)
    (h : DataW.trod enc P W 0 (fun _ => true) true fuel t [v] = some x) (hfz : ∀ b off, MemPlace.cell b off ∈ x.2 → W.frozen? ⟨b, off, none⟩ = false) (hlt : ∀ q ∈ x.2, q.block < W.heap.size) :
    ∃ A n c xs, v = .slice A n c ∧ n ≤ c ∧ Ints W 0 W.heap.size k A n xs := by
  rcases open_ints ht he hc h with ⟨hcs, hx⟩ | ⟨a, len, cap, zs, hcs, _, hl, hm, hz, hx, hcell, hwz⟩
  · injection hcs with hcs
    exact ⟨none, 0, 0, [], hcs, Nat.le_refl _, Ints.nil_ ..⟩
  · injection hcs with hcs
    simp only [if_true] at hz
    refine ⟨some a, len, cap, zs.take len, hcs, hl, by simp; omega, fun y hy => ?_, by unfold maxLen at hm; omega, fun h0 => ?_⟩
    · have := hwz y (List.mem_of_mem_take hy)
      simpa [Lit.wf] using this
    · obtain ⟨b, off, spot⟩ := a
      have hspot : spot = none := by simpa [Addr.add] using World.cell?_spot (hcell 0 (by omega))
      subst hspot
      have hmem : ∀ j, j < len → MemPlace.cell b (off + j) ∈ x.2 := fun j hj => by
        rw [hx]
        exact MemPlace.mem_row.2 ⟨j, by omega, rfl⟩
      refine ⟨b, off, rfl, Nat.zero_le _, hlt _ (hmem 0 h0), fun j hj => ⟨?_, hfz _ _ (hmem j hj)⟩⟩
      have := hcell j (by omega)
      rw [add_plain] at this
      rw [this, List.getElem?_take, if_pos hj]
      simp [List.getD]
/-- A dyad among the arguments. -/
theorem dyad_open {r : Reach} {b0 : Nat} {t e : TypeId} {k0 k1 k2 : Field} {v : Value} {d : DataW H} {p : List MemPlace} (hs : P.underlying t = some (.struct #[k0, k1, k2])) (hone : oneCellFields P #[k0, k1, k2] = true) (hC : P.cellsOf t = 3)
    (v0 : P.underlying k0.type = some .bool) (ht : P.underlying k1.type = some (.slice e)) (he : P.underlying e = some (.int .u32)) (hc : P.cellsOf e = 1) (v2 : P.underlying k2.type = some (.int .i64))
    (hval : Value.okWide P W r b0 t v) (h : DataW.Trod enc P W 0 (fun _ => true) true t v d p) (hfz : ∀ b off, MemPlace.cell b off ∈ p → W.frozen? ⟨b, off, none⟩ = false) (hlt : ∀ q ∈ p, q.block < W.heap.size) :
    ∃ (s : Bool) (A : Option Addr) (n c : Nat) (xs : List Int) (ex : Int), v = .agg #[.bool s, .slice A n c, .int .i64 ex] ∧ n ≤ c ∧ (Lit.int .i64 ex).wf = true ∧ Ints W 0 W.heap.size .u32 A n xs := by
  obtain ⟨w0, w1, w2, y0, y1, y2, m, rfl, _, rfl, h0, h1, h2⟩ := open_agg3 hs hone hC hval h
  obtain ⟨s, e0, _⟩ := DataW.trod_bool v0 h0
  obtain ⟨x, e2, _, z2⟩ := DataW.trod_int v2 h2
  injection e0 with e0
  injection e2 with e2
  obtain ⟨A, n, c, xs, e1, hc', hx⟩ := ints_trod ht he hc h1 (fun b off hm => hfz b off (by simp [hm])) (fun q hq => hlt q (by simp [hq]))
  exact ⟨s, A, n, c, xs, x, by rw [e0, e1, e2], hc', z2, hx⟩
end
end Go.Proofs.Ytlbkepiflhchdaa
