/- Descriptors, and caches, among the arguments; closed facts on this seat's program. -/
import Derived.Test.YtpjomdkcckamkaaRows
import Derived.Test.YtpjomdkcckamkaaFrame
import Derived.Test.YtpjomdkcckamkaaDeBase
import Derived.Deep.SlicePairs
import Derived.Lib.SmallJoins
namespace Go.Proofs.Ytpjomdkcckamkaa
open Go.ChangeShapes Go.WideShapes Go.ChangeAt Go.RowKit Go.Joins Go.Deep
theorem Try.own : ownKnob Try.prog.godebug = none := by kernel_rfl
theorem Try.laidOut : laidOutB Try.prog = true := by kernel_rfl
namespace De
section
variable {H : Type} {enc : TypeId × Value → H} {P : Program} {W W' : World}
theorem i64_rng {z : Int} (h : (Lit.int .i64 z).wf = true) : -9223372036854775808 ≤ z ∧ z ≤ 9223372036854775807 := by
  simpa [Lit.wf, IntKind.min, IntKind.max, IntKind.signed, IntKind.bits] using h
/-- A descriptor among the arguments. -/
theorem desc_open {r : Reach} {b0 : Nat} {t : TypeId} {f0 f1 : Field} {v : Value} {d : DataW H} {p : List MemPlace} (hs : P.underlying t = some (.struct #[f0, f1])) (hone : oneCellFields P #[f0, f1] = true) (hC : P.cellsOf t = 2)
    (u0 : P.underlying f0.type = some (.int .i64)) (u1 : P.underlying f1.type = some (.int .i64)) (hv : Value.okWide P W r b0 t v) (h : DataW.Trod enc P W 0 (fun _ => true) true t v d p) :
    ∃ x y : Int, v = .agg #[.int .i64 x, .int .i64 y] ∧ Rng (x, y) := by
  obtain ⟨v0, v1, y0, y1, n, rfl, _, _, h0, h1⟩ := open_agg2 hs hone hC hv h
  obtain ⟨x, e0, _, w0⟩ := DataW.trod_int u0 h0
  obtain ⟨y, e1, _, w1⟩ := DataW.trod_int u1 h1
  injection e0 with e0
  injection e1 with e1
  exact ⟨x, y, by rw [e0, e1], i64_rng w0, i64_rng w1⟩

/-- A slice of descriptors that reads as data. -/
theorem descs_trod {t e : TypeId} {f0 f1 : Field} {fuel : Nat} {v : Value} {x : DataW H × List MemPlace} (ht : P.underlying t = some (.slice e)) (he : P.underlying e = some (.struct #[f0, f1])) (ce : P.cellsOf e = 2) (o0 : f0.offset = 0) (o1 : f1.offset = 1)
    (c0 : P.cellsOf f0.type = 1) (c1 : P.cellsOf f1.type = 1) (u0 : P.underlying f0.type = some (.int .i64)) (u1 : P.underlying f1.type = some (.int .i64))
    (h : DataW.trod enc P W 0 (fun _ => true) true fuel t [v] = some x) (hfz : ∀ b off, MemPlace.cell b off ∈ x.2 → W.frozen? ⟨b, off, none⟩ = false) (hlt : ∀ q ∈ x.2, q.block < W.heap.size) :
    ∃ A n c xs, v = .slice A n c ∧ n ≤ c ∧ c ≤ maxLen ∧ Descs W 0 W.heap.size A n xs := by
  rcases open_slice_pairs ht he ce o0 o1 c0 c1 h with ⟨hcs, _⟩ | ⟨a, len, cap, m, k, V0, V1, D0, D1, P0, P1, hcs, _, hl, hm, hmm, hx, hi⟩
  · injection hcs with hcs
    exact ⟨none, 0, 0, [], hcs, Nat.le_refl _, by unfold maxLen; omega, Descs.nil_ ..⟩
  · injection hcs with hcs
    simp only [if_true] at hmm
    subst hmm
    have hV : ∀ i, i < m → ∃ q : Int × Int, V0 i = .int .i64 q.1 ∧ V1 i = .int .i64 q.2 ∧ Rng q := fun i hi' => by
      obtain ⟨_, _, h0, h1⟩ := hi i hi'
      obtain ⟨x, e0, _, w0⟩ := DataW.trod_int u0 h0
      obtain ⟨y, e1, _, w1⟩ := DataW.trod_int u1 h1
      injection e0 with e0
      injection e1 with e1
      exact ⟨(x, y), e0, e1, i64_rng w0, i64_rng w1⟩
    obtain ⟨q, hq⟩ := choose_lt hV
    have hmem2 : ∀ j, j < m * 2 → ∀ b off, a = ⟨b, off, none⟩ → MemPlace.cell b (off + j) ∈ x.2 := fun j hj b off e => by
      rw [hx, e]
      exact List.mem_append_left _ (MemPlace.mem_row.2 ⟨j, hj, rfl⟩)
    refine ⟨some a, len, m, (List.range len).map q, hcs, hl, hm, by simp, fun y hy => ?_, by unfold maxLen at hm; omega, fun h0 => ?_⟩
    · obtain ⟨i, hi', rfl⟩ := List.mem_map.1 hy
      exact (hq i (by have := List.mem_range.1 hi'; omega)).2.2
    · obtain ⟨b, off, spot⟩ := a
      have hspot : spot = none := by simpa [Addr.add] using World.cell?_spot (hi 0 (by omega)).1
      subst hspot
      have hb : b < W.heap.size := hlt _ (hmem2 0 (by omega) b off rfl)
      refine ⟨b, off, rfl, Nat.zero_le _, hb, fun j hj => ?_⟩
      obtain ⟨g0, g1, _, _⟩ := hi j (by omega)
      rw [add_plain] at g0 g1
      rw [show off + (j * 2 + 1) = off + j * 2 + 1 by omega] at g1
      have hxj : ((List.range len).map q)[j]?.getD (0, 0) = q j := by simp [hj]
      rw [hxj, g0, g1, (hq j (by omega)).1, (hq j (by omega)).2.1]
      exact ⟨⟨rfl, hfz _ _ (hmem2 (j * 2) (by omega) b off rfl)⟩, rfl, by rw [Nat.add_assoc]; exact hfz _ _ (hmem2 (j * 2 + 1) (by omega) b off rfl)⟩

/-- A slice of descriptors among the arguments. -/
theorem descs_open {t e : TypeId} {f0 f1 : Field} {r : Reach} {b0 : Nat} {v : Value} {d : DataW H} {p : List MemPlace} (ht : P.underlying t = some (.slice e)) (he : P.underlying e = some (.struct #[f0, f1])) (ce : P.cellsOf e = 2) (o0 : f0.offset = 0) (o1 : f1.offset = 1)
    (c0 : P.cellsOf f0.type = 1) (c1 : P.cellsOf f1.type = 1) (u0 : P.underlying f0.type = some (.int .i64)) (u1 : P.underlying f1.type = some (.int .i64))
    (hval : Value.okWide P W r b0 t v) (h : DataW.Trod enc P W 0 (fun _ => true) true t v d p) (hfz : ∀ b off, MemPlace.cell b off ∈ p → W.frozen? ⟨b, off, none⟩ = false) (hlt : ∀ q ∈ p, q.block < W.heap.size) :
    ∃ A n c xs, v = .slice A n c ∧ n ≤ c ∧ c ≤ maxLen ∧ Descs W 0 W.heap.size A n xs := by
  obtain ⟨A, n, c, rfl⟩ := okWide_slice ht hval
  obtain ⟨fuel, hf⟩ := h
  exact descs_trod ht he ce o0 o1 c0 c1 u0 u1 (by simpa [Value.cells] using hf) hfz hlt
end
end De
end Go.Proofs.Ytpjomdkcckamkaa
