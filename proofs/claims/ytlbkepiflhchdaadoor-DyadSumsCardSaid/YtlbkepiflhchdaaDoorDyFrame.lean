/- Dyads among the arguments. -/
import Derived.Test.YtlbkepiflhchdaaDoorFrame
import Derived.Test.YtlbkepiflhchdaaDoorDyRef1
import Derived.Lib.SmallJoins
import Derived.Deep.SlicePairs
namespace Go.Proofs.YtlbkepiflhchdaaDoor
open Go.ChangeShapes Go.WideShapes Go.ChangeAt Go.RowKit Go.Joins Go.Deep
section
variable {H : Type} {enc : TypeId × Value → H} {P : Program} {W W' : World}
theorem ints_trod {t e : TypeId} {k : IntKind} {fuel : Nat} {v : Value} {x : DataW H × List MemPlace} (ht : P.underlying t = some (.slice e)) (he : P.underlying e = some (.int k)) (hc : P.cellsOf e = 1)
    (h : DataW.trod enc P W 0 (fun _ => true) true fuel t [v] = some x) (hfz : ∀ b off, MemPlace.cell b off ∈ x.2 → W.frozen? ⟨b, off, none⟩ = false) (hlt : ∀ q ∈ x.2, q.block < W.heap.size) :
    ∃ A n c xs, v = .slice A n c ∧ n ≤ c ∧ Ints W 0 W.heap.size k A n xs := by
  rcases open_ints ht he hc h with ⟨hcs, hx⟩ | ⟨a, len, cap, zs, hcs, _, hl, hm, hz, hx, hcell, hwz⟩
  · injection hcs with hcs
    exact ⟨none, 0, 0, [], hcs, Nat.le_refl _, Ints.nil_ ..⟩
  · injection hcs with hcs
    simp only [if_true] at hz
    refine ⟨some a, len, cap, zs.take len, hcs, hl, by simp; omega, fun y hy => ?_, by unfold maxLen at hm; omega, fun h0 => ?_⟩
    · have := hwz y (List.mem_of_mem_take hy)
      simpa [Lit.wf] using this
    · obtain ⟨b, off, spot⟩ := a
      have hspot : spot = none := by simpa [Addr.add] using World.cell?_spot (hcell 0 (by omega))
      subst hspot
      have hmem : ∀ j, j < len → MemPlace.cell b (off + j) ∈ x.2 := fun j hj => by
        rw [hx]
        exact MemPlace.mem_row.2 ⟨j, by omega, rfl⟩
      refine ⟨b, off, rfl, Nat.zero_le _, hlt _ (hmem 0 h0), fun j hj => ⟨?_, hfz _ _ (hmem j hj)⟩⟩
      have := hcell j (by omega)
      rw [add_plain] at this
      rw [this, List.getElem?_take, if_pos hj]
      simp [List.getD]
/-- A dyad among the arguments. -/
theorem dyad_open {r : Reach} {b0 : Nat} {t e : TypeId} {k0 k1 k2 : Field} {v : Value} {d : DataW H} {p : List MemPlace} (hs : P.underlying t = some (.struct #[k0, k1, k2])) (hone : oneCellFields P #[k0, k1, k2] = true) (hC : P.cellsOf t = 3)
    (v0 : P.underlying k0.type = some .bool) (ht : P.underlying k1.type = some (.slice e)) (he : P.underlying e = some (.int .u32)) (hc : P.cellsOf e = 1) (v2 : P.underlying k2.type = some (.int .i64))
    (hval : Value.okWide P W r b0 t v) (h : DataW.Trod enc P W 0 (fun _ => true) true t v d p) (hfz : ∀ b off, MemPlace.cell b off ∈ p → W.frozen? ⟨b, off, none⟩ = false) (hlt : ∀ q ∈ p, q.block < W.heap.size) :
    ∃ (s : Bool) (A : Option Addr) (n c : Nat) (xs : List Int) (ex : Int), v = .agg #[.bool s, .slice A n c, .int .i64 ex] ∧ n ≤ c ∧ (Lit.int .i64 ex).wf = true ∧ Ints W 0 W.heap.size .u32 A n xs := by
  obtain ⟨w0, w1, w2, y0, y1, y2, m, rfl, _, rfl, h0, h1, h2⟩ := open_agg3 hs hone hC hval h
  obtain ⟨s, e0, _⟩ := DataW.trod_bool v0 h0
  obtain ⟨x, e2, _, z2⟩ := DataW.trod_int v2 h2
  injection e0 with e0
  injection e2 with e2
  obtain ⟨A, n, c, xs, e1, hc', hx⟩ := ints_trod ht he hc h1 (fun b off hm => hfz b off (by simp [hm])) (fun q hq => hlt q (by simp [hq]))
  exact ⟨s, A, n, c, xs, x, by rw [e0, e1, e2], hc', z2, hx⟩
end
end Go.Proofs.YtlbkepiflhchdaaDoor
