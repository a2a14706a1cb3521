/- Caches among the arguments. -/
import Derived.Test.YtpjomdkcckamkaaDeFrame
namespace Go.Proofs.Ytpjomdkcckamkaa
open Go.ChangeShapes Go.WideShapes Go.ChangeAt Go.RowKit Go.Joins Go.Deep
namespace De
/-- A cache among the arguments. -/
theorem cache_open {H : Type} {enc : TypeId × Value → H} {P : Program} {W : World} {r : Reach} {b0 : Nat} {t e : TypeId} {k0 k1 k2 f0 f1 : Field} {v : Value} {d : DataW H} {p : List MemPlace} (hs : P.underlying t = some (.struct #[k0, k1, k2])) (hone : oneCellFields P #[k0, k1, k2] = true) (hC : P.cellsOf t = 3)
    (v0 : P.underlying k0.type = some (.int .i64)) (v1 : P.underlying k1.type = some (.int .i64)) (ht : P.underlying k2.type = some (.slice e)) (he : P.underlying e = some (.struct #[f0, f1])) (ce : P.cellsOf e = 2) (o0 : f0.offset = 0) (o1 : f1.offset = 1)
    (c0 : P.cellsOf f0.type = 1) (c1 : P.cellsOf f1.type = 1) (u0 : P.underlying f0.type = some (.int .i64)) (u1 : P.underlying f1.type = some (.int .i64))
    (hval : Value.okWide P W r b0 t v) (h : DataW.Trod enc P W 0 (fun _ => true) true t v d p) (hfz : ∀ b off, MemPlace.cell b off ∈ p → W.frozen? ⟨b, off, none⟩ = false) (hlt : ∀ q ∈ p, q.block < W.heap.size) :
    ∃ (ow ca : Int) (A : Option Addr) (n c : Nat) (xs : List (Int × Int)), v = .agg #[.int .i64 ow, .int .i64 ca, .slice A n c] ∧ Rng (ow, ca) ∧ n ≤ c ∧ c ≤ maxLen ∧ Descs W 0 W.heap.size A n xs := by
  obtain ⟨w0, w1, w2, y0, y1, y2, m, rfl, _, rfl, h0, h1, h2⟩ := open_agg3 hs hone hC hval h
  obtain ⟨x, e0, _, z0⟩ := DataW.trod_int v0 h0
  obtain ⟨y, e1, _, z1⟩ := DataW.trod_int v1 h1
  injection e0 with e0
  injection e1 with e1
  obtain ⟨A, n, c, xs, e2, hc, hm, hx⟩ := descs_trod ht he ce o0 o1 c0 c1 u0 u1 h2 (fun b off hm => hfz b off (by simp [hm])) (fun q hq => hlt q (by simp [hq]))
  exact ⟨x, y, A, n, c, xs, by rw [e0, e1, e2], ⟨i64_rng z0, i64_rng z1⟩, hc, hm, hx⟩
end De
end Go.Proofs.Ytpjomdkcckamkaa
