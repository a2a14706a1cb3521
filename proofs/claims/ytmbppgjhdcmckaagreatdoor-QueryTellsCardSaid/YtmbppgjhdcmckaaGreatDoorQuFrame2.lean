/- What is told among the arguments. -/
import Derived.Test.YtmbppgjhdcmckaaGreatDoorQuFrame
import Derived.Test.YtmbppgjhdcmckaaGreatDoorQuBase
namespace Go.Proofs.YtmbppgjhdcmckaaGreatDoor
open Go.ChangeShapes Go.WideShapes Go.ChangeAt Go.RowKit Go.Joins Go.Deep
section
variable {H : Type} {enc : TypeId × Value → H} {W : World}
set_option maxRecDepth 100000 in
/-- A told one among the arguments. -/
theorem told_open {r : Reach} {b0 : Nat} {v : Value} {d : DataW H} {p : List MemPlace}
    (hval : Value.okWide Tryz.prog W r b0 32 v) (h : DataW.Trod enc Tryz.prog W 0 (fun _ => true) true 32 v d p) (hfz : ∀ b off, MemPlace.cell b off ∈ p → W.frozen? ⟨b, off, none⟩ = false) (hlt : ∀ q ∈ p, q.block < W.heap.size) :
    ∃ x y : Ma.Dv, v = .agg #[.bool x.s, .slice x.A x.n x.c, .int .i64 x.e, .bool y.s, .slice y.A y.n y.c, .int .i64 y.e] ∧ Ma.DRow W 0 W.heap.size x ∧ Ma.DRow W 0 W.heap.size y := by
  obtain ⟨cs, rfl, hsz⟩ := okWide_struct Tryz.underlying32 hval
  obtain ⟨cs⟩ := cs
  obtain ⟨fuel, hf⟩ := h
  simp only [Value.cells] at hf
  obtain ⟨y0, y1, n, hx, hl, h0, h1⟩ := trod_struct2 Tryz.underlying32 hf
  match cs, hl.trans (show Tryz.prog.cellsOf 32 = 6 by kernel_rfl) with
  | [c0, c1, c2, c3, c4, c5], _ =>
    have hC3 : Tryz.prog.cellsOf 24 = 3 := by kernel_rfl
    have hx2 : p = y0.2 ++ y1.2 := by have := congrArg Prod.snd hx; simpa using this
    simp only [hC3, List.drop_zero, List.take_succ_cons, List.take_zero, List.drop_succ_cons] at h0 h1
    obtain ⟨d0, rfl, rfl, rfl, e0, r0⟩ := dv_trod Tryz.underlying24 (by kernel_rfl) Tryz.underlying4 Tryz.underlying22 Tryz.underlying48 (by kernel_rfl) Tryz.underlying3 h0 (fun b off hm => hfz b off (by simp [hx2, hm])) (fun q hq => hlt q (by simp [hx2, hq]))
    obtain ⟨d1, rfl, rfl, rfl, e1, r1⟩ := dv_trod Tryz.underlying24 (by kernel_rfl) Tryz.underlying4 Tryz.underlying22 Tryz.underlying48 (by kernel_rfl) Tryz.underlying3 h1 (fun b off hm => hfz b off (by simp [hx2, hm])) (fun q hq => hlt q (by simp [hx2, hq]))
    exact ⟨d0, d1, rfl, r0, r1⟩
end
end Go.Proofs.YtmbppgjhdcmckaaGreatDoor
