/- The statement LeastTells is proved: for every input the law answers true and leaves it as it was. No conditions. -/
import Derived.Test.YtpmhnheimaimmaaLeastFrame
import Derived.Test.YtpmhnheimaimmaaFrame5
import Derived.Test.YtpmhnheimaimmaaLeastTells
namespace Go.Proofs.Ytpmhnheimaimmaa
open Go.ChangeShapes Go.WideShapes Go.ChangeAt Go.RowKit

theorem leastTells_walk (W : World) (z0 : Int) (hz0 : (Lit.int .u32 z0).wf = true) (z1 : Int) (_ : (Lit.int .i64 z1).wf = true) (z2 : Int) (_ : (Lit.int .i64 z2).wf = true) :
    Calls Try.prog 6 #[.int .u32 z0, .int .i64 z1, .int .i64 z2] W fun e W' => e = .returned (.bool true) ∧ Below W.heap.size W W' := by
  obtain ⟨x, rfl⟩ := wf_u32 hz0
  by_cases h : 0 ≤ z1 ∧ z1 ≤ 65535 ∧ 0 ≤ z2 ∧ z2 < 8
  · obtain ⟨e, rfl⟩ : ∃ k : Nat, z1 = k := ⟨z1.toNat, by omega⟩
    obtain ⟨nd, rfl⟩ : ∃ k : Nat, z2 = k := ⟨z2.toNat, by omega⟩
    exact Least.Tells_ok W x e nd (by omega) (by omega)
  · exact Least.Tells_bad W x z1 z2 (by omega)

set_option maxRecDepth 100000 in
theorem leastTells_lifted (os : Os) (started : os.Started) (H : Type) (enc : TypeId × Value → H) :
    ReturnsInHanded {} Try.checked os 6 .any (Rows.leastTellsSpec.pre6 enc Try.prog Try.f6 Rows.leastTellsRow.domain false) (Rows.leastTellsSpec.post enc Try.prog Try.f6 false true false false) := by
  refine returnsInHanded_of_change (C := Try.checked) Try.own started (by kernel_rfl) Try.func6
    (ChangeSpec.witness6 (enc := enc) (C := Try.checked) false ⟨#[], #[.int .u32 0, .int .i64 0, .int .i64 0], []⟩ 8 (by kernel_rfl) (by kernel_rfl) (by kernel_rfl) (by kernel_rfl)) ?_
  intro W base args ds gs before hval0 hW _ _
  have hval : ∀ (j : Nat) t v, Try.f6.params[j]? = some t → args[j]? = some v → Value.okWide Try.prog W .any base t v := hval0
  have hW' := hW
  obtain ⟨p, q, hA0, hV, rfl, hfz, hnd⟩ := hW
  have hlt := hW'.lt
  have hA : DataW.TrodAll enc Try.prog W 0 (fun _ => true) true Try.f6.params.toList args.toList ds p := hA0
  rw [Try.params6] at hA hval
  obtain ⟨v0, v1, v2, d0, d1, d2, p0, p1, p2, rfl, rfl, rfl, h0, h1, h2⟩ := trodAll_three hA
  obtain ⟨rfl, rfl⟩ := trodVars_none hV
  obtain ⟨z0, rfl, rfl, rfl, hz0⟩ := open_int Try.underlying35 (hval 0 35 v0 rfl rfl) h0
  obtain ⟨z1, rfl, rfl, rfl, hz1⟩ := open_int Try.underlying3 (hval 1 3 v1 rfl rfl) h1
  obtain ⟨z2, rfl, rfl, rfl, hz2⟩ := open_int Try.underlying3 (hval 2 3 v2 rfl rfl) h2
  exact (leastTells_walk W z0 hz0 z1 hz1 z2 hz2).mono fun e W' ⟨he, hb⟩ => ⟨_, he, law_post hW' rfl Try.laidOut (by kernel_rfl) (tb := 4) (by kernel_rfl) Try.underlying4 rfl rfl rfl hb⟩

theorem leastTells_holds : Rows.LeastTellsSaid :=
  OpenClaim.holds_of_wide 6 Try.f6 rfl rfl rfl rfl rfl rfl rfl ⟨rfl, rfl, rfl, rfl, rfl⟩ rfl rfl rfl rfl rfl (by kernel_rfl) Try.func6 (by kernel_rfl)
    (of_decide_eq_true (by kernel_rfl)) (by unfold Func.isWrapper; first | (rw [if_pos (by decide +kernel)]; kernel_rfl) | (rw [if_neg (by decide +kernel)]; exact ⟨rfl, rfl⟩))
    (fun os started H enc _ => leastTells_lifted os started H enc)
#print axioms leastTells_holds
end Go.Proofs.Ytpmhnheimaimmaa
