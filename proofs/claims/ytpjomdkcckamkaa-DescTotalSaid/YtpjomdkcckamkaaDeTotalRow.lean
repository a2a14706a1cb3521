/- The statement DescTotal is proved: for every input the law answers true and leaves it as it was. No conditions. -/
import Derived.Test.YtpjomdkcckamkaaDeFrame
import Derived.Test.YtpjomdkcckamkaaDeTotal
namespace Go.Proofs.Ytpjomdkcckamkaa
open Go.ChangeShapes Go.WideShapes Go.ChangeAt Go.RowKit

set_option maxRecDepth 100000 in
theorem descTotal_lifted (os : Os) (started : os.Started) (H : Type) (enc : TypeId × Value → H) :
    ReturnsInHanded {} Try.checked os 7 .any (Rows.descTotalSpec.pre6 enc Try.prog Try.f7 Rows.descTotalRow.domain false) (Rows.descTotalSpec.post enc Try.prog Try.f7 false true false false) := by
  refine returnsInHanded_of_change (C := Try.checked) Try.own started (by kernel_rfl) Try.func7
    (ChangeSpec.witness6 (enc := enc) (C := Try.checked) false ⟨#[], #[.agg #[.int .i64 0, .int .i64 0], .agg #[.int .i64 0, .int .i64 0], .agg #[.int .i64 0, .int .i64 0]], []⟩ 8 (by kernel_rfl) (by kernel_rfl) (by kernel_rfl) (by kernel_rfl)) ?_
  intro W base args ds gs before hval0 hW _ _
  have hval : ∀ (j : Nat) t v, Try.f7.params[j]? = some t → args[j]? = some v → Value.okWide Try.prog W .any base t v := hval0
  have hW' := hW
  obtain ⟨p, q, hA0, hV, rfl, hfz, hnd⟩ := hW
  have hlt := hW'.lt
  have hA : DataW.TrodAll enc Try.prog W 0 (fun _ => true) true Try.f7.params.toList args.toList ds p := hA0
  rw [Try.params7] at hA hval
  obtain ⟨v0, v1, v2, d0, d1, d2, p0, p1, p2, rfl, rfl, rfl, h0, h1, h2⟩ := trodAll_three hA
  obtain ⟨rfl, rfl⟩ := trodVars_none hV
  obtain ⟨x0, y0, rfl, _⟩ := De.desc_open Try.underlying29 (by kernel_rfl) (by kernel_rfl) Try.underlying3 Try.underlying3 (hval 0 29 v0 rfl rfl) h0
  obtain ⟨x1, y1, rfl, _⟩ := De.desc_open Try.underlying29 (by kernel_rfl) (by kernel_rfl) Try.underlying3 Try.underlying3 (hval 1 29 v1 rfl rfl) h1
  obtain ⟨x2, y2, rfl, _⟩ := De.desc_open Try.underlying29 (by kernel_rfl) (by kernel_rfl) Try.underlying3 Try.underlying3 (hval 2 29 v2 rfl rfl) h2
  exact (De.descTotal_any W x0 y0 x1 y1 x2 y2).mono fun e W' ⟨he, hb⟩ => ⟨_, he, law_post hW' rfl Try.laidOut (by kernel_rfl) (tb := 4) (by kernel_rfl) Try.underlying4 rfl rfl rfl hb⟩

theorem descTotal_holds : Rows.DescTotalSaid :=
  OpenClaim.holds_of_wide 7 Try.f7 rfl rfl rfl rfl rfl rfl rfl ⟨rfl, rfl, rfl, rfl, rfl⟩ rfl rfl rfl rfl rfl (by kernel_rfl) Try.func7 (by kernel_rfl)
    (of_decide_eq_true (by kernel_rfl)) (by unfold Func.isWrapper; first | (rw [if_pos (by decide +kernel)]; kernel_rfl) | (rw [if_neg (by decide +kernel)]; exact ⟨rfl, rfl⟩))
    (fun os started H enc _ => descTotal_lifted os started H enc)
#print axioms descTotal_holds
end Go.Proofs.Ytpjomdkcckamkaa
