/- The statement PastNames is proved, tied to the program's text: for every input the law answers true and leaves it as it was. No conditions. -/
import Derived.Test.YtbbnbgllgomolaaRows
import Derived.Test.YtbbnbgllgomolaaBz14
import Derived.Test.YtbbnbgllgomolaaBz13
import Derived.Test.YtbbnbgllgomolaaBz08
namespace Go.Proofs.Ytbbnbgllgomolaa
open Go.ChangeShapes Go.WideShapes Go.ChangeAt Go.RowKit
theorem pastNames_laidOut : laidOutB Try.prog = true := by kernel_rfl
theorem pastNames_ownKnob : ownKnob Try.prog.godebug = none := by kernel_rfl
set_option maxRecDepth 100000 in
theorem pastNames_lifted (os : Os) (started : os.Started) (H : Type) (enc : TypeId × Value → H) :
  ReturnsInHanded {} Try.checked os 6 .any (Rows.pastNamesSpec.pre6 enc Try.prog Try.f6 Rows.pastNamesRow.domain false) (Rows.pastNamesSpec.post enc Try.prog Try.f6 false true false false) := by
 refine returnsInHanded_of_change (C := Try.checked) pastNames_ownKnob started (by kernel_rfl) Try.func6
  (ChangeSpec.witness6 (enc := enc) (C := Try.checked) false ⟨#[], #[], []⟩ 8 (by kernel_rfl) (by kernel_rfl) (by kernel_rfl) (by kernel_rfl)) ?_
 intro W base args ds gs before hval0 hW _ _
 have hval : ∀ (j : Nat) t v, Try.f6.params[j]? = some t → args[j]? = some v → Value.okWide Try.prog W .any base t v := hval0
 have hW' := hW
 obtain ⟨pp, qq, hA0, hV, rfl, hfz, hnd⟩ := hW
 have hlt := hW'.lt
 have hA : DataW.TrodAll enc Try.prog W 0 (fun _ => true) true Try.f6.params.toList args.toList ds pp := hA0
 rw [Try.params6] at hA hval
 obtain ⟨rfl, rfl, rfl⟩ := trodAll_none hA
 obtain ⟨rfl, rfl⟩ := trodVars_none hV
 exact (Ma.pnames_walk W ).mono fun e W' ⟨he, hb⟩ => ⟨_, he, law_post hW' rfl pastNames_laidOut (by kernel_rfl) (tb := 4) (by kernel_rfl) Try.underlying4 rfl rfl rfl hb⟩
theorem pastNames_holds : Rows.PastNamesSaid :=
 OpenClaim.holds_of_wide 6 Try.f6 rfl rfl rfl rfl rfl rfl rfl ⟨rfl, rfl, rfl, rfl, rfl⟩ rfl rfl rfl rfl rfl (by kernel_rfl) Try.func6 (by kernel_rfl)
  (of_decide_eq_true (by kernel_rfl)) (by unfold Func.isWrapper; first | (rw [if_pos (by decide +kernel)]; kernel_rfl) | (rw [if_neg (by decide +kernel)]; exact ⟨rfl, rfl⟩))
  (fun os started H enc _ => pastNames_lifted os started H enc)
#print axioms pastNames_holds
end Go.Proofs.Ytbbnbgllgomolaa