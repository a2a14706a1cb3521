/- The statement PastParts is proved, tied to the program's text: for every input the law answers true and leaves it as it was. No conditions. -/
import Derived.Test.YtbbnbgllgomolaaRows
import Derived.Test.YtbbnbgllgomolaaBy17
import Derived.Test.YtbbnbgllgomolaaBy16
import Derived.Test.YtbbnbgllgomolaaBy08
namespace Go.Proofs.Ytbbnbgllgomolaa
open Go.ChangeShapes Go.WideShapes Go.ChangeAt Go.RowKit
theorem pastParts_laidOut : laidOutB Try.prog = true := by kernel_rfl
theorem pastParts_ownKnob : ownKnob Try.prog.godebug = none := by kernel_rfl
set_option maxRecDepth 100000 in
theorem pastParts_lifted (os : Os) (started : os.Started) (H : Type) (enc : TypeId × Value → H) :
  ReturnsInHanded {} Try.checked os 8 .any (Rows.pastPartsSpec.pre6 enc Try.prog Try.f8 Rows.pastPartsRow.domain false) (Rows.pastPartsSpec.post enc Try.prog Try.f8 false true false false) := by
 refine returnsInHanded_of_change (C := Try.checked) pastParts_ownKnob started (by kernel_rfl) Try.func8
  (ChangeSpec.witness6 (enc := enc) (C := Try.checked) false ⟨#[], #[.slice none 0 0, .int .i64 0], []⟩ 8 (by kernel_rfl) (by kernel_rfl) (by kernel_rfl) (by kernel_rfl)) ?_
 intro W base args ds gs before hval0 hW _ _
 have hval : ∀ (j : Nat) t v, Try.f8.params[j]? = some t → args[j]? = some v → Value.okWide Try.prog W .any base t v := hval0
 have hW' := hW
 obtain ⟨pp, qq, hA0, hV, rfl, hfz, hnd⟩ := hW
 have hlt := hW'.lt
 have hA : DataW.TrodAll enc Try.prog W 0 (fun _ => true) true Try.f8.params.toList args.toList ds pp := hA0
 rw [Try.params8] at hA hval
 obtain ⟨v0, v1, d0, d1, pl0, pl1, rfl, rfl, rfl, h0, h1⟩ := trodAll_two hA
 obtain ⟨rfl, rfl⟩ := trodVars_none hV
 obtain ⟨A0, n0, c0, fs0, rfl, hc0, hm0, hx0⟩ := frozens_open (hval 0 22 v0 rfl rfl) h0 (fun b off hm => hfz b off (by simp [hm])) (fun x hm => hlt x (by simp [hm]))
 obtain ⟨z1, rfl, rfl, rfl, hz1⟩ := open_int Try.underlying3 (hval 1 3 v1 rfl rfl) h1
 exact (Ma.pparts_walk W A0 n0 c0 fs0 hx0 hc0 hm0 z1).mono fun e W' ⟨he, hb⟩ => ⟨_, he, law_post hW' rfl pastParts_laidOut (by kernel_rfl) (tb := 4) (by kernel_rfl) Try.underlying4 rfl rfl rfl hb⟩
theorem pastParts_holds : Rows.PastPartsSaid :=
 OpenClaim.holds_of_wide 8 Try.f8 rfl rfl rfl rfl rfl rfl rfl ⟨rfl, rfl, rfl, rfl, rfl⟩ rfl rfl rfl rfl rfl (by kernel_rfl) Try.func8 (by kernel_rfl)
  (of_decide_eq_true (by kernel_rfl)) (by unfold Func.isWrapper; first | (rw [if_pos (by decide +kernel)]; kernel_rfl) | (rw [if_neg (by decide +kernel)]; exact ⟨rfl, rfl⟩))
  (fun os started H enc _ => pastParts_lifted os started H enc)
#print axioms pastParts_holds
end Go.Proofs.Ytbbnbgllgomolaa