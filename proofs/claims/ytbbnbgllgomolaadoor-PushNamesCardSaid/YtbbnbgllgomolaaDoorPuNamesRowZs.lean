/- The statement PushNames is proved, tied to the program's text: for every input the law answers true and leaves it as it was. No conditions. -/
import Derived.Test.YtbbnbgllgomolaaDoorCards
import Derived.Test.YtbbnbgllgomolaaDoorTie
import Derived.SevenTiedAt
import Derived.Test.YtbbnbgllgomolaaDoorBs23
import Derived.Test.YtbbnbgllgomolaaDoorBs15
import Derived.Test.YtbbnbgllgomolaaDoorBs14
namespace Go.Proofs.YtbbnbgllgomolaaDoor
open Go.ChangeShapes Go.WideShapes Go.ChangeAt Go.RowKit
set_option maxRecDepth 100000 in
theorem pushNames_lifted (os : Os) (started : os.Started) (H : Type) (enc : TypeId × Value → H) :
  ReturnsInHanded {} Tryd.checked os 7 .any (fun w args => (Rows.pushNamesSpec.pre enc Tryd.prog Tryd.f7 [] false w args ∧ laidMetH Tryd.prog Dy.laidT w) ∧ sizedMet enc Tryd.prog Tryd.f7 (OpenSpec.ofChange Rows.pushNamesSpec) false w args)
   (Rows.pushNamesSpec.post enc Tryd.prog Tryd.f7 false true false false) := by
 refine returnsInHanded_of_change_and (C := Tryd.checked) (X := fun w _ => laidMetH Tryd.prog Dy.laidT w) (fun _ _ _ hh h => h.of_heap hh) Dy.ownKnob_ started (by kernel_rfl) Tryd.func7
  (ChangeSpec.witness_shaped (enc := enc) (C := Tryd.checked) (os := os) (X := fun w _ => laidMetH Tryd.prog Dy.laidT w) false (World.doorLaid Tryd.prog 400 os) #[] 8 rfl (Dy.door_shaped os _) (by kernel_rfl) (by kernel_rfl) (by kernel_rfl) (Dy.door_met os _)) ?_
 intro W base args ds gs before hval0 hW _ hsz hL _
 have hval : ∀ (j : Nat) t v, Tryd.f7.params[j]? = some t → args[j]? = some v → Value.okWide Tryd.prog W .any base t v := hval0
 have hW' := hW
 obtain ⟨p, q, hA0, hV, rfl, hfz, hnd⟩ := hW
 have hlt := hW'.lt
 have hA : DataW.TrodAll enc Tryd.prog W 0 (fun _ => true) true Tryd.f7.params.toList args.toList ds p := hA0
 rw [Tryd.params7] at hA hval
 obtain ⟨rfl, rfl, rfl⟩ := trodAll_none hA
 obtain ⟨rfl, rfl⟩ := trodVars_none hV
 exact (Ma.punames_walk W  (Dy.tab_of_laid hL)).mono fun e W' ⟨he, hb⟩ => ⟨_, he, law_post hW' rfl Tryd.laidOut (by kernel_rfl) (tb := 4) (by kernel_rfl) Tryd.underlying4 rfl rfl rfl hb⟩
theorem pushNames_row : Rows.PushNamesSaid :=
 OpenClaim.holds_of_wide 7 Tryd.f7 rfl rfl rfl rfl rfl rfl rfl ⟨rfl, rfl, rfl, rfl, rfl⟩ rfl rfl rfl rfl rfl (by kernel_rfl) Tryd.func7 (by kernel_rfl)
  (of_decide_eq_true (by kernel_rfl)) (by unfold Func.isWrapper; first | (rw [if_pos (by decide +kernel)]; kernel_rfl) | (rw [if_neg (by decide +kernel)]; exact ⟨rfl, rfl⟩))
  (fun os started H enc _ => pushNames_lifted os started H enc)
theorem pushNames_holds : Rows.PushNamesCardSaid :=
 Claim7.holds_tied_plain_at .later [] [.data] true Rows.pushNamesCard.stood.harness false
  pushNames_row (fun _ h => by cases h) (by kernel_rfl) (fun _ h => by cases h) pushNames_row_tie rfl ⟨rfl, rfl⟩ (by kernel_rfl) rfl
  (fun f fn hf hfn => by
   obtain rfl : f = 7 := Option.some.inj ((show Tryd.prog.funcNamed "headcount/headcountlaw15.PushNames" = some 7 by kernel_rfl).symm.trans hf) |>.symm
   obtain rfl : fn = Tryd.f7 := (Option.some.inj (Tryd.func7.symm.trans hfn)).symm
   exact ⟨by kernel_rfl, fun j t ht => by
    rw [Tryd.params7] at ht
    simp at ht⟩)
  (by kernel_rfl)
#print axioms pushNames_holds
end Go.Proofs.YtbbnbgllgomolaaDoor