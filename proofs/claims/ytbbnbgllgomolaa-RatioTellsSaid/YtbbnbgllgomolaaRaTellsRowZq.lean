/- The statement RatioTells is proved, tied to the program's text: for every input the law answers true and leaves it as it was. No conditions. -/
import Derived.Test.YtbbnbgllgomolaaRows
import Derived.Test.YtbbnbgllgomolaaBq13
import Derived.Test.YtbbnbgllgomolaaBq11
namespace Go.Proofs.Ytbbnbgllgomolaa
open Go.ChangeShapes Go.WideShapes Go.ChangeAt Go.RowKit
theorem ratioTells_laidOut : laidOutB Try.prog = true := by kernel_rfl
theorem ratioTells_ownKnob : ownKnob Try.prog.godebug = none := by kernel_rfl
set_option maxRecDepth 100000 in
theorem ratioTells_lifted (os : Os) (started : os.Started) (H : Type) (enc : TypeId × Value → H) :
    ReturnsInHanded {} Try.checked os 5 .any (Rows.ratioTellsSpec.pre6 enc Try.prog Try.f5 Rows.ratioTellsRow.domain false) (Rows.ratioTellsSpec.post enc Try.prog Try.f5 false true false false) := by
  refine returnsInHanded_of_change (C := Try.checked) ratioTells_ownKnob started (by kernel_rfl) Try.func5
    (ChangeSpec.witness6 (enc := enc) (C := Try.checked) false ⟨#[], #[.agg #[.bool false, .slice none 0 0, .int .i64 0], .agg #[.bool false, .slice none 0 0, .int .i64 0], .int .i64 0], []⟩ 8 (by kernel_rfl) (by kernel_rfl) (by kernel_rfl) (by kernel_rfl)) ?_
  intro W base args ds gs before hval0 hW _ _
  have hval : ∀ (j : Nat) t v, Try.f5.params[j]? = some t → args[j]? = some v → Value.okWide Try.prog W .any base t v := hval0
  have hW' := hW
  obtain ⟨p, q, hA0, hV, rfl, hfz, hnd⟩ := hW
  have hlt := hW'.lt
  have hA : DataW.TrodAll enc Try.prog W 0 (fun _ => true) true Try.f5.params.toList args.toList ds p := hA0
  rw [Try.params5] at hA hval
  obtain ⟨v0, v1, v2, d0, d1, d2, p0, p1, p2, rfl, rfl, rfl, h0, h1, h2⟩ := trodAll_three hA
  obtain ⟨rfl, rfl⟩ := trodVars_none hV
  obtain ⟨s0, A0, n0, c0, xs0, e0, rfl, hc0, hz0, hx0⟩ := dyad_open Try.underlying25 (by kernel_rfl) (by kernel_rfl) Try.underlying4 Try.underlying23 Try.underlying70 (by kernel_rfl) Try.underlying3 (hval 0 25 v0 rfl rfl) h0 (fun b off hm => hfz b off (by simp [hm])) (fun x hm => hlt x (by simp [hm]))
  obtain ⟨s1, A1, n1, c1, xs1, e1, rfl, hc1, hz1, hx1⟩ := dyad_open Try.underlying25 (by kernel_rfl) (by kernel_rfl) Try.underlying4 Try.underlying23 Try.underlying70 (by kernel_rfl) Try.underlying3 (hval 1 25 v1 rfl rfl) h1 (fun b off hm => hfz b off (by simp [hm])) (fun x hm => hlt x (by simp [hm]))
  obtain ⟨z2, rfl, rfl, rfl, hz2⟩ := open_int Try.underlying3 (hval 2 3 v2 rfl rfl) h2
  exact (Dy.tells03_walk W s0 A0 n0 c0 xs0 e0 hx0 s1 A1 n1 c1 xs1 e1 hx1 z2).mono fun e W' ⟨he, hb⟩ => ⟨_, he, law_post hW' rfl ratioTells_laidOut (by kernel_rfl) (tb := 4) (by kernel_rfl) Try.underlying4 rfl rfl rfl hb⟩
theorem ratioTells_holds : Rows.RatioTellsSaid :=
  OpenClaim.holds_of_wide 5 Try.f5 rfl rfl rfl rfl rfl rfl rfl ⟨rfl, rfl, rfl, rfl, rfl⟩ rfl rfl rfl rfl rfl (by kernel_rfl) Try.func5 (by kernel_rfl)
    (of_decide_eq_true (by kernel_rfl)) (by unfold Func.isWrapper; first | (rw [if_pos (by decide +kernel)]; kernel_rfl) | (rw [if_neg (by decide +kernel)]; exact ⟨rfl, rfl⟩))
    (fun os started H enc _ => ratioTells_lifted os started H enc)
#print axioms ratioTells_holds
end Go.Proofs.Ytbbnbgllgomolaa
