/- The statement QueryCounts is proved, tied to the program's text: for every input the law answers true and leaves it as it was. No conditions. -/
import Derived.Test.YtmbppgjhdcmckaaDoorQuL4
import Derived.Test.YtmbppgjhdcmckaaDoorQuFrame
import Derived.Test.YtmbppgjhdcmckaaDoorBf14
import Derived.Test.YtmbppgjhdcmckaaDoorCards
import Derived.Test.YtmbppgjhdcmckaaDoorTie
import Derived.SevenTiedAt
namespace Go.Proofs.YtmbppgjhdcmckaaDoor
open Go.ChangeShapes Go.WideShapes Go.ChangeAt Go.RowKit
set_option maxRecDepth 100000 in
theorem queryCounts_lifted (os : Os) (started : os.Started) (H : Type) (enc : TypeId × Value → H) :
    ReturnsInHanded {} Tryd.checked os 3 .any (fun w args => (Rows.queryCountsSpec.pre enc Tryd.prog Tryd.f3 [] false w args ∧ laidMetH Tryd.prog Dy.laidT w) ∧ sizedMet enc Tryd.prog Tryd.f3 (OpenSpec.ofChange Rows.queryCountsSpec) false w args)
      (Rows.queryCountsSpec.post enc Tryd.prog Tryd.f3 false true false false) := by
  refine returnsInHanded_of_change_and (C := Tryd.checked) (X := fun w _ => laidMetH Tryd.prog Dy.laidT w) (fun _ _ _ hh h => h.of_heap hh) Dy.ownKnob_ started (by kernel_rfl) Tryd.func3
    (ChangeSpec.witness_shaped (enc := enc) (C := Tryd.checked) (os := os) (X := fun w _ => laidMetH Tryd.prog Dy.laidT w) false (World.doorLaid Tryd.prog 400 os) #[.agg #[.bool false, .slice none 0 0, .int .i64 0, .bool false, .slice none 0 0, .int .i64 0, .bool false, .slice none 0 0, .int .i64 0, .bool false, .slice none 0 0, .int .i64 0, .bool false, .int .i64 0, .int .i64 0, .slice none 0 0], .int .i64 0] 8 rfl (Dy.door_shaped os _) (by kernel_rfl) (by kernel_rfl) (by kernel_rfl) (Dy.door_met os _)) ?_
  intro W base args ds gs before hval0 hW _ hsz hL _
  have hval : ∀ (j : Nat) t v, Tryd.f3.params[j]? = some t → args[j]? = some v → Value.okWide Tryd.prog W .any base t v := hval0
  have hW' := hW
  obtain ⟨p, q, hA0, hV, rfl, hfz, hnd⟩ := hW
  have hlt := hW'.lt
  have hA : DataW.TrodAll enc Tryd.prog W 0 (fun _ => true) true Tryd.f3.params.toList args.toList ds p := hA0
  rw [Tryd.params3] at hA hval
  obtain ⟨v0, v1, d0, d1, p0, p1, rfl, rfl, rfl, h0, h1⟩ := trodAll_two hA
  obtain ⟨rfl, rfl⟩ := trodVars_none hV
  obtain ⟨p0, rfl, hx0⟩ := part_open (hval 0 30 v0 rfl rfl) h0 (fun b off hm => hfz b off (by simp [hm])) (fun x hm => hlt x (by simp [hm]))
  obtain ⟨z1, rfl, rfl, rfl, hz1⟩ := open_int Tryd.underlying3 (hval 1 3 v1 rfl rfl) h1
  exact (Ma.counts_walk W p0 hx0 z1 (Dy.tab_of_laid hL)).mono fun e W' ⟨he, hb⟩ => ⟨_, he, law_post hW' rfl Tryd.laidOut (by kernel_rfl) (tb := 4) (by kernel_rfl) Tryd.underlying4 rfl rfl rfl hb⟩
theorem queryCounts_row : Rows.QueryCountsSaid :=
  OpenClaim.holds_of_wide 3 Tryd.f3 rfl rfl rfl rfl rfl rfl rfl ⟨rfl, rfl, rfl, rfl, rfl⟩ rfl rfl rfl rfl rfl (by kernel_rfl) Tryd.func3 (by kernel_rfl)
    (of_decide_eq_true (by kernel_rfl)) (by unfold Func.isWrapper; first | (rw [if_pos (by decide +kernel)]; kernel_rfl) | (rw [if_neg (by decide +kernel)]; exact ⟨rfl, rfl⟩))
    (fun os started H enc _ => queryCounts_lifted os started H enc)
theorem queryCounts_holds : Rows.QueryCountsCardSaid :=
  Claim7.holds_tied_plain_at .later [] [.data] true Rows.queryCountsCard.stood.harness false
    queryCounts_row (fun _ h => by cases h) (by kernel_rfl) (fun _ h => by cases h) queryCounts_row_tie rfl ⟨rfl, rfl⟩ (by kernel_rfl) rfl
    (fun f fn hf hfn => by
      obtain rfl : f = 3 := Option.some.inj ((show Tryd.prog.funcNamed "headcount/headcountlaw25.QueryCounts" = some 3 by kernel_rfl).symm.trans hf) |>.symm
      obtain rfl : fn = Tryd.f3 := (Option.some.inj (Tryd.func3.symm.trans hfn)).symm
      exact ⟨by kernel_rfl, fun j t ht => by
        rw [Tryd.params3] at ht
        have hm : t ∈ [30, 3] := by simpa using Array.mem_of_getElem? ht
        have hall : ([30, 3].all fun u => !Tryd.prog.wantsStandIn u) = true := by kernel_rfl
        exact (show Tryd.prog.wantsStandIn t = false by simpa using List.all_eq_true.1 hall t hm)⟩)
    (by kernel_rfl)
#print axioms queryCounts_holds
end Go.Proofs.YtmbppgjhdcmckaaDoor
