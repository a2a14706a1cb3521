/- The statement PushKeeps is proved, tied to the program's text: for every input the law answers true and leaves it as it was. No conditions. -/
import Derived.Test.YtbbnbgllgomolaaDoorCards
import Derived.Test.YtbbnbgllgomolaaDoorTie
import Derived.SevenTiedAt
import Derived.Test.YtbbnbgllgomolaaDoorBt20
import Derived.Test.YtbbnbgllgomolaaDoorBt13
import Derived.Test.YtbbnbgllgomolaaDoorBt19
namespace Go.Proofs.YtbbnbgllgomolaaDoor
open Go.ChangeShapes Go.WideShapes Go.ChangeAt Go.RowKit
set_option maxRecDepth 100000 in
theorem pushKeeps_lifted (os : Os) (started : os.Started) (H : Type) (enc : TypeId × Value → H) :
  ReturnsInHanded {} Tryd.checked os 8 .any (fun w args => (Rows.pushKeepsSpec.pre enc Tryd.prog Tryd.f8 [] false w args ∧ laidMetH Tryd.prog Dy.laidT w) ∧ sizedMet enc Tryd.prog Tryd.f8 (OpenSpec.ofChange Rows.pushKeepsSpec) false w args)
   (Rows.pushKeepsSpec.post enc Tryd.prog Tryd.f8 false true false false) := by
 refine returnsInHanded_of_change_and (C := Tryd.checked) (X := fun w _ => laidMetH Tryd.prog Dy.laidT w) (fun _ _ _ hh h => h.of_heap hh) Dy.ownKnob_ started (by kernel_rfl) Tryd.func8
  (ChangeSpec.witness_shaped (enc := enc) (C := Tryd.checked) (os := os) (X := fun w _ => laidMetH Tryd.prog Dy.laidT w) false (World.doorLaid Tryd.prog 400 os) #[.slice none 0 0, .int .i64 0, .int .i64 0, .slice none 0 0, .slice none 0 0] 8 rfl (Dy.door_shaped os _) (by kernel_rfl) (by kernel_rfl) (by kernel_rfl) (Dy.door_met os _)) ?_
 intro W base args ds gs before hval0 hW _ hsz hL _
 have hval : ∀ (j : Nat) t v, Tryd.f8.params[j]? = some t → args[j]? = some v → Value.okWide Tryd.prog W .any base t v := hval0
 have hW' := hW
 obtain ⟨p, q, hA0, hV, rfl, hfz, hnd⟩ := hW
 have hlt := hW'.lt
 have hA : DataW.TrodAll enc Tryd.prog W 0 (fun _ => true) true Tryd.f8.params.toList args.toList ds p := hA0
 rw [Tryd.params8] at hA hval
 obtain ⟨v0, v1, v2, v3, v4, d0, d1, d2, d3, d4, p0, p1, p2, p3, p4, rfl, rfl, rfl, h0, h1, h2, h3, h4⟩ := trodAll_five hA
 obtain ⟨rfl, rfl⟩ := trodVars_none hV
 obtain ⟨A0, n0, c0, ms0, rfl, hc0, hm0, hx0⟩ := masses_open Tryd.underlying59 Tryd.underlying26 rfl rfl (by kernel_rfl) Tryd.underlying24 (by kernel_rfl) (by kernel_rfl) Tryd.underlying4 Tryd.underlying22 Tryd.underlying58 (by kernel_rfl) Tryd.underlying3 (hval 0 59 v0 rfl rfl) h0 (fun b off hm => hfz b off (by simp [hm])) (fun x hm => hlt x (by simp [hm]))
 obtain ⟨z1, rfl, rfl, rfl, hz1⟩ := open_int Tryd.underlying3 (hval 1 3 v1 rfl rfl) h1
 obtain ⟨z2, rfl, rfl, rfl, hz2⟩ := open_int Tryd.underlying3 (hval 2 3 v2 rfl rfl) h2
 obtain ⟨A3, n3, c3, xs3, rfl, hc3, hx3⟩ := ints_open Tryd.underlying60 Tryd.underlying3 (by kernel_rfl) (hval 3 60 v3 rfl rfl) h3 (fun b off hm => hfz b off (by simp [hm])) (fun x hm => hlt x (by simp [hm]))
 obtain ⟨A4, n4, c4, xs4, rfl, hc4, hx4⟩ := ints_open Tryd.underlying60 Tryd.underlying3 (by kernel_rfl) (hval 4 60 v4 rfl rfl) h4 (fun b off hm => hfz b off (by simp [hm])) (fun x hm => hlt x (by simp [hm]))
 exact (Ma.keeps_walk W A0 n0 c0 ms0 hx0 z1 hz1 z2 hz2 A3 n3 c3 xs3 hx3 A4 n4 c4 xs4 hx4 (Dy.tab_of_laid hL)).mono fun e W' ⟨he, hb⟩ => ⟨_, he, law_post hW' rfl Tryd.laidOut (by kernel_rfl) (tb := 4) (by kernel_rfl) Tryd.underlying4 rfl rfl rfl hb⟩
theorem pushKeeps_row : Rows.PushKeepsSaid :=
 OpenClaim.holds_of_wide 8 Tryd.f8 rfl rfl rfl rfl rfl rfl rfl ⟨rfl, rfl, rfl, rfl, rfl⟩ rfl rfl rfl rfl rfl (by kernel_rfl) Tryd.func8 (by kernel_rfl)
  (of_decide_eq_true (by kernel_rfl)) (by unfold Func.isWrapper; first | (rw [if_pos (by decide +kernel)]; kernel_rfl) | (rw [if_neg (by decide +kernel)]; exact ⟨rfl, rfl⟩))
  (fun os started H enc _ => pushKeeps_lifted os started H enc)
theorem pushKeeps_holds : Rows.PushKeepsCardSaid :=
 Claim7.holds_tied_plain_at .later [] [.data] true Rows.pushKeepsCard.stood.harness false
  pushKeeps_row (fun _ h => by cases h) (by kernel_rfl) (fun _ h => by cases h) pushKeeps_row_tie rfl ⟨rfl, rfl⟩ (by kernel_rfl) rfl
  (fun f fn hf hfn => by
   obtain rfl : f = 8 := Option.some.inj ((show Tryd.prog.funcNamed "headcount/headcountlaw15.PushKeeps" = some 8 by kernel_rfl).symm.trans hf) |>.symm
   obtain rfl : fn = Tryd.f8 := (Option.some.inj (Tryd.func8.symm.trans hfn)).symm
   exact ⟨by kernel_rfl, fun j t ht => by
    rw [Tryd.params8] at ht
    have hm : t ∈ [59, 3, 3, 60, 60] := by simpa using Array.mem_of_getElem? ht
    have hall : ([59, 3, 3, 60, 60].all fun u => !Tryd.prog.wantsStandIn u) = true := by kernel_rfl
    exact (show Tryd.prog.wantsStandIn t = false by simpa using List.all_eq_true.1 hall t hm)⟩)
  (by kernel_rfl)
#print axioms pushKeeps_holds
end Go.Proofs.YtbbnbgllgomolaaDoor