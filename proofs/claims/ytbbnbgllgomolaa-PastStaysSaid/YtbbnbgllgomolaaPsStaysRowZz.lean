/- The statement PastStays is proved, tied to the program's text: for every input the law answers true and leaves it as it was. No conditions. -/
import Derived.Test.YtbbnbgllgomolaaRows
import Derived.Test.YtbbnbgllgomolaaBz13
import Derived.Test.YtbbnbgllgomolaaBz14
import Derived.Test.YtbbnbgllgomolaaBz08
namespace Go.Proofs.Ytbbnbgllgomolaa
open Go.ChangeShapes Go.WideShapes Go.ChangeAt Go.RowKit
theorem pastStays_laidOut : laidOutB Try.prog = true := by kernel_rfl
theorem pastStays_ownKnob : ownKnob Try.prog.godebug = none := by kernel_rfl
set_option maxRecDepth 100000 in
theorem pastStays_lifted (os : Os) (started : os.Started) (H : Type) (enc : TypeId × Value → H) :
  ReturnsInHanded {} Try.checked os 7 .any (Rows.pastStaysSpec.pre6 enc Try.prog Try.f7 Rows.pastStaysRow.domain false) (Rows.pastStaysSpec.post enc Try.prog Try.f7 false true false false) := by
 refine returnsInHanded_of_change (C := Try.checked) pastStays_ownKnob started (by kernel_rfl) Try.func7
  (ChangeSpec.witness6 (enc := enc) (C := Try.checked) false ⟨#[], #[.slice none 0 0, .slice none 0 0, .slice none 0 0, .int .i64 0], []⟩ 8 (by kernel_rfl) (by kernel_rfl) (by kernel_rfl) (by kernel_rfl)) ?_
 intro W base args ds gs before hval0 hW _ _
 have hval : ∀ (j : Nat) t v, Try.f7.params[j]? = some t → args[j]? = some v → Value.okWide Try.prog W .any base t v := hval0
 have hW' := hW
 obtain ⟨pp, qq, hA0, hV, rfl, hfz, hnd⟩ := hW
 have hlt := hW'.lt
 have hA : DataW.TrodAll enc Try.prog W 0 (fun _ => true) true Try.f7.params.toList args.toList ds pp := hA0
 rw [Try.params7] at hA hval
 obtain ⟨v0, v1, v2, v3, d0, d1, d2, d3, pl0, pl1, pl2, pl3, rfl, rfl, rfl, h0, h1, h2, h3⟩ := trodAll_four hA
 obtain ⟨rfl, rfl⟩ := trodVars_none hV
 obtain ⟨A0, n0, c0, fs0, rfl, hc0, hm0, hx0, hp0⟩ := frozens_openC (hval 0 22 v0 rfl rfl) h0 (fun b off hm => hfz b off (by simp [hm])) (fun x hm => hlt x (by simp [hm]))
 obtain ⟨A1, n1, c1, xs1, rfl, hc1, hx1⟩ := ints_open Try.underlying72 Try.underlying3 (by kernel_rfl) (hval 1 72 v1 rfl rfl) h1 (fun b off hm => hfz b off (by simp [hm])) (fun x hm => hlt x (by simp [hm]))
 obtain ⟨A2, n2, c2, ps2, rfl, hc2, hm2, hx2⟩ := parts_open (hval 2 73 v2 rfl rfl) h2 (fun b off hm => hfz b off (by simp [hm])) (fun x hm => hlt x (by simp [hm]))
 obtain ⟨z3, rfl, rfl, rfl, hz3⟩ := open_int Try.underlying3 (hval 3 3 v3 rfl rfl) h3
 exact (Ma.pstays_walk W A0 n0 c0 fs0 hx0 hc0 hm0 hp0 A1 n1 c1 xs1 hx1 A2 n2 c2 ps2 hx2 z3).mono fun e W' ⟨he, hb⟩ => ⟨_, he, law_post hW' rfl pastStays_laidOut (by kernel_rfl) (tb := 4) (by kernel_rfl) Try.underlying4 rfl rfl rfl hb⟩
theorem pastStays_holds : Rows.PastStaysSaid :=
 OpenClaim.holds_of_wide 7 Try.f7 rfl rfl rfl rfl rfl rfl rfl ⟨rfl, rfl, rfl, rfl, rfl⟩ rfl rfl rfl rfl rfl (by kernel_rfl) Try.func7 (by kernel_rfl)
  (of_decide_eq_true (by kernel_rfl)) (by unfold Func.isWrapper; first | (rw [if_pos (by decide +kernel)]; kernel_rfl) | (rw [if_neg (by decide +kernel)]; exact ⟨rfl, rfl⟩))
  (fun os started H enc _ => pastStays_lifted os started H enc)
#print axioms pastStays_holds
end Go.Proofs.Ytbbnbgllgomolaa