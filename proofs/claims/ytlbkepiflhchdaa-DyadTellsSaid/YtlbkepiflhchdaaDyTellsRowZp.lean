/- The statement DyadTells is proved, tied to the program's text: for every input the law answers true and leaves it as it was. No conditions. -/
import Derived.Test.YtlbkepiflhchdaaRows
import Derived.Test.YtlbkepiflhchdaaBp07
namespace Go.Proofs.Ytlbkepiflhchdaa
open Go.ChangeShapes Go.WideShapes Go.ChangeAt Go.RowKit
theorem dyadTells_laidOut : laidOutB Try.prog = true := by kernel_rfl
theorem dyadTells_ownKnob : ownKnob Try.prog.godebug = none := by kernel_rfl
set_option maxRecDepth 100000 in
theorem dyadTells_lifted (os : Os) (started : os.Started) (H : Type) (enc : TypeId × Value → H) :
    ReturnsInHanded {} Try.checked os 3 .any (Rows.dyadTellsSpec.pre6 enc Try.prog Try.f3 Rows.dyadTellsRow.domain false) (Rows.dyadTellsSpec.post enc Try.prog Try.f3 false true false false) := by
  refine returnsInHanded_of_change (C := Try.checked) dyadTells_ownKnob started (by kernel_rfl) Try.func3
    (ChangeSpec.witness6 (enc := enc) (C := Try.checked) false ⟨#[], #[.agg #[.bool false, .slice none 0 0, .int .i64 0], .agg #[.bool false, .slice none 0 0, .int .i64 0], .int .i64 0], []⟩ 8 (by kernel_rfl) (by kernel_rfl) (by kernel_rfl) (by kernel_rfl)) ?_
  intro W base args ds gs before hval0 hW _ _
  have hval : ∀ (j : Nat) t v, Try.f3.params[j]? = some t → args[j]? = some v → Value.okWide Try.prog W .any base t v := hval0
  have hW' := hW
  obtain ⟨p, q, hA0, hV, rfl, hfz, hnd⟩ := hW
  have hlt := hW'.lt
  have hA : DataW.TrodAll enc Try.prog W 0 (fun _ => true) true Try.f3.params.toList args.toList ds p := hA0
  rw [Try.params3] at hA hval
  obtain ⟨v0, v1, v2, d0, d1, d2, p0, p1, p2, rfl, rfl, rfl, h0, h1, h2⟩ := trodAll_three hA
  obtain ⟨rfl, rfl⟩ := trodVars_none hV
  obtain ⟨s0, A0, n0, c0, xs0, e0, rfl, hc0, hz0, hx0⟩ := dyad_open Try.underlying24 (by kernel_rfl) (by kernel_rfl) Try.underlying4 Try.underlying22 Try.underlying41 (by kernel_rfl) Try.underlying3 (hval 0 24 v0 rfl rfl) h0 (fun b off hm => hfz b off (by simp [hm])) (fun x hm => hlt x (by simp [hm]))
  obtain ⟨s1, A1, n1, c1, xs1, e1, rfl, hc1, hz1, hx1⟩ := dyad_open Try.underlying24 (by kernel_rfl) (by kernel_rfl) Try.underlying4 Try.underlying22 Try.underlying41 (by kernel_rfl) Try.underlying3 (hval 1 24 v1 rfl rfl) h1 (fun b off hm => hfz b off (by simp [hm])) (fun x hm => hlt x (by simp [hm]))
  obtain ⟨z2, rfl, rfl, rfl, hz2⟩ := open_int Try.underlying2 (hval 2 2 v2 rfl rfl) h2
  exact (Dy.tells02_row W s0 A0 n0 c0 xs0 e0 hx0 s1 A1 n1 c1 xs1 e1 hx1 z2 hz2).mono fun e W' ⟨he, hb⟩ => ⟨_, he, law_post hW' rfl dyadTells_laidOut (by kernel_rfl) (tb := 4) (by kernel_rfl) Try.underlying4 rfl rfl rfl hb⟩
theorem dyadTells_holds : Rows.DyadTellsSaid :=
  OpenClaim.holds_of_wide 3 Try.f3 rfl rfl rfl rfl rfl rfl rfl ⟨rfl, rfl, rfl, rfl, rfl⟩ rfl rfl rfl rfl rfl (by kernel_rfl) Try.func3 (by kernel_rfl)
    (of_decide_eq_true (by kernel_rfl)) (by unfold Func.isWrapper; first | (rw [if_pos (by decide +kernel)]; kernel_rfl) | (rw [if_neg (by decide +kernel)]; exact ⟨rfl, rfl⟩))
    (fun os started H enc _ => dyadTells_lifted os started H enc)
#print axioms dyadTells_holds
end Go.Proofs.Ytlbkepiflhchdaa
