/- The statement LeastFewest is proved: for every input the law answers true and leaves it as it was. No conditions. -/
import Derived.Test.YtpmhnheimaimmaaLeastFrame
import Derived.Test.YtpmhnheimaimmaaLeastFewest
namespace Go.Proofs.Ytpmhnheimaimmaa
open Go.ChangeShapes Go.WideShapes Go.ChangeAt Go.RowKit

theorem leastFewest_walk (W : World) (A : Option Addr) (n c : Nat) (xs : List Int) (h : Ints W 0 W.heap.size .u32 A n xs) (hc : n ≤ c) (B : Option Addr) (m d : Nat) (ys : List Int) (h2 : Ints W 0 W.heap.size .u32 B m ys) (hd : m ≤ d) :
    Calls Try.prog 5 #[.slice A n c, .slice B m d] W fun e W' => e = .returned (.bool true) ∧ Below W.heap.size W W' := by
  by_cases hl : 70 < n ∨ 70 < m
  · exact Least.Fewest_long W 0 _ 0 _ A n c xs h B m d ys h2 hl
  · have hn : n ≤ 70 := by omega
    have hm : m ≤ 70 := by omega
    by_cases h0 : (if Least.checkCode xs = 0 then Least.checkCode ys else Least.checkCode xs) = 0
    · have hx : Least.checkCode xs = 0 := by
        by_cases e : Least.checkCode xs = 0
        · exact e
        · rw [if_neg e] at h0; exact h0
      rw [if_pos hx] at h0
      exact Least.Fewest_ok W 0 _ 0 _ A n c xs h B m d ys h2 (Nat.le_refl _) (Nat.le_refl _) hn hm hc hd hx h0
    · exact Least.Fewest_bad W 0 _ 0 _ A n c xs h B m d ys h2 (Nat.le_refl _) (Nat.le_refl _) hn hm _ rfl h0

set_option maxRecDepth 100000 in
theorem leastFewest_lifted (os : Os) (started : os.Started) (H : Type) (enc : TypeId × Value → H) :
    ReturnsInHanded {} Try.checked os 5 .any (Rows.leastFewestSpec.pre6 enc Try.prog Try.f5 Rows.leastFewestRow.domain false) (Rows.leastFewestSpec.post enc Try.prog Try.f5 false true false false) := by
  refine returnsInHanded_of_change (C := Try.checked) Try.own started (by kernel_rfl) Try.func5
    (ChangeSpec.witness6 (enc := enc) (C := Try.checked) false ⟨#[], #[.slice none 0 0, .slice none 0 0], []⟩ 8 (by kernel_rfl) (by kernel_rfl) (by kernel_rfl) (by kernel_rfl)) ?_
  intro W base args ds gs before hval0 hW _ _
  have hval : ∀ (j : Nat) t v, Try.f5.params[j]? = some t → args[j]? = some v → Value.okWide Try.prog W .any base t v := hval0
  have hW' := hW
  obtain ⟨p, q, hA0, hV, rfl, hfz, hnd⟩ := hW
  have hlt := hW'.lt
  have hA : DataW.TrodAll enc Try.prog W 0 (fun _ => true) true Try.f5.params.toList args.toList ds p := hA0
  rw [Try.params5] at hA hval
  obtain ⟨v0, v1, d0, d1, p0, p1, rfl, rfl, rfl, h0, h1⟩ := trodAll_two hA
  obtain ⟨rfl, rfl⟩ := trodVars_none hV
  obtain ⟨A0, n0, c0, xs0, rfl, hc0, hx0⟩ := ints_open Try.underlying22 Try.underlying35 Try.cellsU32 (hval 0 22 v0 rfl rfl) h0 (fun b off hm => hfz b off (by simp [hm])) (fun x hm => hlt x (by simp [hm]))
  obtain ⟨A1, n1, c1, xs1, rfl, hc1, hx1⟩ := ints_open Try.underlying22 Try.underlying35 Try.cellsU32 (hval 1 22 v1 rfl rfl) h1 (fun b off hm => hfz b off (by simp [hm])) (fun x hm => hlt x (by simp [hm]))
  exact (leastFewest_walk W A0 n0 c0 xs0 hx0 hc0 A1 n1 c1 xs1 hx1 hc1).mono fun e W' ⟨he, hb⟩ => ⟨_, he, law_post hW' rfl Try.laidOut (by kernel_rfl) (tb := 4) (by kernel_rfl) Try.underlying4 rfl rfl rfl hb⟩

theorem leastFewest_holds : Rows.LeastFewestSaid :=
  OpenClaim.holds_of_wide 5 Try.f5 rfl rfl rfl rfl rfl rfl rfl ⟨rfl, rfl, rfl, rfl, rfl⟩ rfl rfl rfl rfl rfl (by kernel_rfl) Try.func5 (by kernel_rfl)
    (of_decide_eq_true (by kernel_rfl)) (by unfold Func.isWrapper; first | (rw [if_pos (by decide +kernel)]; kernel_rfl) | (rw [if_neg (by decide +kernel)]; exact ⟨rfl, rfl⟩))
    (fun os started H enc _ => leastFewest_lifted os started H enc)
#print axioms leastFewest_holds
end Go.Proofs.Ytpmhnheimaimmaa
