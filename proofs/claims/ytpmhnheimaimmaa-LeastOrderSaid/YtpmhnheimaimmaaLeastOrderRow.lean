/- The statement LeastOrder is proved: for every input the law answers true and leaves it as it was. No conditions. -/
import Derived.Test.YtpmhnheimaimmaaLeastFrame
import Derived.Test.YtpmhnheimaimmaaLeastOrder
namespace Go.Proofs.Ytpmhnheimaimmaa
open Go.ChangeShapes Go.WideShapes Go.ChangeAt Go.RowKit

theorem leastOrder_walk (W : World) (A : Option Addr) (n c : Nat) (xs : List Int) (h : Ints W 0 W.heap.size .u32 A n xs) (hc : n ≤ c) (B : Option Addr) (m d : Nat) (ys : List Int) (h2 : Ints W 0 W.heap.size .u32 B m ys) (hd : m ≤ d)
    (C : Option Addr) (k f : Nat) (zs : List Int) (h3 : Ints W 0 W.heap.size .u32 C k zs) (hf : k ≤ f) :
    Calls Try.prog 4 #[.slice A n c, .slice B m d, .slice C k f] W fun e W' => e = .returned (.bool true) ∧ Below W.heap.size W W' := by
  by_cases hl : 70 < n ∨ 70 < m ∨ 70 < k
  · exact Least.Order_long W 0 _ 0 _ 0 _ A n c xs h B m d ys h2 C k f zs h3 hl
  · have hn : n ≤ 70 := by omega
    have hm : m ≤ 70 := by omega
    have hk : k ≤ 70 := by omega
    by_cases h0 : Least.checkCode xs ≠ 0 ∨ Least.checkCode ys ≠ 0 ∨ Least.checkCode zs ≠ 0
    · exact Least.Order_bad W 0 _ 0 _ 0 _ A n c xs h B m d ys h2 C k f zs h3 (Nat.le_refl _) (Nat.le_refl _) (Nat.le_refl _) hn hm hk _ _ _ rfl rfl rfl h0
    · exact Least.Order_ok W 0 _ 0 _ 0 _ A n c xs h B m d ys h2 C k f zs h3 (Nat.le_refl _) (Nat.le_refl _) (Nat.le_refl _) hn hm hk hc hd hf
        (Classical.byContradiction fun e => h0 (.inl e)) (Classical.byContradiction fun e => h0 (.inr (.inl e))) (Classical.byContradiction fun e => h0 (.inr (.inr e)))

set_option maxRecDepth 100000 in
theorem leastOrder_lifted (os : Os) (started : os.Started) (H : Type) (enc : TypeId × Value → H) :
    ReturnsInHanded {} Try.checked os 4 .any (Rows.leastOrderSpec.pre6 enc Try.prog Try.f4 Rows.leastOrderRow.domain false) (Rows.leastOrderSpec.post enc Try.prog Try.f4 false true false false) := by
  refine returnsInHanded_of_change (C := Try.checked) Try.own started (by kernel_rfl) Try.func4
    (ChangeSpec.witness6 (enc := enc) (C := Try.checked) false ⟨#[], #[.slice none 0 0, .slice none 0 0, .slice none 0 0], []⟩ 8 (by kernel_rfl) (by kernel_rfl) (by kernel_rfl) (by kernel_rfl)) ?_
  intro W base args ds gs before hval0 hW _ _
  have hval : ∀ (j : Nat) t v, Try.f4.params[j]? = some t → args[j]? = some v → Value.okWide Try.prog W .any base t v := hval0
  have hW' := hW
  obtain ⟨p, q, hA0, hV, rfl, hfz, hnd⟩ := hW
  have hlt := hW'.lt
  have hA : DataW.TrodAll enc Try.prog W 0 (fun _ => true) true Try.f4.params.toList args.toList ds p := hA0
  rw [Try.params4] at hA hval
  obtain ⟨v0, v1, v2, d0, d1, d2, p0, p1, p2, rfl, rfl, rfl, h0, h1, h2⟩ := trodAll_three hA
  obtain ⟨rfl, rfl⟩ := trodVars_none hV
  obtain ⟨A0, n0, c0, xs0, rfl, hc0, hx0⟩ := ints_open Try.underlying22 Try.underlying35 Try.cellsU32 (hval 0 22 v0 rfl rfl) h0 (fun b off hm => hfz b off (by simp [hm])) (fun x hm => hlt x (by simp [hm]))
  obtain ⟨A1, n1, c1, xs1, rfl, hc1, hx1⟩ := ints_open Try.underlying22 Try.underlying35 Try.cellsU32 (hval 1 22 v1 rfl rfl) h1 (fun b off hm => hfz b off (by simp [hm])) (fun x hm => hlt x (by simp [hm]))
  obtain ⟨A2, n2, c2, xs2, rfl, hc2, hx2⟩ := ints_open Try.underlying22 Try.underlying35 Try.cellsU32 (hval 2 22 v2 rfl rfl) h2 (fun b off hm => hfz b off (by simp [hm])) (fun x hm => hlt x (by simp [hm]))
  exact (leastOrder_walk W A0 n0 c0 xs0 hx0 hc0 A1 n1 c1 xs1 hx1 hc1 A2 n2 c2 xs2 hx2 hc2).mono fun e W' ⟨he, hb⟩ => ⟨_, he, law_post hW' rfl Try.laidOut (by kernel_rfl) (tb := 4) (by kernel_rfl) Try.underlying4 rfl rfl rfl hb⟩

theorem leastOrder_holds : Rows.LeastOrderSaid :=
  OpenClaim.holds_of_wide 4 Try.f4 rfl rfl rfl rfl rfl rfl rfl ⟨rfl, rfl, rfl, rfl, rfl⟩ rfl rfl rfl rfl rfl (by kernel_rfl) Try.func4 (by kernel_rfl)
    (of_decide_eq_true (by kernel_rfl)) (by unfold Func.isWrapper; first | (rw [if_pos (by decide +kernel)]; kernel_rfl) | (rw [if_neg (by decide +kernel)]; exact ⟨rfl, rfl⟩))
    (fun os started H enc _ => leastOrder_lifted os started H enc)
#print axioms leastOrder_holds
end Go.Proofs.Ytpmhnheimaimmaa
