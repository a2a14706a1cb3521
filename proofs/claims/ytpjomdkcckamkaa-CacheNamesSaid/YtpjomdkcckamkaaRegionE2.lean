/- RegionE: three operations may come up; and small laws about boxes and rows in one's own range. No program in sight. -/
import Derived.Test.YtpjomdkcckamkaaRegionE
namespace Go.Proofs.Ytpjomdkcckamkaa
open Go.RowKit
section
variable {P : Program} {os : List Oper} {Q : Exit → Act → World → Prop} {md : Region.Mode} {S : World → Prop} {E : List Nat}
/-- Three may come up: whichever. -/
theorem stepK3 {i j k n : Nat} {oi oj ok : Oper} {listed Li Lj Lk : Array Bool} {a : Act} {w : World} (hi : os[i]? = some oi) (hj : os[j]? = some oj) (hk : os[k]? = some ok) (hLi : listed.setIfInBounds i true = Li) (hLj : listed.setIfInBounds j true = Lj) (hLk : listed.setIfInBounds k true = Lk)
    (hr : Region.ready md os.toArray listed = [i, j, k]) (hwi : Region.wanted oi (yielded os.toArray a.tmps) = true) (hwj : Region.wanted oj (yielded os.toArray a.tmps) = true) (hwk : Region.wanted ok (yielded os.toArray a.tmps) = true)
    (h : ∀ K' : Act → World → Prop, Shut (∀ a w', ((E.contains i = false → S w → S w') ∧ wpAnyE P md os.toArray Q S E n Li a w') → K' a w') → Oper.wp P oi a w K' Q)
    (h' : ∀ K' : Act → World → Prop, Shut (∀ a w', ((E.contains j = false → S w → S w') ∧ wpAnyE P md os.toArray Q S E n Lj a w') → K' a w') → Oper.wp P oj a w K' Q)
    (h'' : ∀ K' : Act → World → Prop, Shut (∀ a w', ((E.contains k = false → S w → S w') ∧ wpAnyE P md os.toArray Q S E n Lk a w') → K' a w') → Oper.wp P ok a w K' Q) :
    wpAnyE P md os.toArray Q S E (n + 1) listed a w := by
  subst hLi
  subst hLj
  subst hLk
  refine ⟨fun h0 => (by rw [hr] at h0; cases h0), fun m hm => ?_⟩
  rw [hr] at hm
  simp only [List.mem_cons, List.not_mem_nil, or_false] at hm
  rcases hm with rfl | rfl | rfl
  · refine wpOp_step (by simpa using hi) (fun K' hK => ?_)
    rw [if_pos hwi]
    exact h K' hK
  · refine wpOp_step (by simpa using hj) (fun K' hK => ?_)
    rw [if_pos hwj]
    exact h' K' hK
  · refine wpOp_step (by simpa using hk) (fun K' hK => ?_)
    rw [if_pos hwk]
    exact h'' K' hK
end
end Go.Proofs.Ytpjomdkcckamkaa
