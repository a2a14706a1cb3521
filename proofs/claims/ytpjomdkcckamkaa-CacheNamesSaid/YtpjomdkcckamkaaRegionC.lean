/- RegionE: ways that meet: what stands where they meet is said once, and walked once. No program in sight. -/
import Derived.Test.YtpjomdkcckamkaaRegionE2
namespace Go.Proofs.Ytpjomdkcckamkaa
open Go.RowKit
section
variable {P : Program} {os : List Oper} {Q : Exit → Act → World → Prop} {md : Region.Mode} {S : World → Prop} {E : List Nat} {B : Act → World → Prop} {Lf : Array Bool} {m : Nat}
/-- A way that may end where B stands and Lf is listed. -/
def wpAnyC (B : Act → World → Prop) (Lf : Array Bool) (m : Nat) (P : Program) (md : Region.Mode) (ops : Array Oper) (Q : Exit → Act → World → Prop) (S : World → Prop) (E : List Nat) (n : Nat) (L : Array Bool) (a : Act) (w : World) : Prop :=
  (∀ a' w', B a' w' → wpAnyE P md ops Q S E m Lf a' w') → wpAnyE P md ops Q S E n L a w
theorem E_of_C {ops : Array Oper} (B : Act → Act → World → Prop) (Lf : Array Bool) (m : Nat) {k : Nat} {L : Array Bool} {a : Act} {w : World} (h : ∀ a' w', B a a' w' → wpAnyE P md ops Q S E m Lf a' w')
    (hg : wpAnyC (B a) Lf m P md ops Q S E k L a w) : wpAnyE P md ops Q S E k L a w := hg h
theorem leafC {ops : Array Oper} {a : Act} {w : World} (h : B a w) : wpAnyC B Lf m P md ops Q S E m Lf a w := fun hl => hl a w h
theorem pureC {i n : Nat} {oi : Oper} {v : Value} {listed L : Array Bool} {a : Act} {w : World} (hi : os[i]? = some oi) (hL : listed.setIfInBounds i true = L)
    (hs : Region.noSelect os.toArray = true) (hf : Region.free md os.toArray listed i = true) (hr : (Region.ready md os.toArray listed).contains i = true)
    (hQ : ∀ c a w, Q (.panic c) (a.put oi.dst v) w → Q (.panic c) a w) (hw : Region.wanted oi (yielded os.toArray a.tmps) = true) (hy : ∀ w, (execOp a.eval oi).run P w = .ok (.value v) w)
    (h : wpAnyC B Lf m P md os.toArray Q S E n L (a.put oi.dst v) w) : wpAnyC B Lf m P md os.toArray Q S E (n + 1) listed a w := fun hl => pureE hi hL hs hf hr hQ hw hy (h hl)
theorem zC (i : Nat) (L : Array Bool) (v : Value) {n : Nat} {oi : Oper} {listed : Array Bool} {a : Act} {w : World} (hi : os[i]? = some oi) (hy : ∀ w, (execOp a.eval oi).run P w = .ok (.value v) w)
    (h : wpAnyC B Lf m P md os.toArray Q S E n L (a.put oi.dst v) w) (hL : listed.setIfInBounds i true = L := by rfl)
    (hs : Region.noSelect os.toArray = true := by kernel_rfl) (hf : Region.free md os.toArray listed i = true := by kernel_rfl) (hr : (Region.ready md os.toArray listed).contains i = true := by kernel_rfl)
    (hQ : ∀ c a w, Q (.panic c) (a.put oi.dst v) w → Q (.panic c) a w := by exact fun _ _ _ h => h) (hw : Region.wanted oi (yielded os.toArray a.tmps) = true := by rfl) : wpAnyC B Lf m P md os.toArray Q S E (n + 1) listed a w := pureC hi hL hs hf hr hQ hw hy h
theorem stepC {i n : Nat} {oi : Oper} {listed L : Array Bool} {a : Act} {w : World} (hi : os[i]? = some oi) (hL : listed.setIfInBounds i true = L)
    (hr : Region.ready md os.toArray listed = [i]) (hw : Region.wanted oi (yielded os.toArray a.tmps) = true)
    (h : ∀ K' : Act → World → Prop, Shut (∀ a w', ((E.contains i = false → S w → S w') ∧ wpAnyC B Lf m P md os.toArray Q S E n L a w') → K' a w') → Oper.wp P oi a w K' Q) :
    wpAnyC B Lf m P md os.toArray Q S E (n + 1) listed a w := fun hl => stepK hi hL hr hw fun K' hK => h K' fun a w' hh => hK a w' ⟨hh.1, hh.2 hl⟩
theorem stepC2 {i j n : Nat} {oi oj : Oper} {listed Li Lj : Array Bool} {a : Act} {w : World} (hi : os[i]? = some oi) (hj : os[j]? = some oj) (hLi : listed.setIfInBounds i true = Li) (hLj : listed.setIfInBounds j true = Lj)
    (hr : Region.ready md os.toArray listed = [i, j]) (hwi : Region.wanted oi (yielded os.toArray a.tmps) = true) (hwj : Region.wanted oj (yielded os.toArray a.tmps) = true)
    (h : ∀ K' : Act → World → Prop, Shut (∀ a w', ((E.contains i = false → S w → S w') ∧ wpAnyC B Lf m P md os.toArray Q S E n Li a w') → K' a w') → Oper.wp P oi a w K' Q)
    (h' : ∀ K' : Act → World → Prop, Shut (∀ a w', ((E.contains j = false → S w → S w') ∧ wpAnyC B Lf m P md os.toArray Q S E n Lj a w') → K' a w') → Oper.wp P oj a w K' Q) :
    wpAnyC B Lf m P md os.toArray Q S E (n + 1) listed a w := fun hl => stepK2 hi hj hLi hLj hr hwi hwj (fun K' hK => h K' fun a w' hh => hK a w' ⟨hh.1, hh.2 hl⟩) (fun K' hK => h' K' fun a w' hh => hK a w' ⟨hh.1, hh.2 hl⟩)
theorem stepC3 {i j k n : Nat} {oi oj ok : Oper} {listed Li Lj Lk : Array Bool} {a : Act} {w : World} (hi : os[i]? = some oi) (hj : os[j]? = some oj) (hk : os[k]? = some ok) (hLi : listed.setIfInBounds i true = Li) (hLj : listed.setIfInBounds j true = Lj) (hLk : listed.setIfInBounds k true = Lk)
    (hr : Region.ready md os.toArray listed = [i, j, k]) (hwi : Region.wanted oi (yielded os.toArray a.tmps) = true) (hwj : Region.wanted oj (yielded os.toArray a.tmps) = true) (hwk : Region.wanted ok (yielded os.toArray a.tmps) = true)
    (h : ∀ K' : Act → World → Prop, Shut (∀ a w', ((E.contains i = false → S w → S w') ∧ wpAnyC B Lf m P md os.toArray Q S E n Li a w') → K' a w') → Oper.wp P oi a w K' Q)
    (h' : ∀ K' : Act → World → Prop, Shut (∀ a w', ((E.contains j = false → S w → S w') ∧ wpAnyC B Lf m P md os.toArray Q S E n Lj a w') → K' a w') → Oper.wp P oj a w K' Q)
    (h'' : ∀ K' : Act → World → Prop, Shut (∀ a w', ((E.contains k = false → S w → S w') ∧ wpAnyC B Lf m P md os.toArray Q S E n Lk a w') → K' a w') → Oper.wp P ok a w K' Q) :
    wpAnyC B Lf m P md os.toArray Q S E (n + 1) listed a w := fun hl => stepK3 hi hj hk hLi hLj hLk hr hwi hwj hwk (fun K' hK => h K' fun a w' hh => hK a w' ⟨hh.1, hh.2 hl⟩) (fun K' hK => h' K' fun a w' hh => hK a w' ⟨hh.1, hh.2 hl⟩) (fun K' hK => h'' K' fun a w' hh => hK a w' ⟨hh.1, hh.2 hl⟩)
end
end Go.Proofs.Ytpjomdkcckamkaa
