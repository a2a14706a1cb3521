/- Twins of parts tell the same: plain laws. -/
import Derived.Test.YtmbppgjhdcmckaaGreatDoorQgB
namespace Go.Proofs.YtmbppgjhdcmckaaGreatDoor
open Go.RowKit
namespace Ma
open Dp Dy
theorem small_partQ {w : World} {lo hi : Nat} {p : Pv} (hR : PRows w lo hi p) (h : greatP p = false) : (∀ x, x < 4 → (p.M.get x).n ≤ 1000000) ∧ p.n ≤ 1000000 := by
  unfold greatP at h
  rw [Bool.or_eq_false_iff] at h
  have h2 := h.2
  simp only [decide_eq_false_iff_not] at h2
  refine ⟨fun x hx => ?_, by omega⟩
  have k1 := (great_not h.1 x hx).1
  have k2 := (hR.M.get x).len
  omega
theorem small_dv {w : World} {lo hi : Nat} {d : Dv} (hR : DRow w lo hi d) (h : greatV d = false) : d.n ≤ 1000000 := by
  have h1 := hR.len
  unfold greatV at h
  simp [Pa.Dy.great] at h
  omega
theorem twinP_sameQ {p q : Pv} (h : TwinP p q) : sameP q p = true := by
  unfold sameP sameE
  rw [twin_same h.1, h.2.1, h.2.2.1, h.2.2.2.1, h.2.2.2.2.2, Pa.Sm_refl]
  simp
theorem may_twin {p q : Pv} (h : TwinP p q) : mayP q = mayP p := by
  have hs : ∀ {a b : Pv}, TwinP a b → a.M.share → b.M.share := fun {a b} h hs => by
    obtain ⟨s0, s1, s2⟩ := hs
    have w1 := h.1 1 (by decide)
    have w0 := h.1 0 (by decide)
    refine ⟨fun x hx => ?_, ?_, ?_⟩
    · have hm := s0 x hx
      obtain ⟨a1, a2, a3, a4, _⟩ := h.1 x hx
      unfold Dv.may at hm ⊢
      rw [a1, a3, a4]
      exact hm
    · exact w1.1.trans s1
    · intro h0
      exact w0.2.1.trans (s2 (w1.2.1.symm.trans h0))
  have hb : badS [q.M] = badS [p.M] := by
    by_cases hp : p.M.share
    · rw [badS_one.2 hp, badS_one.2 (hs h hp)]
    · have hq : ¬ q.M.share := fun hq => by
        obtain ⟨s0, s1, s2⟩ := hq
        have w1 := h.1 1 (by decide)
        have w0 := h.1 0 (by decide)
        refine hp ⟨fun x hx => ?_, ?_, ?_⟩
        · have hm := s0 x hx
          obtain ⟨a1, a2, a3, a4, _⟩ := h.1 x hx
          unfold Dv.may at hm ⊢
          rw [a1, a3, a4] at hm
          exact hm
        · exact w1.1.symm.trans s1
        · intro h0
          exact w0.2.1.symm.trans (s2 (w1.2.1.trans h0))
      have e1 : badS [p.M] = true := by
        cases e : badS [p.M]
        · exact absurd (badS_one.1 e) hp
        · rfl
      have e2 : badS [q.M] = true := by
        cases e : badS [q.M]
        · exact absurd (badS_one.1 e) hq
        · rfl
      rw [e1, e2]
  unfold mayP
  rw [hb, h.2.1, h.2.2.1, h.2.2.2.1, h.2.2.2.2.2]
theorem above_twin {d d' : Dv} (h : TwinV d d') : aboveV d' = aboveV d := by
  unfold aboveV
  rw [h.1, h.2.1]
theorem parts_twin {a a' b b' : Dv} (h : TwinV a a') (k : TwinV b b') (n : Int) : partsX a' b' n = partsX a b n := by
  unfold partsX
  rw [above_twin k, h.1, h.2.2.1, h.2.2.2.1, k.1, k.2.2.1, k.2.2.2.1]
theorem count_twin {a a' : Dv} (h : TwinV a a') : countX a' = countX a := by
  unfold countX
  rw [above_twin h, h.1, h.2.2.1, h.2.2.2.1]
theorem twinV_refl (d : Dv) (h : d.n ≤ d.c) : TwinV d d := ⟨rfl, rfl, rfl, rfl, h⟩
theorem askQ_twin {p q : Pv} (h : TwinP p q) (kind k : Int) : askQ q kind k = askQ p kind k := by
  have h0 := h.1 0 (by decide)
  have h1 := h.1 1 (by decide)
  have h2 := h.1 2 (by decide)
  have h3 := h.1 3 (by decide)
  simp only [Mv.get] at h0 h1 h2 h3
  unfold askQ
  rw [may_twin h]
  congr 2
  unfold kindX
  rw [count_twin h2, parts_twin h3 h2, parts_twin h0 h1, h.2.1, h.2.2.1, h.2.2.2.1, h.2.2.2.2.2]
  have he : evenX q.M k = evenX p.M k := by
    unfold evenX
    rw [above_twin h1, parts_twin h3 (twinV_refl _ (Nat.le_refl _))]
  rw [he]
theorem toX_mayQ {s1 : Bool} {xs1 : List Int} {e1 : Int} {s2 : Bool} {xs2 : List Int} {e2 k : Int} {away : Bool} : (toX s1 xs1 e1 s2 xs2 e2 k away).1.May := toX_may (x := (toX s1 xs1 e1 s2 xs2 e2 k away).1) (c := (toX s1 xs1 e1 s2 xs2 e2 k away).2) rfl
theorem parts_mayQ {a b : Dv} {k : Int} {x y : Dn} {c : Int} (h : partsX a b k = (x, y, c)) : x.May ∧ y.May := by
  unfold partsX at h
  split at h
  · injection h with h1 h2
    injection h2 with h2 h3
    subst h1 h2
    exact ⟨zero_may, zero_may⟩
  · split at h
    · injection h with h1 h2
      injection h2 with h2 h3
      subst h1 h2
      exact ⟨zero_may, zero_may⟩
    · split at h
      · injection h with h1 h2
        injection h2 with h2 h3
        subst h1 h2
        exact ⟨zero_may, zero_may⟩
      · injection h with h1 h2
        injection h2 with h2 h3
        subst h1 h2
        exact ⟨toX_mayQ, toX_mayQ⟩
/-- What is told may be. -/
theorem ask_mayQ {p : Pv} {kind k : Int} {x y : Dn} {c : Int} (h : askQ p kind k = (x, y, c)) : x.May ∧ y.May := by
  have z : ∀ {c' : Int}, ((Dn.zero, Dn.zero, c') : Dn × Dn × Int) = (x, y, c) → x.May ∧ y.May := fun h => by
    injection h with h1 h2
    injection h2 with h2 h3
    subst h1 h2
    exact ⟨zero_may, zero_may⟩
  unfold askQ at h
  split at h
  · exact z h
  · rename_i hm
    obtain ⟨e1, e2, e3⟩ := mayP_ends (p := p) (by simpa using hm)
    split at h
    · exact z h
    · unfold kindX at h
      split at h
      · unfold countX at h
        split at h
        · exact z h
        · split at h
          · injection h with h1 h2
            injection h2 with h2 h3
            subst h1 h2
            have hm := nearX_may (x := (nearX false (canon 4294967296 1) 0 p.M.C.s p.M.C.xs p.M.C.e).1) (c := (nearX false (canon 4294967296 1) 0 p.M.C.s p.M.C.xs p.M.C.e).2) rfl
            exact ⟨hm, hm⟩
          · exact z h
      · split at h
        · exact parts_mayQ h
        · split at h
          · exact parts_mayQ h
          · split at h
            · unfold evenX at h
              split at h
              · exact z h
              · exact parts_mayQ h
            · split at h
              · unfold endsX at h
                split at h
                · exact z h
                · injection h with h1 h2
                  injection h2 with h2 h3
                  subst h1 h2
                  exact ⟨whole_may e1.1 e1.2, whole_may e2.1 e2.2⟩
              · split at h
                · unfold guessX at h
                  split at h
                  · exact z h
                  · injection h with h1 h2
                    injection h2 with h2 h3
                    subst h1 h2
                    exact ⟨half_may _, half_may _⟩
                · exact z h
theorem prows_spoilt {w w' : World} {lo hi l h : Nat} {p : Pv} (hI : PRows w l h p) (hb : Below lo w w') (hf : From hi w w') (hs : h ≤ w.heap.size) (hd : h ≤ lo ∨ hi ≤ l) : PRows w' l h p :=
  ⟨rows_spoilt hI.M hb hf hs hd, ints_spoilt hI.L hb hf hs hd⟩
end Ma
end Go.Proofs.YtmbppgjhdcmckaaGreatDoor
