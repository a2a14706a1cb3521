/- DescTotal: the walk. -/
import Derived.Test.YtpjomdkcckamkaaDeLaw1
namespace Go.Proofs.Ytpjomdkcckamkaa
open Go.RowKit Go.Sort Go.Shelf
namespace De
/-- What Fresher answers. -/
def fr (a b : Int × Int) : Bool × Int := if (may a && may b) = true then (ltB a b, 0) else (false, 8)
theorem Fresher_g (w : World) (x y z u : Int) (r : Bool) (c : Int) (hr : fr (x, y) (z, u) = (r, c)) :
    Calls Try.prog 22 #[.agg #[.int .i64 x, .int .i64 y], .agg #[.int .i64 z, .int .i64 u]] w fun e w' => e = .returned (.tuple #[.bool r, .int .i64 c]) ∧ Gr w w' := by
  unfold fr at hr
  split at hr
  · rename_i h
    obtain ⟨rfl, rfl⟩ := Prod.mk.inj hr
    rw [Bool.and_eq_true] at h
    exact Fresher_ok w x y z u h.1 h.2 _ rfl
  · rename_i h
    obtain ⟨rfl, rfl⟩ := Prod.mk.inj hr
    exact Fresher_bad w x y z u (by simpa using h)
theorem Fresher_any (w : World) (x y z u : Int) (r : Bool) (c : Int) (hr : fr (x, y) (z, u) = (r, c)) :
    Calls Try.prog 22 #[.agg #[.int .i64 x, .int .i64 y], .agg #[.int .i64 z, .int .i64 u]] w fun e w' => e = .returned (.tuple #[.bool r, .int .i64 c]) ∧ Below w.heap.size w w' :=
  (Fresher_g w x y z u r c hr).mono fun _ _ ⟨he, hg⟩ => ⟨he, hg.below⟩

theorem three_boxes (w : World) (x y z : Int × Int) (t : TypeId) (w1 : World) (hb : Below (((w.alloc (.cells #[.int .i64 x.1, .int .i64 x.2] t)).alloc (.cells #[.int .i64 y.1, .int .i64 y.2] t)).alloc (.cells #[.int .i64 z.1, .int .i64 z.2] t)).heap.size
    (((w.alloc (.cells #[.int .i64 x.1, .int .i64 x.2] t)).alloc (.cells #[.int .i64 y.1, .int .i64 y.2] t)).alloc (.cells #[.int .i64 z.1, .int .i64 z.2] t)) w1) :
    ((w1.cell? ⟨w.heap.size, 0, none⟩ = some (.int .i64 x.1) ∧ w1.cell? ⟨w.heap.size, 1, none⟩ = some (.int .i64 x.2)) ∧ (w1.cell? ⟨w.heap.size + 1, 0, none⟩ = some (.int .i64 y.1) ∧ w1.cell? ⟨w.heap.size + 1, 1, none⟩ = some (.int .i64 y.2)) ∧ (w1.cell? ⟨w.heap.size + 1 + 1, 0, none⟩ = some (.int .i64 z.1) ∧ w1.cell? ⟨w.heap.size + 1 + 1, 1, none⟩ = some (.int .i64 z.2))) ∧
      w.heap.size + 2 < w1.heap.size ∧ Below w.heap.size w w1 := by
  have hs := hb.size
  simp at hs
  refine ⟨⟨⟨?_, ?_⟩, ⟨?_, ?_⟩, ⟨?_, ?_⟩⟩, by omega, ((((Below.refl w.heap.size w).alloc (Nat.le_refl _) _).alloc (by simp) _).alloc (by simp; omega) _).trans (hb.mono (by simp; omega))⟩
  all_goals
    rw [hb.cell (by simp; try omega)]
    simp [go_sem]

set_option maxHeartbeats 3200000 in
theorem total_walk (w : World) (a1 a2 b1 b2 c1 c2 : Int) (x y z u : Bool) (e f g h : Int) (he : fr (a1, a2) (b1, b2) = (x, e)) (hf : fr (b1, b2) (a1, a2) = (y, f)) (hg : fr (b1, b2) (c1, c2) = (z, g)) (hh : fr (a1, a2) (c1, c2) = (u, h))
    (q : Bool) (hq : (a1 == b1 && a2 == b2) = q)
    (hgood : (e = 8 ∧ f = 8 ∧ x = false ∧ y = false ∧ (g == 0 || g == 8) = true ∧ (h == 0 || h == 8) = true) ∨ (e = 0 ∧ f = 0 ∧ g = 8 ∧ h = 8) ∨ (e = 0 ∧ f = 0 ∧ g = 0 ∧ h = 0 ∧ ((x || y || q) && !(x && y) && (!x || !z || u)) = true)) :
    Calls Try.prog 7 #[.agg #[.int .i64 a1, .int .i64 a2], .agg #[.int .i64 b1, .int .i64 b2], .agg #[.int .i64 c1, .int .i64 c2]] w fun e w' => e = .returned (.bool true) ∧ Below w.heap.size w w' := by
  have HE := Lib.hid he
  have HF := Lib.hid hf
  have HG := Lib.hid hg
  have HH := Lib.hid hh
  have hgd := guardD
  have hql := fun W => eqlD W a1 a2 b1 b2
  rw [hq] at hql
  have HQL := Lib.hid hql
  clear he hf hg hh hq hql hgd
  have hgg := Lib.hid hgood
  clear hgood
  go_enter Try.func7, Try.ntmps7
  go_wp2_with fail
  refine (alive_any _).mono ?_
  rintro e1 w1 ⟨rfl, hb1⟩
  obtain ⟨⟨⟨k1, k2⟩, ⟨k3, k4⟩, ⟨k5, k6⟩⟩, hs1, hbb⟩ := three_boxes w (a1, a2) (b1, b2) (c1, c2) _ w1 hb1
  clear hb1
  dsimp only at k1 k2 k3 k4 k5 k6
  go_wp2_with fail
  refine (Fresher_any _ a1 a2 b1 b2 x e HE.out).mono ?_
  rintro e1 w2 ⟨rfl, hb2⟩
  have hbc := hbb.trans (hb2.mono (by omega))
  have k1 := Below.keepCell hb2 (by omega) k1
  have k2 := Below.keepCell hb2 (by omega) k2
  have k3 := Below.keepCell hb2 (by omega) k3
  have k4 := Below.keepCell hb2 (by omega) k4
  have k5 := Below.keepCell hb2 (by omega) k5
  have k6 := Below.keepCell hb2 (by omega) k6
  have hs2 := hb2.size
  clear hb2 hbb
  go_wp2_with fail
  refine (Fresher_any _ b1 b2 a1 a2 y f HF.out).mono ?_
  rintro e1 w3 ⟨rfl, hb2⟩
  have hbb := hbc.trans (hb2.mono (by omega))
  have k1 := Below.keepCell hb2 (by omega) k1
  have k2 := Below.keepCell hb2 (by omega) k2
  have k3 := Below.keepCell hb2 (by omega) k3
  have k4 := Below.keepCell hb2 (by omega) k4
  have k5 := Below.keepCell hb2 (by omega) k5
  have k6 := Below.keepCell hb2 (by omega) k6
  have hs3 := hb2.size
  clear hb2 hbc
  go_wp2_with fail
  refine (Fresher_any _ b1 b2 c1 c2 z g HG.out).mono ?_
  rintro e1 w4 ⟨rfl, hb2⟩
  have hbc := hbb.trans (hb2.mono (by omega))
  have k1 := Below.keepCell hb2 (by omega) k1
  have k2 := Below.keepCell hb2 (by omega) k2
  have k3 := Below.keepCell hb2 (by omega) k3
  have k4 := Below.keepCell hb2 (by omega) k4
  have k5 := Below.keepCell hb2 (by omega) k5
  have k6 := Below.keepCell hb2 (by omega) k6
  have hs4 := hb2.size
  clear hb2 hbb
  go_wp2_with fail
  refine (Fresher_any _ a1 a2 c1 c2 u h HH.out).mono ?_
  rintro e1 w5 ⟨rfl, hb2⟩
  have hbb := hbc.trans (hb2.mono (by omega))
  have k1 := Below.keepCell hb2 (by omega) k1
  have k2 := Below.keepCell hb2 (by omega) k2
  have k3 := Below.keepCell hb2 (by omega) k3
  have k4 := Below.keepCell hb2 (by omega) k4
  clear hb2 hbc k5 k6
  clear HE HF HG HH
  rcases hgg.out with ⟨rfl, rfl, rfl, rfl, _, _⟩ | ⟨rfl, rfl, rfl, rfl⟩ | ⟨rfl, rfl, rfl, rfl, hg⟩
  · clear hgg HQL
    go_wp2
    go_ret
    exact ⟨rfl, hbb⟩
  · clear hgg HQL
    go_wp2
    go_ret
    exact ⟨rfl, hbb⟩
  · clear hgg
    cases x <;> cases y <;> cases z <;> cases u <;> cases q <;> first
      | (exfalso; revert hg; decide)
      | (clear hg
         have hql := HQL.out
         have hgd := guardD
         clear HQL
         go_wp2
         go_ret
         exact ⟨rfl, hbb⟩)

theorem fr_code (a b : Int × Int) : ((fr a b).2 == 0 || (fr a b).2 == 8) = true := by
  unfold fr
  split <;> rfl
theorem descTotal_any (w : World) (a1 a2 b1 b2 c1 c2 : Int) :
    Calls Try.prog 7 #[.agg #[.int .i64 a1, .int .i64 a2], .agg #[.int .i64 b1, .int .i64 b2], .agg #[.int .i64 c1, .int .i64 c2]] w fun e w' => e = .returned (.bool true) ∧ Below w.heap.size w w' := by
  obtain ⟨⟨x, e⟩, he⟩ : ∃ r, fr (a1, a2) (b1, b2) = r := ⟨_, rfl⟩
  obtain ⟨⟨y, f⟩, hf⟩ : ∃ r, fr (b1, b2) (a1, a2) = r := ⟨_, rfl⟩
  obtain ⟨⟨z, g⟩, hg⟩ : ∃ r, fr (b1, b2) (c1, c2) = r := ⟨_, rfl⟩
  obtain ⟨⟨u, h⟩, hh⟩ : ∃ r, fr (a1, a2) (c1, c2) = r := ⟨_, rfl⟩
  refine total_walk w a1 a2 b1 b2 c1 c2 x y z u e f g h he hf hg hh _ rfl ?_
  by_cases ha : may (a1, a2) = true
  · by_cases hb : may (b1, b2) = true
    · by_cases hc : may (c1, c2) = true
      · refine .inr (.inr ?_)
        simp only [fr, ha, hb, hc, Bool.and_self, if_true, Prod.mk.injEq] at he hf hg hh
        obtain ⟨h1, rfl⟩ := he
        obtain ⟨h2, rfl⟩ := hf
        obtain ⟨h3, rfl⟩ := hg
        obtain ⟨h4, rfl⟩ := hh
        refine ⟨rfl, rfl, rfl, rfl, ?_⟩
        cases x <;> cases y <;> cases z <;> cases u <;> first
          | rfl
          | (have := lt_tot h1 h2; simp only [Prod.mk.injEq] at this; simp [this.1, this.2]; done)
          | (exfalso; have := lt_trans h1 h3; rw [h4] at this; cases this; done)
          | (exfalso; have := lt_trans h1 h2; rw [lt_irr] at this; cases this; done)
      · refine .inr (.inl ?_)
        simp only [fr, ha, hb, hc, Bool.and_self, Bool.and_false, if_true, if_false, Bool.false_eq_true, Prod.mk.injEq] at he hf hg hh
        exact ⟨he.2.symm, hf.2.symm, hg.2.symm, hh.2.symm⟩
    · refine .inl ?_
      have q1 := fr_code (b1, b2) (c1, c2)
      have q2 := fr_code (a1, a2) (c1, c2)
      rw [hg] at q1
      rw [hh] at q2
      simp only [fr, ha, hb, Bool.and_false, Bool.false_and, if_false, Bool.false_eq_true, Prod.mk.injEq] at he hf
      exact ⟨he.2.symm, hf.2.symm, he.1.symm, hf.1.symm, q1, q2⟩
  · refine .inl ?_
    have q1 := fr_code (b1, b2) (c1, c2)
    have q2 := fr_code (a1, a2) (c1, c2)
    rw [hg] at q1
    rw [hh] at q2
    simp only [fr, ha, Bool.and_false, Bool.false_and, if_false, Bool.false_eq_true, Prod.mk.injEq] at he hf
    exact ⟨he.2.symm, hf.2.symm, he.1.symm, hf.1.symm, q1, q2⟩
end De
end Go.Proofs.Ytpjomdkcckamkaa
