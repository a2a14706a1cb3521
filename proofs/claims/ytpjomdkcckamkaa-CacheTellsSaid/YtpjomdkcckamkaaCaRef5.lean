/- The reference's choice: one, some, and their draws: walks. -/
import Derived.Test.YtpjomdkcckamkaaCaRef4
namespace Go.Proofs.Ytpjomdkcckamkaa
open Go.RowKit Go.Sort Go.Shelf
namespace De
set_option maxHeartbeats 1600000 in
set_option maxRecDepth 100000 in
/-- headcountref09.One. -/
theorem OneR_any (w : World) (own cap : Int) (A : Option Addr) (n c : Nat) (xs : List (Int × Int)) (hX : Descs w 0 w.heap.size A n xs) (hn : n ≤ 1000) (d : Int) (hd0 : 0 ≤ d) (_ : d ≤ IntKind.u64.max) (x y r : Int) (hr : oneR own cap xs d = ((x, y), r)) :
    Calls Try.prog 50 #[.agg #[.int .i64 own, .int .i64 cap, .slice A n c], .int .u64 d] w fun e w' => e = .returned (.tuple #[.agg #[.int .i64 x, .int .i64 y], .int .i64 r]) ∧ Below w.heap.size w w' ∧ 0 < w'.heap.size := by
  have HR := Lib.hid hr
  have HL := Lib.hid hX.len
  have mixed : Try.prog.follows .mixedOrders = true := by kernel_rfl
  clear hr
  obtain ⟨u, hu⟩ : ∃ u : World, (w.alloc (.cells #[.int .i64 own, .int .i64 cap, .slice A n c] 43)).alloc (.cells #[.int .i64 0, .int .i64 0] 29) = u := ⟨_, rfl⟩
  have hbu : Below w.heap.size w u := by rw [← hu]; exact ((Below.refl _ w).alloc (Nat.le_refl _) _).alloc (by simp) _
  have hsu : w.heap.size + 2 ≤ u.heap.size := by rw [← hu]; simp
  have hC : u.heap[w.heap.size]? = some (.cells #[.int .i64 own, .int .i64 cap, .slice A n c] 43 (0, 0)) := by rw [← hu]; exact heapAlloc _ (heap_newg _ _ _ rfl)
  have hO : u.heap[w.heap.size + 1]? = some (.cells #[.int .i64 0, .int .i64 0] 29 (0, 0)) := by rw [← hu]; exact heap_newg _ _ _ (by simp)
  have hXu : Descs u 0 u.heap.size A n xs := (hX.below hbu (Nat.le_refl _)).more (Nat.le_refl _) (by omega)
  have HU := Lib.hid hu
  clear hu
  by_cases hm : mayC own cap xs = true
  · have HM := Lib.hid hm
    clear hm
    go_enter Try.func50, Try.ntmps50
    go_wp2_with fail
    rw [HU.out]
    refine (MayR_any u own cap A n c xs hXu (by omega) true HM.out).mono ?_
    rintro e w1 ⟨rfl, hb1, hp1⟩
    have hs1 := hb1.size
    have C := Below.heapOf hb1 (by omega) hC
    have O := Below.heapOf hb1 (by omega) hO
    have hc := hbu.trans (hb1.mono (by omega))
    have X := hX.below hc (Nat.le_refl _)
    obtain ⟨⟨k1, k2, k3⟩, _⟩ := cells3 C
    obtain ⟨⟨o1, o2⟩, o3, o4⟩ := cells2 O
    clear hb1 hC hO hbu hXu HU hX
    by_cases h0 : n = 0
    · subst h0
      have hz := X.zero rfl
      subst hz
      have e : ((x, y), r) = (((0 : Int), (0 : Int)), (6 : Int)) := by rw [← HR.out, oneR, if_pos HM.out, if_pos rfl]
      obtain ⟨e1, rfl⟩ := Prod.mk.inj e
      obtain ⟨rfl, rfl⟩ := Prod.mk.inj e1
      clear e e1
      go_wp2
      exact bodyPost_ret (v := .tuple #[.agg #[.int .i64 0, .int .i64 0], .int .i64 6]) (by simp [results, Try.results50, go_sem, o1, o2]) rfl ⟨rfl, by repeat (first | exact hc | (refine Below.setCell ?_ (by simp; try omega) _)), by simp [World.setCell]; omega⟩
    · have hp : 0 < n := by omega
      have hne0 : ((n : Int) == 0) = false := by simp; omega
      have hne : xs ≠ [] := fun e => by
        have := HL.out
        rw [e] at this
        simp at this
        omega
      have e : ((x, y), r) = (xs[pick n d]?.getD (0, 0), 0) := by rw [← HR.out, oneR, if_pos HM.out, if_neg hne, HL.out]
      obtain ⟨b, off, rfl, h1, h2, hcell⟩ := X.row hp
      have hpk := pick_lt hp d
      have hpe := (pick_eq hp d).symm
      obtain ⟨⟨q1, _⟩, q2, _⟩ := hcell (pick n d) hpk
      obtain ⟨e1, rfl⟩ := Prod.mk.inj e
      rw [← e1] at q1 q2
      simp only at q1 q2
      generalize pick n d = at_ at hpk hpe q1 q2
      have hat0 : (0 : Int) ≤ at_ := by omega
      have hatn : (at_ : Int) < n := by omega
      have f1 : IntKind.u64.wrap (n : Int) = n := by
        simp only [IntKind.wrap_u64]
        omega
      have f2 : IntKind.i64.wrap (at_ : Int) = at_ := IntWalk.i64_in _ (by omega)
      have f3 : d.tmod (n : Int) = at_ := by rw [Int.tmod_eq_emod_of_nonneg hd0]; exact hpe
      have f4 : IntKind.u64.wrap (at_ : Int) = at_ := by
        simp only [IntKind.wrap_u64]
        omega
      have hnz : (n : Int) ≠ 0 := by omega
      have n1 : ¬ w.heap.size + 1 = b := by omega
      have n2 : ¬ b = w.heap.size + 1 := by omega
      clear e e1 hcell
      go_wp2_with fail
      go_region_held3 (fun w' => w'.cell? ⟨w.heap.size, 2, none⟩ = some (.slice (some ⟨b, off, none⟩) n c) ∧ (w'.cell? ⟨b, off + at_ * 2, none⟩ = some (.int .i64 x) ∧ w'.cell? ⟨b, off + at_ * 2 + 1, none⟩ = some (.int .i64 y)))
        (first | go_keep | (go_split_ands; exact ⟨(World.cell?_setCell_other _ _ _ _ (fun e => by injection e with e1; omega)).trans ((World.cell?_setCell_other _ _ _ _ (fun e => by injection e with e1; omega)).trans k3), (World.cell?_setCell_other _ _ _ _ (fun e => by injection e with e1; omega)).trans ((World.cell?_setCell_other _ _ _ _ (fun e => by injection e with e1; omega)).trans q1), (World.cell?_setCell_other _ _ _ _ (fun e => by injection e with e1; omega)).trans ((World.cell?_setCell_other _ _ _ _ (fun e => by injection e with e1; omega)).trans q2)⟩) | fail) (fail)
      all_goals
        go_wp2
        exact bodyPost_ret (v := .tuple #[.agg #[.int .i64 x, .int .i64 y], .int .i64 0]) (by simp [results, Try.results50, go_sem, o1, o2]) rfl ⟨rfl, by repeat (first | exact hc | (refine Below.drew ?_) | (refine Below.setCell ?_ (by simp; try omega) _)), by simp [World.setCell]; omega⟩
  · have e : ((x, y), r) = (((0 : Int), (0 : Int)), (8 : Int)) := by rw [← HR.out, oneR, if_neg hm]
    obtain ⟨e1, rfl⟩ := Prod.mk.inj e
    obtain ⟨rfl, rfl⟩ := Prod.mk.inj e1
    have HM := Lib.hid (Bool.eq_false_iff.2 hm)
    clear hm e e1
    go_enter Try.func50, Try.ntmps50
    go_wp2_with fail
    rw [HU.out]
    refine (MayR_any u own cap A n c xs hXu (by omega) false HM.out).mono ?_
    rintro e w1 ⟨rfl, hb1, hp1⟩
    have hs1 := hb1.size
    have O := Below.heapOf hb1 (by omega) hO
    have hc := hbu.trans (hb1.mono (by omega))
    obtain ⟨⟨o1, o2⟩, o3, o4⟩ := cells2 O
    clear hb1 hC hO hbu hXu HU hX
    go_wp2
    exact bodyPost_ret (v := .tuple #[.agg #[.int .i64 0, .int .i64 0], .int .i64 8]) (by simp [results, Try.results50, go_sem, o1, o2]) rfl ⟨rfl, by repeat (first | exact hc | (refine Below.setCell ?_ (by simp; try omega) _)), by simp [World.setCell]; omega⟩

set_option maxHeartbeats 1600000 in
/-- headcountref09.Some. -/
theorem SomeR_any (w : World) (own cap : Int) (A : Option Addr) (n c : Nat) (xs : List (Int × Int)) (hX : Descs w 0 w.heap.size A n xs) (hc : n ≤ c) (hn : n ≤ 1000) (B : Option Addr) (m d : Nat) (ds : List Int) (hD : Ints w 0 w.heap.size .u64 B m ds) (r : Int) (hr : someC own cap xs ds = r) :
    Calls Try.prog 51 #[.agg #[.int .i64 own, .int .i64 cap, .slice A n c], .slice B m d] w (LstPost w (someL own cap xs ds) r) := by
  have HR := Lib.hid hr
  have HLD := Lib.hid hD.len
  have hbd := hD.big
  unfold someC at hr
  have hX1 : Descs (w.alloc (.cells #[.int .i64 own, .int .i64 cap, .slice A n c] 43)) 0 (w.alloc (.cells #[.int .i64 own, .int .i64 cap, .slice A n c] 43)).heap.size A n xs := (hX.alloc (Nat.le_refl _) _).more (Nat.le_refl _) (by simp)
  by_cases hm : mayC own cap xs = true
  · rw [if_pos hm] at hr
    have HM := Lib.hid hm
    clear hm
    by_cases h64 : 64 < ds.length
    · rw [if_pos h64] at hr
      subst hr
      rw [HLD.out] at h64
      have h64' : decide ((64 : Int) < m) = true := by simp; omega
      have hl0 : Hid (someL own cap xs ds = []) := by rw [Hid, someL, if_neg (by rw [HR.out]; decide)]
      go_enter Try.func51, Try.ntmps51
      go_wp2_with fail
      refine (MayR_any _ own cap A n c xs hX1 (by omega) true HM.out).mono ?_
      rintro e w1 ⟨rfl, hb1, hp1⟩
      obtain ⟨_, hs1, hbb⟩ := box3 hb1
      clear hb1 hX1
      go_wp2
      go_ret2
      rw [hl0.out]
      exact ⟨none, 0, 0, 0, rfl, Nat.le_refl _, hbb, fun h => absurd h (by omega), hp1, Descs.nil_ ..⟩
    · rw [if_neg h64] at hr
      subst hr
      rw [HLD.out] at h64
      have h64' : decide ((64 : Int) < m) = false := by simp; omega
      have hl0 : Hid (someL own cap xs ds = chs xs ds) := by rw [Hid, someL, if_pos HR.out]
      go_enter Try.func51, Try.ntmps51
      go_wp2_with fail
      refine (MayR_any _ own cap A n c xs hX1 (by omega) true HM.out).mono ?_
      rintro e w1 ⟨rfl, hb1, hp1⟩
      obtain ⟨⟨k1, k2, k3⟩, hs1, hbb⟩ := box3 hb1
      have X := (hX.below hbb (Nat.le_refl _)).more (lo' := 0) (hi' := w1.heap.size) (Nat.le_refl _) (by omega)
      have E := (hD.below hbb (Nat.le_refl _)).more (lo' := 0) (hi' := w1.heap.size) (Nat.le_refl _) (by omega)
      clear hb1 hX1
      go_wp2_with fail
      refine (ChosenR_any w1 A n c xs X hc hn B m d ds E (by omega)).mono ?_
      rintro e w2 ⟨A2, n2, c2, rfl, hc2, hn2, hb2, hD2⟩
      obtain ⟨rb, q1, q2, q3⟩ := hD2.exact (Nat.le_refl _) (by have := hb2.size; omega)
      have hcf := hbb.trans (hb2.mono (by omega))
      clear hb2 hD2
      go_wp2
      go_ret2
      rw [hl0.out]
      exact ⟨A2, n2, c2, rb, rfl, hc2, hcf, fun h => by have := (q2 h).1; omega, q1, q3⟩
  · rw [if_neg hm] at hr
    subst hr
    have HM := Lib.hid (Bool.eq_false_iff.2 hm)
    have hl0 : Hid (someL own cap xs ds = []) := by rw [Hid, someL, if_neg (by rw [HR.out]; decide)]
    clear hm
    go_enter Try.func51, Try.ntmps51
    go_wp2_with fail
    refine (MayR_any _ own cap A n c xs hX1 (by omega) false HM.out).mono ?_
    rintro e w1 ⟨rfl, hb1, hp1⟩
    obtain ⟨_, hs1, hbb⟩ := box3 hb1
    clear hb1 hX1
    go_wp2
    go_ret2
    rw [hl0.out]
    exact ⟨none, 0, 0, 0, rfl, Nat.le_refl _, hbb, fun h => absurd h (by omega), hp1, Descs.nil_ ..⟩
end De
end Go.Proofs.Ytpjomdkcckamkaa
