/- Nodes among the arguments (printed by a program of mine). -/
/- node.New, of one example: a walk (printed by a program of mine). -/
/- What QueryNames' examples answer: numbers. No program in sight. -/
import Derived.Deep.SlicePairs
import Derived.Lib.SmallJoins
import Derived.Test.YtmbppgjhdcmckaaGreatDoorBi21
import Derived.Test.YtmbppgjhdcmckaaGreatDoorBi14
import Derived.Test.YtmbppgjhdcmckaaGreatDoorBi16
import Derived.Test.YtmbppgjhdcmckaaGreatDoorBi20
namespace Go.Proofs.YtmbppgjhdcmckaaGreatDoor
open Go.ChangeShapes Go.WideShapes Go.ChangeAt Go.RowKit Go.Joins Go.Deep
section
variable {H : Type} {enc : TypeId × Value → H} {P : Program} {W : World}
open De (Rng Descs Descs.nil_)
theorem i64_rngN {z : Int} (h : (Lit.int .i64 z).wf = true) : -9223372036854775808 ≤ z ∧ z ≤ 9223372036854775807 := by
 simpa [Lit.wf, IntKind.min, IntKind.max, IntKind.signed, IntKind.bits] using h
/-- A slice of descriptors that reads as data. -/
theorem descs_trodN {t e : TypeId} {f0 f1 : Field} {fuel : Nat} {v : Value} {x : DataW H × List MemPlace} (ht : P.underlying t = some (.slice e)) (he : P.underlying e = some (.struct #[f0, f1])) (ce : P.cellsOf e = 2) (o0 : f0.offset = 0) (o1 : f1.offset = 1)
  (c0 : P.cellsOf f0.type = 1) (c1 : P.cellsOf f1.type = 1) (u0 : P.underlying f0.type = some (.int .i64)) (u1 : P.underlying f1.type = some (.int .i64))
  (h : DataW.trod enc P W 0 (fun _ => true) true fuel t [v] = some x) (hfz : ∀ b off, MemPlace.cell b off ∈ x.2 → W.frozen? ⟨b, off, none⟩ = false) (hlt : ∀ q ∈ x.2, q.block < W.heap.size) :
  ∃ A n c xs, v = .slice A n c ∧ n ≤ c ∧ c ≤ maxLen ∧ Descs W 0 W.heap.size A n xs := by
 rcases open_slice_pairs ht he ce o0 o1 c0 c1 h with ⟨hcs, _⟩ | ⟨a, len, cap, m, k, V0, V1, D0, D1, P0, P1, hcs, _, hl, hm, hmm, hx, hi⟩
 · injection hcs with hcs
   exact ⟨none, 0, 0, [], hcs, Nat.le_refl _, by unfold maxLen; omega, Descs.nil_ ..⟩
 · injection hcs with hcs
   simp only [if_true] at hmm
   subst hmm
   have hV : ∀ i, i < m → ∃ q : Int × Int, V0 i = .int .i64 q.1 ∧ V1 i = .int .i64 q.2 ∧ Rng q := fun i hi' => by
    obtain ⟨_, _, h0, h1⟩ := hi i hi'
    obtain ⟨x, e0, _, w0⟩ := DataW.trod_int u0 h0
    obtain ⟨y, e1, _, w1⟩ := DataW.trod_int u1 h1
    injection e0 with e0
    injection e1 with e1
    exact ⟨(x, y), e0, e1, i64_rngN w0, i64_rngN w1⟩
   obtain ⟨q, hq⟩ := choose_lt hV
   have hmem2 : ∀ j, j < m * 2 → ∀ b off, a = ⟨b, off, none⟩ → MemPlace.cell b (off + j) ∈ x.2 := fun j hj b off e => by
    rw [hx, e]
    exact List.mem_append_left _ (MemPlace.mem_row.2 ⟨j, hj, rfl⟩)
   refine ⟨some a, len, m, (List.range len).map q, hcs, hl, hm, by simp, fun y hy => ?_, by unfold maxLen at hm; omega, fun h0 => ?_⟩
   · obtain ⟨i, hi', rfl⟩ := List.mem_map.1 hy
     exact (hq i (by have := List.mem_range.1 hi'; omega)).2.2
   · obtain ⟨b, off, spot⟩ := a
     have hspot : spot = none := by simpa [Addr.add] using World.cell?_spot (hi 0 (by omega)).1
     subst hspot
     have hb : b < W.heap.size := hlt _ (hmem2 0 (by omega) b off rfl)
     refine ⟨b, off, rfl, Nat.zero_le _, hb, fun j hj => ?_⟩
     obtain ⟨g0, g1, _, _⟩ := hi j (by omega)
     rw [add_plain] at g0 g1
     rw [show off + (j * 2 + 1) = off + j * 2 + 1 by omega] at g1
     have hxj : ((List.range len).map q)[j]?.getD (0, 0) = q j := by simp [hj]
     rw [hxj, g0, g1, (hq j (by omega)).1, (hq j (by omega)).2.1]
     exact ⟨⟨rfl, hfz _ _ (hmem2 (j * 2) (by omega) b off rfl)⟩, rfl, by rw [Nat.add_assoc]; exact hfz _ _ (hmem2 (j * 2 + 1) (by omega) b off rfl)⟩
instance : Inhabited Ma.Fv := ⟨⟨0, ⟨⟨⟨false, none, 0, 0, 0, []⟩, ⟨false, none, 0, 0, 0, []⟩, ⟨false, none, 0, 0, 0, []⟩, ⟨false, none, 0, 0, 0, []⟩⟩, false, 0, 0, none, 0, 0, []⟩⟩⟩
set_option maxRecDepth 100000 in
theorem frozen_trod {fuel : Nat} {cs : List Value} {x : DataW H × List MemPlace}
  (h : DataW.trod enc Tryz.prog W 0 (fun _ => true) true fuel 115 cs = some x) (hfz : ∀ b off, MemPlace.cell b off ∈ x.2 → W.frozen? ⟨b, off, none⟩ = false) (hlt : ∀ q ∈ x.2, q.block < W.heap.size) :
  ∃ f : Ma.Fv, cs = Ma.cells17 f ∧ Ma.PRows W 0 W.heap.size f.P ∧ ∀ x, x < 4 → (f.P.M.get x).n ≤ (f.P.M.get x).c := by
 obtain ⟨y0, y1, n, hx, hl, h0, h1⟩ := trod_struct2 Tryz.underlying115 h
 match cs, hl.trans (show Tryz.prog.cellsOf 115 = 17 by kernel_rfl) with
 | [c0, c1, c2, c3, c4, c5, c6, c7, c8, c9, c10, c11, c12, c13, c14, c15, c16], _ =>
  have hx2 : x.2 = y0.2 ++ y1.2 := by rw [hx]
  have C1 : Tryz.prog.cellsOf 3 = 1 := by kernel_rfl
  have C2 : Tryz.prog.cellsOf 30 = 16 := by kernel_rfl
  simp only [C1, C2, List.drop_zero, List.take_succ_cons, List.take_zero, List.drop_succ_cons] at h0 h1
  obtain ⟨z, e1, _, z1⟩ := DataW.trod_int Tryz.underlying3 h0
  injection e1 with e1
  obtain ⟨p, ep, hR, hcp⟩ := part_trod h1 (fun b off hm => hfz b off (by simp [hx2, hm])) (fun q hq => hlt q (by simp [hx2, hq]))
  refine ⟨⟨z, p⟩, ?_, hR, hcp⟩
  rw [e1, ep]
  rfl
set_option maxRecDepth 100000 in
/-- A list of frozen parts among the arguments. -/
theorem frozens_trodN {fuel : Nat} {v : Value} {x : DataW H × List MemPlace}
  (hf : DataW.trod enc Tryz.prog W 0 (fun _ => true) true fuel 60 [v] = some x) (hfz : ∀ b off, MemPlace.cell b off ∈ x.2 → W.frozen? ⟨b, off, none⟩ = false) (hlt : ∀ q ∈ x.2, q.block < W.heap.size) :
  ∃ A n c fs, v = .slice A n c ∧ n ≤ c ∧ c ≤ maxLen ∧ Ma.LFs W 0 W.heap.size A n fs ∧ ∀ f ∈ fs, ∀ x, x < 4 → (f.P.M.get x).n ≤ (f.P.M.get x).c := by
 rcases open_slice Tryz.underlying60 hf with ⟨hcs, _⟩ | ⟨a, len, cap, m, k, D, Pl, hcs, _, hl, hm, hmm, hx, hi⟩
 · injection hcs with hcs
   exact ⟨none, 0, 0, [], hcs, Nat.le_refl _, by unfold maxLen; omega, ⟨rfl, by decide, fun h0 => absurd h0 (Nat.lt_irrefl 0), fun j hj => absurd hj (Nat.not_lt_zero _)⟩, fun _ h => absurd h (by simp)⟩
 · injection hcs with hcs
   simp only [if_true] at hmm
   subst hmm
   have hC : Tryz.prog.cellsOf 115 = 17 := by kernel_rfl
   have hx2 : x.2 = MemPlace.row a (m * 17) ++ (List.range m).flatMap Pl := by rw [hx, hC]
   have hmem : ∀ i, i < m → ∀ q ∈ Pl i, q ∈ x.2 := fun i hi' q hq => by
    rw [hx2]
    exact List.mem_append_right _ (List.mem_flatMap.2 ⟨i, List.mem_range.2 hi', hq⟩)
   have hV : ∀ i, i < m → ∃ q : Ma.Fv, (∀ k, k < 17 → W.cell? ((a.add (i * 17)).add k) = (Ma.cells17 q)[k]?) ∧ Ma.PRows W 0 W.heap.size q.P ∧ ∀ x, x < 4 → (q.P.M.get x).n ≤ (q.P.M.get x).c := fun i hi' => by
    obtain ⟨cs', h1, h2⟩ := hi i hi'
    rw [hC] at h1
    obtain ⟨_, _, hcell⟩ := World.cells?_some h1
    obtain ⟨q, e, hq, hcq⟩ := frozen_trod h2 (fun b off hm => hfz b off (hmem i hi' _ hm)) (fun q hq => hlt q (hmem i hi' q hq))
    subst e
    exact ⟨q, hcell, hq, hcq⟩
   obtain ⟨q, hq⟩ := choose_lt hV
   refine ⟨some a, len, m, (List.range len).map q, hcs, hl, hm, ⟨by simp, by unfold maxLen at hm; omega, fun h0 => ?_, fun j hj => ?_⟩, fun f hf => ?_⟩
   · obtain ⟨b, off, spot⟩ := a
     have hspot : spot = none := by
      have k := (hq 0 (by omega)).1 0 (by decide)
      have k2 := World.cell?_spot k
      simpa [Addr.add] using k2
     subst hspot
     have hb : b < W.heap.size := hlt _ (by
      rw [hx2]
      exact List.mem_append_left _ (MemPlace.mem_row.2 ⟨0, by omega, rfl⟩) : MemPlace.cell b (off + 0) ∈ x.2)
     refine ⟨b, off, rfl, Nat.zero_le _, hb, fun j hj => ?_⟩
     have hj' : j < len := by simpa using hj
     have e : ((List.range len).map q)[j] = q j := by simp
     rw [e]
     have g := (hq j (by omega)).1
     simp only [add_plain] at g
     exact Ma.fcells_of g
   · have e : ((List.range len).map q)[j] = q j := by simp
     rw [e]
     have hj' : j < len := by simpa using hj
     exact (hq j (by omega)).2.1
   · obtain ⟨j, hj, rfl⟩ := List.mem_map.1 hf
     have hj' : j < len := List.mem_range.1 hj
     exact (hq j (by omega)).2.2
theorem trod_struct5N {spare : TypeId → Bool} {held : Bool} {base : Nat} {t : TypeId} {f0 f1 f2 f3 f4 : Field} {fuel : Nat} {cs : List Value} {x : DataW H × List MemPlace} (ht : P.underlying t = some (.struct #[f0, f1, f2, f3, f4])) (h : DataW.trod enc P W base spare held fuel t cs = some x) :
  ∃ y0 y1 y2 y3 y4 n, x.2 = y0.2 ++ (y1.2 ++ (y2.2 ++ (y3.2 ++ y4.2))) ∧ cs.length = P.cellsOf t ∧ DataW.trod enc P W base spare held n f0.type ((cs.drop f0.offset).take (P.cellsOf f0.type)) = some y0 ∧ DataW.trod enc P W base spare held n f1.type ((cs.drop f1.offset).take (P.cellsOf f1.type)) = some y1 ∧ DataW.trod enc P W base spare held n f2.type ((cs.drop f2.offset).take (P.cellsOf f2.type)) = some y2 ∧ DataW.trod enc P W base spare held n f3.type ((cs.drop f3.offset).take (P.cellsOf f3.type)) = some y3 ∧ DataW.trod enc P W base spare held n f4.type ((cs.drop f4.offset).take (P.cellsOf f4.type)) = some y4 := by
 obtain ⟨xs, n, _, rfl, hl, hlen, hf⟩ := DataW.trod_struct ht h
 match xs, hlen with
 | [y0, y1, y2, y3, y4], _ => exact ⟨y0, y1, y2, y3, y4, n, by simp, hl, by simpa using hf 0 f0 rfl, by simpa using hf 1 f1 rfl, by simpa using hf 2 f2 rfl, by simpa using hf 3 f3 rfl, by simpa using hf 4 f4 rfl⟩
theorem trod_struct10N {spare : TypeId → Bool} {held : Bool} {base : Nat} {t : TypeId} {f0 f1 f2 f3 f4 f5 f6 f7 f8 f9 : Field} {fuel : Nat} {cs : List Value} {x : DataW H × List MemPlace} (ht : P.underlying t = some (.struct #[f0, f1, f2, f3, f4, f5, f6, f7, f8, f9])) (h : DataW.trod enc P W base spare held fuel t cs = some x) :
  ∃ y0 y1 y2 y3 y4 y5 y6 y7 y8 y9 n, x.2 = y0.2 ++ (y1.2 ++ (y2.2 ++ (y3.2 ++ (y4.2 ++ (y5.2 ++ (y6.2 ++ (y7.2 ++ (y8.2 ++ (y9.2))))))))) ∧ cs.length = P.cellsOf t ∧ DataW.trod enc P W base spare held n f0.type ((cs.drop f0.offset).take (P.cellsOf f0.type)) = some y0 ∧ DataW.trod enc P W base spare held n f1.type ((cs.drop f1.offset).take (P.cellsOf f1.type)) = some y1 ∧ DataW.trod enc P W base spare held n f2.type ((cs.drop f2.offset).take (P.cellsOf f2.type)) = some y2 ∧ DataW.trod enc P W base spare held n f3.type ((cs.drop f3.offset).take (P.cellsOf f3.type)) = some y3 ∧ DataW.trod enc P W base spare held n f4.type ((cs.drop f4.offset).take (P.cellsOf f4.type)) = some y4 ∧ DataW.trod enc P W base spare held n f5.type ((cs.drop f5.offset).take (P.cellsOf f5.type)) = some y5 ∧ DataW.trod enc P W base spare held n f6.type ((cs.drop f6.offset).take (P.cellsOf f6.type)) = some y6 ∧ DataW.trod enc P W base spare held n f7.type ((cs.drop f7.offset).take (P.cellsOf f7.type)) = some y7 ∧ DataW.trod enc P W base spare held n f8.type ((cs.drop f8.offset).take (P.cellsOf f8.type)) = some y8 ∧ DataW.trod enc P W base spare held n f9.type ((cs.drop f9.offset).take (P.cellsOf f9.type)) = some y9 := by
 obtain ⟨xs, n, _, rfl, hl, hlen, hf⟩ := DataW.trod_struct ht h
 match xs, hlen with
 | [y0, y1, y2, y3, y4, y5, y6, y7, y8, y9], _ => exact ⟨y0, y1, y2, y3, y4, y5, y6, y7, y8, y9, n, by simp, hl, by simpa using hf 0 f0 rfl, by simpa using hf 1 f1 rfl, by simpa using hf 2 f2 rfl, by simpa using hf 3 f3 rfl, by simpa using hf 4 f4 rfl, by simpa using hf 5 f5 rfl, by simpa using hf 6 f6 rfl, by simpa using hf 7 f7 rfl, by simpa using hf 8 f8 rfl, by simpa using hf 9 f9 rfl⟩
set_option maxRecDepth 100000 in
theorem clock_trodN {fuel : Nat} {c0 c1 c2 c3 c4 : Value} {x : DataW H × List MemPlace}
  (h : DataW.trod enc Tryz.prog W 0 (fun _ => true) true fuel 53 [c0, c1, c2, c3, c4] = some x) : ∃ a b c d e : Int, c0 = .int .i64 a ∧ c1 = .int .i64 b ∧ c2 = .int .i64 c ∧ c3 = .int .i64 d ∧ c4 = .int .i64 e := by
 obtain ⟨y0, y1, y2, y3, y4, n, hx, _, h0, h1, h2, h3, h4⟩ := trod_struct5N Tryz.underlying53 h
 have C2 : Tryz.prog.cellsOf 3 = 1 := by kernel_rfl
 simp only [C2, List.drop_zero, List.take_succ_cons, List.take_zero, List.drop_succ_cons] at h0 h1 h2 h3 h4
 obtain ⟨z0, e0, _, _⟩ := DataW.trod_int Tryz.underlying3 h0
 injection e0 with e0
 obtain ⟨z1, e1, _, _⟩ := DataW.trod_int Tryz.underlying3 h1
 injection e1 with e1
 obtain ⟨z2, e2, _, _⟩ := DataW.trod_int Tryz.underlying3 h2
 injection e2 with e2
 obtain ⟨z3, e3, _, _⟩ := DataW.trod_int Tryz.underlying3 h3
 injection e3 with e3
 obtain ⟨z4, e4, _, _⟩ := DataW.trod_int Tryz.underlying3 h4
 injection e4 with e4
 exact ⟨z0, z1, z2, z3, z4, e0, e1, e2, e3, e4⟩
set_option maxRecDepth 100000 in
theorem wait_trodN {fuel : Nat} {c0 c1 c2 : Value} {x : DataW H × List MemPlace}
  (h : DataW.trod enc Tryz.prog W 0 (fun _ => true) true fuel 55 [c0, c1, c2] = some x) : ∃ (b : Bool) (p q : Int), c0 = .bool b ∧ c1 = .int .i64 p ∧ c2 = .int .i64 q := by
 obtain ⟨y0, y1, y2, n, hx, _, h0, h1, h2⟩ := trod_struct3 Tryz.underlying55 h
 have C1 : Tryz.prog.cellsOf 4 = 1 := by kernel_rfl
 have C2 : Tryz.prog.cellsOf 3 = 1 := by kernel_rfl
 simp only [C1, C2, List.drop_zero, List.take_succ_cons, List.take_zero, List.drop_succ_cons] at h0 h1 h2
 obtain ⟨s, e0, _⟩ := DataW.trod_bool Tryz.underlying4 h0
 obtain ⟨z, e1, _, z1⟩ := DataW.trod_int Tryz.underlying3 h1
 obtain ⟨u, e2, _, z2⟩ := DataW.trod_int Tryz.underlying3 h2
 injection e0 with e0
 injection e1 with e1
 injection e2 with e2
 exact ⟨s, z, u, e0, e1, e2⟩
set_option maxRecDepth 100000 in
theorem cache_trodN {fuel : Nat} {c0 c1 c2 : Value} {x : DataW H × List MemPlace}
  (h : DataW.trod enc Tryz.prog W 0 (fun _ => true) true fuel 59 [c0, c1, c2] = some x) (hfz : ∀ b off, MemPlace.cell b off ∈ x.2 → W.frozen? ⟨b, off, none⟩ = false) (hlt : ∀ q ∈ x.2, q.block < W.heap.size) : ∃ (p q : Int) (A : Option Addr) (n c : Nat) (xs : List (Int × Int)), c0 = .int .i64 p ∧ c1 = .int .i64 q ∧ c2 = .slice A n c ∧ Descs W 0 W.heap.size A n xs := by
 obtain ⟨y0, y1, y2, n, hx, _, h0, h1, h2⟩ := trod_struct3 Tryz.underlying59 h
 have hx2 : x.2 = y0.2 ++ (y1.2 ++ y2.2) := by rw [hx]
 have C1 : Tryz.prog.cellsOf 57 = 1 := by kernel_rfl
 have C2 : Tryz.prog.cellsOf 3 = 1 := by kernel_rfl
 simp only [C1, C2, List.drop_zero, List.take_succ_cons, List.take_zero, List.drop_succ_cons] at h0 h1 h2
 obtain ⟨z, e1, _, z1⟩ := DataW.trod_int Tryz.underlying3 h0
 obtain ⟨u, e2, _, z2⟩ := DataW.trod_int Tryz.underlying3 h1
 injection e1 with e1
 injection e2 with e2
 obtain ⟨A, m, c, xs, e3, _, _, hD⟩ := descs_trodN Tryz.underlying57 Tryz.underlying195 (by kernel_rfl) (by kernel_rfl) (by kernel_rfl) (by kernel_rfl) (by kernel_rfl) Tryz.underlying3 Tryz.underlying3 h2 (fun b off hm => hfz b off (by simp [hx2, hm])) (fun q hq => hlt q (by simp [hx2, hq]))
 exact ⟨z, u, A, m, c, xs, e1, e2, e3, hD⟩
set_option maxHeartbeats 3200000 in
set_option maxRecDepth 100000 in
theorem node_trodN {fuel : Nat} {cs : List Value} {x : DataW H × List MemPlace}
  (h : DataW.trod enc Tryz.prog W 0 (fun _ => true) true fuel 63 cs = some x) (hfz : ∀ b off, MemPlace.cell b off ∈ x.2 → W.frozen? ⟨b, off, none⟩ = false) (hlt : ∀ q ∈ x.2, q.block < W.heap.size) :
  ∃ v : No.Nv, cs = No.cells33 v ∧ No.NRows W 0 W.heap.size v := by
 obtain ⟨y0, y1, y2, y3, y4, y5, y6, y7, y8, y9, n, hx2, hl, h0, h1, h2, h3, h4, h5, h6, h7, h8, h9⟩ := trod_struct10N Tryz.underlying63 h
 match cs, hl.trans (show Tryz.prog.cellsOf 63 = 33 by kernel_rfl) with
 | c0 :: c1 :: c2 :: c3 :: c4 :: c5 :: c6 :: c7 :: c8 :: c9 :: c10 :: c11 :: c12 :: c13 :: c14 :: c15 :: c16 :: c17 :: c18 :: c19 :: c20 :: c21 :: c22 :: c23 :: c24 :: c25 :: c26 :: c27 :: c28 :: c29 :: c30 :: c31 :: c32 :: [], _ =>
  have C0 : Tryz.prog.cellsOf 3 = 1 := by kernel_rfl
  have C1 : Tryz.prog.cellsOf 4 = 1 := by kernel_rfl
  have C2 : Tryz.prog.cellsOf 53 = 5 := by kernel_rfl
  have C3 : Tryz.prog.cellsOf 30 = 16 := by kernel_rfl
  have C4 : Tryz.prog.cellsOf 55 = 3 := by kernel_rfl
  have C5 : Tryz.prog.cellsOf 56 = 1 := by kernel_rfl
  have C6 : Tryz.prog.cellsOf 59 = 3 := by kernel_rfl
  have C7 : Tryz.prog.cellsOf 60 = 1 := by kernel_rfl
  have C8 : Tryz.prog.cellsOf 61 = 1 := by kernel_rfl
  simp only [C0, C1, C2, C3, C4, C5, C6, C7, C8, List.drop_zero, List.take_succ_cons, List.take_zero, List.drop_succ_cons] at h0 h1 h2 h3 h4 h5 h6 h7 h8 h9
  obtain ⟨z0, e0, _, _⟩ := DataW.trod_int Tryz.underlying3 h0
  injection e0 with e0
  obtain ⟨z1, e1, _, _⟩ := DataW.trod_int Tryz.underlying3 h1
  injection e1 with e1
  obtain ⟨up, e2, _⟩ := DataW.trod_bool Tryz.underlying4 h2
  injection e2 with e2
  obtain ⟨kl, kt, ks, ke, kf, q0, q1, q2, q3, q4⟩ := clock_trodN h3
  obtain ⟨p, ep, hP, _⟩ := part_trod h4 (fun b off hm => hfz b off (by simp [hx2, hm])) (fun q hq => hlt q (by simp [hx2, hq]))
  obtain ⟨wo, wn, wt, q5, q6, q7⟩ := wait_trodN h5
  obtain ⟨hA, hn, hc, hs, e6, _, hH⟩ := ints_trod Tryz.underlying56 Tryz.underlying3 (by kernel_rfl) h6 (fun b off hm => hfz b off (by simp [hx2, hm])) (fun q hq => hlt q (by simp [hx2, hq]))
  obtain ⟨own, cap, dA, dn, dc, ds, q8, q9, q10, hD⟩ := cache_trodN h7 (fun b off hm => hfz b off (by simp [hx2, hm])) (fun q hq => hlt q (by simp [hx2, hq]))
  obtain ⟨fA, fn, fc, fs, e8, _, _, hF, _⟩ := frozens_trodN h8 (fun b off hm => hfz b off (by simp [hx2, hm])) (fun q hq => hlt q (by simp [hx2, hq]))
  obtain ⟨tA, tn, tc, ts, e9, _, _, hTm⟩ := descs_trodN Tryz.underlying61 Tryz.underlying146 (by kernel_rfl) (by kernel_rfl) (by kernel_rfl) (by kernel_rfl) (by kernel_rfl) Tryz.underlying3 Tryz.underlying3 h9 (fun b off hm => hfz b off (by simp [hx2, hm])) (fun q hq => hlt q (by simp [hx2, hq]))
  simp only [List.cons.injEq, and_true] at ep
  obtain ⟨g0, g1, g2, g3, g4, g5, g6, g7, g8, g9, g10, g11, g12, g13, g14, g15⟩ := ep
  refine ⟨⟨z0, z1, up, kl, kt, ks, ke, kf, p, wo, wn, wt, hA, hn, hc, hs, own, cap, dA, dn, dc, ds, fA, fn, fc, fs, tA, tn, tc, ts⟩, ?_, ⟨hP, hH, hD, hF, hTm⟩⟩
  subst e0 e1 e2 q0 q1 q2 q3 q4 g0 g1 g2 g3 g4 g5 g6 g7 g8 g9 g10 g11 g12 g13 g14 g15 q5 q6 q7 e6 q8 q9 q10 e8 e9
  rfl
set_option maxRecDepth 100000 in
/-- A node among the arguments. -/
theorem node_open {r : Reach} {b0 : Nat} {v : Value} {d : DataW H} {p : List MemPlace}
  (hval : Value.okWide Tryz.prog W r b0 63 v) (h : DataW.Trod enc Tryz.prog W 0 (fun _ => true) true 63 v d p) (hfz : ∀ b off, MemPlace.cell b off ∈ p → W.frozen? ⟨b, off, none⟩ = false) (hlt : ∀ q ∈ p, q.block < W.heap.size) :
  ∃ v' : No.Nv, v = .agg (No.cells33 v').toArray ∧ No.NRows W 0 W.heap.size v' := by
 obtain ⟨cs, rfl, hsz⟩ := okWide_struct Tryz.underlying63 hval
 obtain ⟨cs⟩ := cs
 obtain ⟨fuel, hf⟩ := h
 simp only [Value.cells] at hf
 obtain ⟨p, e, hR⟩ := node_trodN hf hfz hlt
 subst e
 exact ⟨p, rfl, hR⟩
end
end Go.Proofs.YtmbppgjhdcmckaaGreatDoor
namespace Go.Proofs.YtmbppgjhdcmckaaGreatDoor
open Go.RowKit
namespace No
open Ma
open Dp Dy
set_option maxRecDepth 100000 in
set_option maxHeartbeats 3200000 in
theorem node_into {t : TypeId} {w : World} {g : Nat} {v0 : Nv} (h : NBox t w g v0) (v : Nv) : ∃ U, w.setCells g 0 (cells33 v) = U ∧ NBox t U g v ∧ (∀ w0 B, Below B w0 w → B ≤ g → Below B w0 U) ∧ (∀ j, j ≠ g → U.heap[j]? = w.heap[j]?) ∧ U.heap.size ≤ w.heap.size ∧ w.heap.size ≤ U.heap.size := by
 refine ⟨_, rfl, ?_, fun w0 B hb hg => ?_, fun j hj => ?_, ?_, ?_⟩
 · unfold NBox at h ⊢
   simp [cells33, World.setCells, World.setCell, Array.getElem?_modify, h]
 · simp only [cells33, World.setCells]
   repeat (refine Below.setCell ?_ hg _)
   exact hb
 · have hj' : ¬ g = j := fun e => hj e.symm
   simp [cells33, World.setCells, World.setCell, Array.getElem?_modify, hj']
 · simp [cells33, World.setCells, World.setCell]
 · simp [cells33, World.setCells, World.setCell]
theorem alloc_zn (w : World) : ∃ U, w.alloc (.cells #[.int .i64 0, .int .i64 0, .bool false, .int .i64 0, .int .i64 0, .int .i64 0, .int .i64 0, .int .i64 0, .bool false, .slice none 0 0, .int .i64 0, .bool false, .slice none 0 0, .int .i64 0, .bool false, .slice none 0 0, .int .i64 0, .bool false, .slice none 0 0, .int .i64 0, .bool false, .int .i64 0, .int .i64 0, .slice none 0 0, .bool false, .int .i64 0, .int .i64 0, .slice none 0 0, .int .i64 0, .int .i64 0, .slice none 0 0, .slice none 0 0, .slice none 0 0] 63) = U ∧ NBox 63 U w.heap.size (ZNv 0) ∧ Below w.heap.size w U ∧ w.heap.size < U.heap.size := alloc_n 63 w (ZNv 0)
theorem alloc_ck (w : World) : ∃ U, w.alloc (.cells #[.int .i64 2, .int .i64 0, .int .i64 0, .int .i64 0, .int .i64 1] 53) = U ∧ U.heap[w.heap.size]? = some (.cells #[.int .i64 2, .int .i64 0, .int .i64 0, .int .i64 0, .int .i64 1] 53 (0, 0)) ∧ Below w.heap.size w U ∧ w.heap.size < U.heap.size :=
 ⟨_, rfl, heap_alloc_last _ _, (Below.refl _ w).alloc (Nat.le_refl _) _, by simp⟩
theorem alloc_ca (w : World) : ∃ U, w.alloc (.cells #[.int .i64 0, .int .i64 1, .slice none 0 0] 59) = U ∧ U.heap[w.heap.size]? = some (.cells #[.int .i64 0, .int .i64 1, .slice none 0 0] 59 (0, 0)) ∧ Below w.heap.size w U ∧ w.heap.size < U.heap.size :=
 ⟨_, rfl, heap_alloc_last _ _, (Below.refl _ w).alloc (Nat.le_refl _) _, by simp⟩
theorem ca_one : ∀ u ∈ ([.int .i64 0, .int .i64 1, .slice none 0 0] : List Value), u.oneCell' = true := by
 intro u hu
 simp only [List.mem_cons, List.not_mem_nil, or_false] at hu
 rcases hu with rfl | rfl | rfl <;> rfl
set_option maxHeartbeats 3200000 in
/-- cache.New, of one example. -/
theorem newC01_any (w : World) : Calls Tryz.prog 49 #[.int .i64 0, .int .i64 1] w fun e w' => e = .returned (.tuple #[.agg #[.int .i64 0, .int .i64 1, .slice none 0 0], .int .i64 0]) ∧ Below w.heap.size w w' := by
 go_enter Tryz.func49, Tryz.ntmps49
 go_wp2
 exact bodyPost_ret (v := .tuple #[.agg #[.int .i64 0, .int .i64 1, .slice none 0 0], .int .i64 0]) (by simp [results, Tryz.results49, go_sem]) rfl ⟨rfl, (Below.refl _ w).alloc (Nat.le_refl _) _⟩
/-- The example. -/
def N18 : Nv := ⟨0, 4, true, 2, 0, 0, 0, 1, ZPv, false, 0, 0, none, 0, 0, [], 0, 1, none, 0, 0, [], none, 0, 0, [], none, 0, 0, []⟩
theorem rows18 (w : World) (lo hi : Nat) : NRows w lo hi N18 :=
 ⟨⟨⟨Ints.nil_ .., Ints.nil_ .., Ints.nil_ .., Ints.nil_ ..⟩, Ints.nil_ ..⟩, Ints.nil_ .., De.Descs.nil_ .., ⟨rfl, Nat.zero_le _, fun h => absurd h (Nat.lt_irrefl 0), fun _ h => absurd h (Nat.not_lt_zero _)⟩, De.Descs.nil_ ..⟩
set_option maxHeartbeats 25600000 in
set_option maxRecDepth 100000 in
/-- node.New, of the example. -/
theorem new18_any (w : World) : Calls Tryz.prog 21 #[.int .i64 0, .int .i64 4, .int .i64 1, .agg #[.int .i64 2, .int .i64 0, .int .i64 0, .int .i64 0, .int .i64 1]] w fun e w' => e = .returned (.tuple #[.agg (cells33 N18).toArray, .int .i64 0]) ∧ Below w.heap.size w w' := by
 obtain ⟨w1, hw1, bC, ja, S1⟩ := alloc_ck w
 obtain ⟨w2, hw2, bN, jb, S2⟩ := alloc_zn w1
 have s1 := ja.size
 go_enter Tryz.func21, Tryz.ntmps21
 go_upto_region 1 with fail
 try rw [hw1]
 try rw [hw2]
 try clear hw1
 try clear hw2
 go_wp2_with fail
 refine (newC01_any w2).mono ?_
 rintro e' w3 ⟨rfl, jc⟩
 obtain ⟨w4, hw4, bA, jd, S4⟩ := alloc_ca w3
 have jt := later jb (later jc jd)
 go_upto_region 2 with (first | (refine wpList_store_nw rfl 59 (.tmp 10) (.tmp 16) rfl _ #[.int .i64 0, .int .i64 1, .slice none 0 0] rfl rfl (by kernel_rfl) rfl (all_oneCell_toArray ca_one) ?_; rw [hw4]))
 try clear hw4
 go_wp2_with fail
 refine (Ma.nvalue_any w4 4 true rfl).mono ?_
 rintro e' w5 ⟨rfl, je⟩
 have bC5 : w5.heap[w.heap.size]? = some (.cells #[.int .i64 2, .int .i64 0, .int .i64 0, .int .i64 0, .int .i64 1] 53 (0, 0)) := ((later jt je).block _ S1).trans bC
 have k0 : w5.cell? ⟨w.heap.size, 0, none⟩ = some (.int .i64 2) := cell_of_row w5 w.heap.size 0 _ _ _ bC5
 have k1 : w5.cell? ⟨w.heap.size, 1, none⟩ = some (.int .i64 0) := cell_of_row w5 w.heap.size 1 _ _ _ bC5
 have k2 : w5.cell? ⟨w.heap.size, 2, none⟩ = some (.int .i64 0) := cell_of_row w5 w.heap.size 2 _ _ _ bC5
 have k3 : w5.cell? ⟨w.heap.size, 3, none⟩ = some (.int .i64 0) := cell_of_row w5 w.heap.size 3 _ _ _ bC5
 have k4 : w5.cell? ⟨w.heap.size, 4, none⟩ = some (.int .i64 1) := cell_of_row w5 w.heap.size 4 _ _ _ bC5
 go_wp2_with fail
 refine (Ma.epochCheck_any w5 2 0 0 0 1 true rfl).mono ?_
 rintro e' w6 ⟨rfl, jf⟩
 clear k0 k1 k2 k3 k4
 have s2 := Below.size jb
 have s3 := Below.size (later jc (later jd (later je jf)))
 have bC6 : w6.heap[w.heap.size]? = some (.cells #[.int .i64 2, .int .i64 0, .int .i64 0, .int .i64 0, .int .i64 1] 53 (0, 0)) := (jf.block _ (by have := Below.size (later jt je); omega)).trans bC5
 have k0 : w6.cell? ⟨w.heap.size, 0, none⟩ = some (.int .i64 2) := cell_of_row w6 w.heap.size 0 _ _ _ bC6
 have k1 : w6.cell? ⟨w.heap.size, 1, none⟩ = some (.int .i64 0) := cell_of_row w6 w.heap.size 1 _ _ _ bC6
 have k2 : w6.cell? ⟨w.heap.size, 2, none⟩ = some (.int .i64 0) := cell_of_row w6 w.heap.size 2 _ _ _ bC6
 have k3 : w6.cell? ⟨w.heap.size, 3, none⟩ = some (.int .i64 0) := cell_of_row w6 w.heap.size 3 _ _ _ bC6
 have k4 : w6.cell? ⟨w.heap.size, 4, none⟩ = some (.int .i64 1) := cell_of_row w6 w.heap.size 4 _ _ _ bC6
 have bA6 : w6.heap[w3.heap.size]? = some (.cells #[.int .i64 0, .int .i64 1, .slice none 0 0] 59 (0, 0)) := ((later je jf).block _ S4).trans bA
 have l0 : w6.cell? ⟨w3.heap.size, 0, none⟩ = some (.int .i64 0) := cell_of_row w6 w3.heap.size 0 _ _ _ bA6
 have l1 : w6.cell? ⟨w3.heap.size, 1, none⟩ = some (.int .i64 1) := cell_of_row w6 w3.heap.size 1 _ _ _ bA6
 have l2 : w6.cell? ⟨w3.heap.size, 2, none⟩ = some (.slice none 0 0) := cell_of_row w6 w3.heap.size 2 _ _ _ bA6
 have bz_ : NBox 63 w6 w1.heap.size (ZNv 0) := ((later jc (later jd (later je jf))).block _ S2).trans bN
 obtain ⟨U_, hU_, bU_, hb_, hf_, l5_, l5'_⟩ := node_into bz_ N18
 have th_ := NBox.there bz_
 have HU_ := Lib.hid hU_
 clear hU_
 have jall : Below w.heap.size w w6 := later ja (later jb (later jc (later jd (later je jf))))
 have fin_ := hb_ _ _ jall s1
 clear bC bC5 bC6 bA bA6 bN
 go_wp2_with (first | (refine wpList_store_mid rfl 63 (.tmp 8) (.tmp 35) rfl w1.heap.size 0 (cells33 N18).toArray rfl rfl th_ (by kernel_rfl) (all_oneCell_toArray (cells33_one N18)) ?_; rw [show (cells33 N18).toArray.toList = cells33 N18 from rfl, HU_.out]))
 exact bodyPost_ret (results_row_slot Tryz.results21 _ _ w1.heap.size 63 (cells33 N18).toArray (0, 0) _ (.int .i64 0) rfl rfl bU_ Tryz.underlying63 rfl (by kernel_rfl)) rfl ⟨rfl, fin_⟩
end No
end Go.Proofs.YtmbppgjhdcmckaaGreatDoor
namespace Go.Proofs.YtmbppgjhdcmckaaGreatDoor
open Go.RowKit
namespace No
open Ma
open Dp Dy
theorem nn1  : toD (⟨false, 7, 2⟩ : Dn) (⟨false, 1, 0⟩ : Dn) 0 false = ((⟨false, 1, 0⟩ : Dn), 0) := by
 exact formed_of (K := 0) (sm _ _ (by decide) (by decide) (by decide) (by decide)) (by decide) (by decide) (by decide)
theorem nn2  : toD (⟨false, 7, 2⟩ : Dn) (⟨false, 1, 0⟩ : Dn) 0 true = ((⟨false, 2, 0⟩ : Dn), 0) := by
 exact formed_of (K := 0) (sm _ _ (by decide) (by decide) (by decide) (by decide)) (by decide) (by decide) (by decide)
theorem nn3 (b : Bool) : toD (⟨false, 7, 2⟩ : Dn) (⟨false, 1, 0⟩ : Dn) 2 b = ((⟨false, 7, 2⟩ : Dn), 0) := by
 cases b <;> exact formed_of (K := 2) (sm _ _ (by decide) (by decide) (by decide) (by decide)) (by decide) (by decide) (by decide)
theorem parts_one {a lo hi : Dn} {x : Dv} {k : Nat} (hx : Is a x) (ha : a.May) (hk : k ≤ 64) (h1 : toD a ⟨false, 1, 0⟩ k a.neg = (lo, 0)) (h2 : toD a ⟨false, 1, 0⟩ k (!a.neg) = (hi, 0)) : partsX x ⟨false, none, 1, 1, 0, canon 4294967296 1⟩ k = (lo, hi, 0) := by
 have hb : Is (⟨false, 1, 0⟩ : Dn) ⟨false, none, 1, 1, 0, canon 4294967296 1⟩ := ⟨rfl, rfl, rfl⟩
 have hm : (⟨false, 1, 0⟩ : Dn).May := (sm _ _ (by decide) (by decide) (by decide) (by decide))
 unfold partsX
 rw [if_neg (by simp [aboveV]), hx.1, hx.2.1, hx.2.2, hb.1, hb.2.1, hb.2.2, toX_dn ha hm rfl (by decide) hk, toX_dn ha hm rfl (by decide) hk, h1, h2]
 rfl
theorem hq1 : halfD (whole 3) = ((⟨false, 3, 1⟩ : Dn), 0) := formed_of (K := 1) (sm _ _ (by decide) (by decide) (by decide) (by decide)) (by decide) (by decide) (by decide)
theorem hq2 : halfD (⟨false, 3, 1⟩ : Dn) = ((⟨false, 3, 2⟩ : Dn), 0) := formed_of (K := 2) (sm _ _ (by decide) (by decide) (by decide) (by decide)) (by decide) (by decide) (by decide)
theorem three_quarters : quarterD 3 = ⟨false, 3, 2⟩ := by unfold quarterD; rw [hq1]; exact congrArg Prod.fst hq2
/-- The example's part. -/
def sevenR : Nat → Dn := fourR ⟨false, 5, 0⟩ ⟨false, 2, 0⟩ ⟨false, 1, 2⟩ ⟨false, 7, 2⟩
def SevenP (p : Pv) : Prop := IsM sevenR p.M ∧ p.h = true ∧ p.mn = -3 ∧ p.mx = 8 ∧ p.xs = [2, 4, 9]
theorem sevenR_may : MayR sevenR := fourR_may (sm _ _ (by decide) (by decide) (by decide) (by decide)) (sm _ _ (by decide) (by decide) (by decide) (by decide)) (sm _ _ (by decide) (by decide) (by decide) (by decide)) (sm _ _ (by decide) (by decide) (by decide) (by decide))
section
variable {w : World} {lo hi : Nat} {p : Pv} (hR : PRows w lo hi p) (h : SevenP p)
include hR h
theorem seven_may : mayP p = true := by
 obtain ⟨a, b, c, d, e⟩ := h
 exact part_may hR a sevenR_may rfl (fun h => absurd h (by decide)) (by rw [b, c, d]; decide) (by rw [e]; decide)
theorem s0 : askQ p 0 0 = (Dn.zero, Dn.zero, 2) := (ask_at (seven_may hR h) (by decide) (by decide)).trans (by unfold kindX; simp)
theorem s7 : askQ p 7 0 = (Dn.zero, Dn.zero, 2) := (ask_at (seven_may hR h) (by decide) (by decide)).trans (by unfold kindX; simp)
theorem s65 : askQ p 1 65 = (Dn.zero, Dn.zero, 2) := by
 unfold askQ
 rw [if_neg (by rw [seven_may hR h]; simp), if_pos (.inr (by decide))]
theorem even_eq (k : Int) : evenX p.M k = partsX p.M.A ⟨false, none, 1, 1, 0, canon 4294967296 1⟩ k := by
 unfold evenX
 rw [if_neg (by rw [above_of hR.1.W (h.1 1 (by decide)) rfl (by decide)]; simp)]
theorem se0 : askQ p 4 0 = (⟨false, 1, 0⟩, ⟨false, 2, 0⟩, 0) := (ask_at (seven_may hR h) (by decide) (by decide)).trans ((show kindX p 4 0 = evenX p.M 0 by unfold kindX; simp).trans ((even_eq hR h 0).trans (parts_one (k := 0) (h.1 3 (by decide)) (sevenR_may 3 (by decide)) (by decide) nn1 nn2)))
theorem se2 : askQ p 4 2 = (⟨false, 7, 2⟩, ⟨false, 7, 2⟩, 0) := (ask_at (seven_may hR h) (by decide) (by decide)).trans ((show kindX p 4 2 = evenX p.M 2 by unfold kindX; simp).trans ((even_eq hR h 2).trans (parts_one (k := 2) (h.1 3 (by decide)) (sevenR_may 3 (by decide)) (by decide) (nn3 _) (nn3 _))))
theorem sends : askQ p 5 0 = (whole (-3), whole 8, 0) := (ask_at (seven_may hR h) (by decide) (by decide)).trans (by
 obtain ⟨a, b, c, d, e⟩ := h
 unfold kindX
 simp [endsX, b, c, d])
theorem sguess : askQ p 6 0 = (⟨false, 3, 2⟩, ⟨false, 3, 2⟩, 0) := (ask_at (seven_may hR h) (by decide) (by decide)).trans (by
 obtain ⟨a, b, c, d, e⟩ := h
 unfold kindX
 rw [if_neg (by decide), if_neg (by decide), if_neg (by decide), if_neg (by decide), if_neg (by decide), if_pos rfl, e]
 unfold guessX
 rw [if_neg (by decide), show Least.guessS [2, 4, 9] = 3 from rfl, three_quarters])
end
section
variable {w : World} {lo hi : Nat} {p : Pv} (hR : PRows w lo hi p) (h : HeldP p)
include hR h
theorem h5 : askQ p 5 0 = (Dn.zero, Dn.zero, 6) := (ask_at (held_may hR h) (by decide) (by decide)).trans (by
 unfold kindX
 simp [endsX, h.2.1])
theorem h6 : askQ p 6 0 = (Dn.zero, Dn.zero, 6) := (ask_at (held_may hR h) (by decide) (by decide)).trans (by
 unfold kindX
 simp [guessX, h.2.2.2.2.2])
end
def P8 : Pv := ⟨⟨ZDv, ZDv, ZDv, ZDv⟩, false, 1, 0, none, 0, 0, []⟩
theorem p8 : askQ P8 9 65 = (Dn.zero, Dn.zero, 8) := by
 unfold askQ
 rw [if_pos (by unfold mayP P8; simp [mayE])]
theorem neg1 {w : World} {lo hi : Nat} {x : Dv} (hI : Ints w lo hi .u32 x.A x.n x.xs) (h : Is ⟨true, 1, 0⟩ x) : askQ ⟨⟨ZDv, ZDv, x, ZDv⟩, false, 0, 0, none, 0, 0, []⟩ 2 0 = (Dn.zero, Dn.zero, 6) := by
 have hm : mayP ⟨⟨ZDv, ZDv, x, ZDv⟩, false, 0, 0, none, 0, 0, []⟩ = true :=
  part_may (R := fourR Dn.zero Dn.zero ⟨true, 1, 0⟩ Dn.zero) (w := w) (lo := lo) (hi := hi) ⟨⟨rowZ _ _ _, rowZ _ _ _, hI, rowZ _ _ _⟩, Ints.nil_ ..⟩ (fourR_is isZ isZ h isZ) (fourR_may zero_may zero_may (may_small _ _ _ (by decide) (by decide) (by decide) (by decide)) zero_may) rfl (fun _ => rfl) rfl rfl
 refine (ask_at hm (by decide) (by decide)).trans ?_
 unfold kindX
 rw [if_neg (by decide), if_pos rfl]
 unfold partsX
 rw [if_pos (by unfold aboveV; rw [h.1]; rfl)]
theorem mayZ : mayP ZPv = true := part_may (R := fourR Dn.zero Dn.zero Dn.zero Dn.zero) (w := default) (lo := 0) (hi := 0) ⟨⟨rowZ _ _ _, rowZ _ _ _, rowZ _ _ _, rowZ _ _ _⟩, Ints.nil_ ..⟩ (fourR_is isZ isZ isZ isZ) (fourR_may zero_may zero_may zero_may zero_may) rfl (fun _ => rfl) rfl rfl
theorem mayN0 : mayN (ZNv 0) = true := by
 unfold mayN
 rw [if_neg (by decide)]
 decide
theorem may18 : mayN N18 = true := by
 unfold mayN anyFault
 rw [if_pos (show N18.up = true from rfl)]
 have f1 : fault1N N18 = false := by unfold fault1N; decide
 have f2 : fault2N N18 = false := by unfold fault2N; rw [show N18.P = ZPv from rfl, mayZ]; rfl
 have f3 : fault3N N18 = false := by unfold fault3N; decide
 have f4 : fault4N N18 = false := by unfold fault4N; decide
 have f5 : fault5N N18 = false := by unfold fault5N; decide
 have f6 : fault6N N18 = false := by unfold fault6N checkF; simp [N18, mayF]
 have f7 : fault7N N18 = false := by unfold fault7N; decide
 rw [f1, f2, f3, f4, f5, f6, f7]
 decide
theorem partZ0 : partC (ZNv 0) 0 = 14 := by
 unfold partC
 rw [if_neg (by rw [mayN0]; decide), if_pos (show (ZNv 0).up = false from rfl)]
theorem part18 (e : Int) : partC N18 e = getF 0 [] e := by
 unfold partC
 rw [if_neg (by rw [may18]; decide), if_neg (by decide), if_neg (by
  show ¬ ((e == 0) && decide (1 ≤ e)) = true
  simp only [Bool.and_eq_true, beq_iff_eq, decide_eq_true_eq]
  omega)]
 rfl
theorem part18a : partC N18 0 = 6 := by rw [part18]; unfold getF askF checkF; simp [mayF, aheadF]
theorem part18b : partC N18 65536 = 2 := by rw [part18]; unfold getF askF checkF; simp [mayF]
theorem greatZ : greatP ZPv = false := by decide
theorem greatF0 : greatF 0 [] = false := by decide
end No
end Go.Proofs.YtmbppgjhdcmckaaGreatDoor