/- Lists of masses among the arguments. -/
/- Lists of masses among the arguments, and how great they are. -/
import Derived.Test.YtlbkepiflhchdaaDoorBm27
import Derived.Test.YtlbkepiflhchdaaDoorBm28
namespace Go.Proofs.YtlbkepiflhchdaaDoor
open Go.ChangeShapes Go.WideShapes Go.ChangeAt Go.RowKit Go.Joins Go.Deep
section
variable {H : Type} {enc : TypeId × Value → H} {P : Program} {W W' : World}
theorem mass_trod {t td e : TypeId} {f0 f1 f2 f3 k0 k1 k2 : Field} {fuel : Nat} {cs : List Value} {x : DataW H × List MemPlace} (hs : P.underlying t = some (.struct #[f0, f1, f2, f3]))
    (hoff : (f0.offset, f1.offset, f2.offset, f3.offset) = (0, 3, 6, 9)) (hty : (f0.type, f1.type, f2.type, f3.type) = (td, td, td, td)) (hC : P.cellsOf t = 12)
    (hd : P.underlying td = some (.struct #[k0, k1, k2])) (hone : oneCellFields P #[k0, k1, k2] = true) (hC3 : P.cellsOf td = 3)
    (v0 : P.underlying k0.type = some .bool) (ht : P.underlying k1.type = some (.slice e)) (he : P.underlying e = some (.int .u32)) (hc : P.cellsOf e = 1) (v2 : P.underlying k2.type = some (.int .i64))
    (h : DataW.trod enc P W 0 (fun _ => true) true fuel t cs = some x) (hfz : ∀ b off, MemPlace.cell b off ∈ x.2 → W.frozen? ⟨b, off, none⟩ = false) (hlt : ∀ q ∈ x.2, q.block < W.heap.size) :
    ∃ m : Ma.Mv, cs = [.bool m.S.s, .slice m.S.A m.S.n m.S.c, .int .i64 m.S.e, .bool m.W.s, .slice m.W.A m.W.n m.W.c, .int .i64 m.W.e, .bool m.C.s, .slice m.C.A m.C.n m.C.c, .int .i64 m.C.e, .bool m.A.s, .slice m.A.A m.A.n m.A.c, .int .i64 m.A.e] ∧
      Ma.MRows W 0 W.heap.size m := by
  simp only [Prod.mk.injEq] at hoff hty
  obtain ⟨a0, a1, a2, a3⟩ := hoff
  obtain ⟨t0, t1, t2, t3⟩ := hty
  obtain ⟨y0, y1, y2, y3, n, hx, hl, h0, h1, h2, h3⟩ := trod_struct4 hs h
  match cs, hl.trans hC with
  | [c0, c1, c2, c3, c4, c5, c6, c7, c8, c9, c10, c11], _ =>
    have hx2 : x.2 = y0.2 ++ (y1.2 ++ (y2.2 ++ y3.2)) := by rw [hx]
    simp only [a0, a1, a2, a3, t0, t1, t2, t3, hC3, List.drop_zero, List.take_succ_cons, List.take_zero, List.drop_succ_cons] at h0 h1 h2 h3
    obtain ⟨d0, rfl, rfl, rfl, _, r0⟩ := dv_trod hd hone v0 ht he hc v2 h0 (fun b off hm => hfz b off (by simp [hx2, hm])) (fun q hq => hlt q (by simp [hx2, hq]))
    obtain ⟨d1, rfl, rfl, rfl, _, r1⟩ := dv_trod hd hone v0 ht he hc v2 h1 (fun b off hm => hfz b off (by simp [hx2, hm])) (fun q hq => hlt q (by simp [hx2, hq]))
    obtain ⟨d2, rfl, rfl, rfl, _, r2⟩ := dv_trod hd hone v0 ht he hc v2 h2 (fun b off hm => hfz b off (by simp [hx2, hm])) (fun q hq => hlt q (by simp [hx2, hq]))
    obtain ⟨d3, rfl, rfl, rfl, _, r3⟩ := dv_trod hd hone v0 ht he hc v2 h3 (fun b off hm => hfz b off (by simp [hx2, hm])) (fun q hq => hlt q (by simp [hx2, hq]))
    exact ⟨⟨d0, d1, d2, d3⟩, rfl, ⟨r0, r1, r2, r3⟩⟩
instance : Inhabited Ma.Mv := ⟨⟨⟨false, none, 0, 0, 0, []⟩, ⟨false, none, 0, 0, 0, []⟩, ⟨false, none, 0, 0, 0, []⟩, ⟨false, none, 0, 0, 0, []⟩⟩⟩
/-- A list of masses that reads as data. -/
theorem masses_trod {T t td e : TypeId} {f0 f1 f2 f3 k0 k1 k2 : Field} {fuel : Nat} {v : Value} {x : DataW H × List MemPlace} (hT : P.underlying T = some (.slice t)) (hs : P.underlying t = some (.struct #[f0, f1, f2, f3]))
    (hoff : (f0.offset, f1.offset, f2.offset, f3.offset) = (0, 3, 6, 9)) (hty : (f0.type, f1.type, f2.type, f3.type) = (td, td, td, td)) (hC : P.cellsOf t = 12)
    (hd : P.underlying td = some (.struct #[k0, k1, k2])) (hone : oneCellFields P #[k0, k1, k2] = true) (hC3 : P.cellsOf td = 3)
    (v0 : P.underlying k0.type = some .bool) (ht : P.underlying k1.type = some (.slice e)) (he : P.underlying e = some (.int .u32)) (hc : P.cellsOf e = 1) (v2 : P.underlying k2.type = some (.int .i64))
    (h : DataW.trod enc P W 0 (fun _ => true) true fuel T [v] = some x) (hfz : ∀ b off, MemPlace.cell b off ∈ x.2 → W.frozen? ⟨b, off, none⟩ = false) (hlt : ∀ q ∈ x.2, q.block < W.heap.size) :
    ∃ A n c ms, v = .slice A n c ∧ n ≤ c ∧ c ≤ maxLen ∧ Ma.LMs W 0 W.heap.size A n ms := by
  rcases open_slice hT h with ⟨hcs, _⟩ | ⟨a, len, cap, m, k, D, Pl, hcs, _, hl, hm, hmm, hx, hi⟩
  · injection hcs with hcs
    exact ⟨none, 0, 0, [], hcs, Nat.le_refl _, by unfold maxLen; omega, ⟨rfl, by decide, fun h0 => absurd h0 (Nat.lt_irrefl 0), fun j hj => absurd hj (Nat.not_lt_zero _)⟩⟩
  · injection hcs with hcs
    simp only [if_true] at hmm
    subst hmm
    have hx2 : x.2 = MemPlace.row a (m * P.cellsOf t) ++ (List.range m).flatMap Pl := by rw [hx]
    have hmem : ∀ i, i < m → ∀ q ∈ Pl i, q ∈ x.2 := fun i hi' q hq => by
      rw [hx2]
      exact List.mem_append_right _ (List.mem_flatMap.2 ⟨i, List.mem_range.2 hi', hq⟩)
    have hV : ∀ i, i < m → ∃ q : Ma.Mv, (∀ k, k < 12 → W.cell? ((a.add (i * 12)).add k) = [Value.bool q.S.s, .slice q.S.A q.S.n q.S.c, .int .i64 q.S.e, .bool q.W.s, .slice q.W.A q.W.n q.W.c, .int .i64 q.W.e, .bool q.C.s, .slice q.C.A q.C.n q.C.c, .int .i64 q.C.e, .bool q.A.s, .slice q.A.A q.A.n q.A.c, .int .i64 q.A.e][k]?) ∧ Ma.MRows W 0 W.heap.size q := fun i hi' => by
      obtain ⟨cs', h1, h2⟩ := hi i hi'
      rw [hC] at h1
      obtain ⟨_, _, hcell⟩ := World.cells?_some h1
      obtain ⟨q, e, hq⟩ := mass_trod hs hoff hty hC hd hone hC3 v0 ht he hc v2 h2 (fun b off hm => hfz b off (hmem i hi' _ hm)) (fun q hq => hlt q (hmem i hi' q hq))
      subst e
      exact ⟨q, hcell, hq⟩
    obtain ⟨q, hq⟩ := choose_lt hV
    refine ⟨some a, len, m, (List.range len).map q, hcs, hl, hm, by simp, by unfold maxLen at hm; omega, fun h0 => ?_, fun j hj => ?_⟩
    · obtain ⟨b, off, spot⟩ := a
      have hspot : spot = none := by simpa [Addr.add] using World.cell?_spot ((hq 0 (by omega)).1 0 (by decide))
      subst hspot
      have hb : b < W.heap.size := hlt _ (by
        rw [hx2]
        exact List.mem_append_left _ (MemPlace.mem_row.2 ⟨0, by rw [hC]; omega, rfl⟩) : MemPlace.cell b (off + 0) ∈ x.2)
      refine ⟨b, off, rfl, Nat.zero_le _, hb, fun j hj => ?_⟩
      have hj' : j < len := by simpa using hj
      have e : ((List.range len).map q)[j] = q j := by simp
      rw [e]
      have g := (hq j (by omega)).1
      simp only [add_plain] at g
      exact ⟨g 0 (by decide), g 1 (by decide), g 2 (by decide), g 3 (by decide), g 4 (by decide), g 5 (by decide), g 6 (by decide), g 7 (by decide), g 8 (by decide), g 9 (by decide), g 10 (by decide), g 11 (by decide)⟩
    · have e : ((List.range len).map q)[j] = q j := by simp
      rw [e]
      have hj' : j < len := by simpa using hj
      exact (hq j (by omega)).2
/-- A list of masses among the arguments. -/
theorem masses_open {T t td e : TypeId} {f0 f1 f2 f3 k0 k1 k2 : Field} {r : Reach} {b0 : Nat} {v : Value} {d : DataW H} {p : List MemPlace} (hT : P.underlying T = some (.slice t)) (hs : P.underlying t = some (.struct #[f0, f1, f2, f3]))
    (hoff : (f0.offset, f1.offset, f2.offset, f3.offset) = (0, 3, 6, 9)) (hty : (f0.type, f1.type, f2.type, f3.type) = (td, td, td, td)) (hC : P.cellsOf t = 12)
    (hd : P.underlying td = some (.struct #[k0, k1, k2])) (hone : oneCellFields P #[k0, k1, k2] = true) (hC3 : P.cellsOf td = 3)
    (v0 : P.underlying k0.type = some .bool) (ht : P.underlying k1.type = some (.slice e)) (he : P.underlying e = some (.int .u32)) (hc : P.cellsOf e = 1) (v2 : P.underlying k2.type = some (.int .i64))
    (hval : Value.okWide P W r b0 T v) (h : DataW.Trod enc P W 0 (fun _ => true) true T v d p) (hfz : ∀ b off, MemPlace.cell b off ∈ p → W.frozen? ⟨b, off, none⟩ = false) (hlt : ∀ q ∈ p, q.block < W.heap.size) :
    ∃ A n c ms, v = .slice A n c ∧ n ≤ c ∧ c ≤ maxLen ∧ Ma.LMs W 0 W.heap.size A n ms := by
  obtain ⟨A, n, c, rfl⟩ := okWide_slice hT hval
  obtain ⟨fuel, hf⟩ := h
  exact masses_trod hT hs hoff hty hC hd hone hC3 v0 ht he hc v2 (by simpa [Value.cells] using hf) hfz hlt
end
end Go.Proofs.YtlbkepiflhchdaaDoor

namespace Go.Proofs.YtlbkepiflhchdaaDoor
open Go.ChangeShapes Go.WideShapes Go.ChangeAt Go.RowKit Go.Joins Go.Deep
section
variable {H : Type} {enc : TypeId × Value → H} {P : Program} {W W' : World}
theorem mem_weightsAll {e : TypeId} : ∀ {l : List (DataW H)} {d : DataW H} {r : Nat}, d ∈ l → r ∈ d.weights P e → r ∈ DataW.weightsAll P e l
  | [], _, _, h, _ => absurd h (by simp)
  | x :: l, d, r, h, hr => by
    rw [DataW.weightsAll]
    rcases List.mem_cons.1 h with rfl | h
    · exact List.mem_append_left _ hr
    · exact List.mem_append_right _ (mem_weightsAll h hr)
theorem ints_wt {t e : TypeId} {k : IntKind} {fuel K : Nat} {v : Value} {x : DataW H × List MemPlace} (ht : P.underlying t = some (.slice e)) (he : P.underlying e = some (.int k)) (hc : P.cellsOf e = 1)
    (h : DataW.trod enc P W 0 (fun _ => true) true fuel t [v] = some x) (hK : ∀ q ∈ x.1.weights P t, q ≤ K) (A : Option Addr) (n c : Nat) (hv : v = .slice A n c) : n * P.bytesOf e ≤ K := by
  rcases open_ints ht he hc h with ⟨hcs, hx⟩ | ⟨a, len, cap, zs, hcs, _, hl, hm, hz, hx, hcell, hwz⟩
  · injection hcs with hcs
    rw [hcs] at hv
    injection hv with _ h2 _
    subst h2
    omega
  · injection hcs with hcs
    rw [hcs] at hv
    injection hv with _ h2 _
    subst h2
    simp only [if_true] at hz
    have h1 := hK ((zs.take len).length * P.bytesOf e + (zs.drop len).length * P.bytesOf e) (by
      rw [hx]
      simp [DataW.weights, ht, lits, Nat.add_mul])
    have h3 : (zs.take len).length = len := by simp; omega
    rw [h3] at h1
    omega
theorem dv_wt {td e : TypeId} {k0 k1 k2 : Field} {fuel K : Nat} {c0 c1 c2 : Value} {x : DataW H × List MemPlace} (hs : P.underlying td = some (.struct #[k0, k1, k2])) (hone : oneCellFields P #[k0, k1, k2] = true)
    (ht : P.underlying k1.type = some (.slice e)) (he : P.underlying e = some (.int .u32)) (hc : P.cellsOf e = 1)
    (h : DataW.trod enc P W 0 (fun _ => true) true fuel td [c0, c1, c2] = some x) (hK : ∀ q ∈ x.1.weights P td, q ≤ K) (A : Option Addr) (n c : Nat) (hv : c1 = .slice A n c) : n * P.bytesOf e ≤ K := by
  obtain ⟨y0, y1, y2, n', hx, _, h0, h1, h2⟩ := trod_struct3 hs h
  obtain ⟨o1, q1⟩ := hone_of hone 1 k1 rfl
  simp only [o1, q1, List.take_succ_cons, List.take_zero, List.drop_succ_cons, List.drop_zero] at h1
  refine ints_wt ht he hc h1 (fun q hq => hK q ?_) A n c hv
  rw [hx]
  simp [DataW.weights, DataW.weightsEach, hs, hq]
theorem mass_sized {t td e : TypeId} {f0 f1 f2 f3 k0 k1 k2 : Field} {fuel : Nat} {cs : List Value} {x : DataW H × List MemPlace} (hs : P.underlying t = some (.struct #[f0, f1, f2, f3]))
    (hoff : (f0.offset, f1.offset, f2.offset, f3.offset) = (0, 3, 6, 9)) (hty : (f0.type, f1.type, f2.type, f3.type) = (td, td, td, td)) (hC : P.cellsOf t = 12)
    (hd : P.underlying td = some (.struct #[k0, k1, k2])) (hone : oneCellFields P #[k0, k1, k2] = true) (hC3 : P.cellsOf td = 3)
    (v0 : P.underlying k0.type = some .bool) (ht : P.underlying k1.type = some (.slice e)) (he : P.underlying e = some (.int .u32)) (hc : P.cellsOf e = 1) (v2 : P.underlying k2.type = some (.int .i64))
    (h : DataW.trod enc P W 0 (fun _ => true) true fuel t cs = some x) (hfz : ∀ b off, MemPlace.cell b off ∈ x.2 → W.frozen? ⟨b, off, none⟩ = false) (hlt : ∀ q ∈ x.2, q.block < W.heap.size) :
    ∃ m : Ma.Mv, cs = [.bool m.S.s, .slice m.S.A m.S.n m.S.c, .int .i64 m.S.e, .bool m.W.s, .slice m.W.A m.W.n m.W.c, .int .i64 m.W.e, .bool m.C.s, .slice m.C.A m.C.n m.C.c, .int .i64 m.C.e, .bool m.A.s, .slice m.A.A m.A.n m.A.c, .int .i64 m.A.e] ∧
      Ma.MRows W 0 W.heap.size m ∧ ∀ K, (∀ q ∈ x.1.weights P t, q ≤ K) → ∀ y, y < 4 → (m.get y).n * P.bytesOf e ≤ K := by
  simp only [Prod.mk.injEq] at hoff hty
  obtain ⟨a0, a1, a2, a3⟩ := hoff
  obtain ⟨t0, t1, t2, t3⟩ := hty
  obtain ⟨y0, y1, y2, y3, n, hx, hl, h0, h1, h2, h3⟩ := trod_struct4 hs h
  match cs, hl.trans hC with
  | [c0, c1, c2, c3, c4, c5, c6, c7, c8, c9, c10, c11], _ =>
    have hx2 : x.2 = y0.2 ++ (y1.2 ++ (y2.2 ++ y3.2)) := by rw [hx]
    simp only [a0, a1, a2, a3, t0, t1, t2, t3, hC3, List.drop_zero, List.take_succ_cons, List.take_zero, List.drop_succ_cons] at h0 h1 h2 h3
    have z0 := fun K => dv_wt (K := K) hd hone ht he hc h0
    obtain ⟨d0, rfl, rfl, rfl, _, r0⟩ := dv_trod hd hone v0 ht he hc v2 h0 (fun b off hm => hfz b off (by simp [hx2, hm])) (fun q hq => hlt q (by simp [hx2, hq]))
    have z1 := fun K => dv_wt (K := K) hd hone ht he hc h1
    obtain ⟨d1, rfl, rfl, rfl, _, r1⟩ := dv_trod hd hone v0 ht he hc v2 h1 (fun b off hm => hfz b off (by simp [hx2, hm])) (fun q hq => hlt q (by simp [hx2, hq]))
    have z2 := fun K => dv_wt (K := K) hd hone ht he hc h2
    obtain ⟨d2, rfl, rfl, rfl, _, r2⟩ := dv_trod hd hone v0 ht he hc v2 h2 (fun b off hm => hfz b off (by simp [hx2, hm])) (fun q hq => hlt q (by simp [hx2, hq]))
    have z3 := fun K => dv_wt (K := K) hd hone ht he hc h3
    obtain ⟨d3, rfl, rfl, rfl, _, r3⟩ := dv_trod hd hone v0 ht he hc v2 h3 (fun b off hm => hfz b off (by simp [hx2, hm])) (fun q hq => hlt q (by simp [hx2, hq]))
    refine ⟨⟨d0, d1, d2, d3⟩, rfl, ⟨r0, r1, r2, r3⟩, fun K hK => ?_⟩
    have hw : x.1.weights P t = y0.1.weights P td ++ (y1.1.weights P td ++ (y2.1.weights P td ++ (y3.1.weights P td ++ []))) := by
      rw [hx]
      simp [DataW.weights, DataW.weightsEach, hs, t0, t1, t2, t3]
    have m0 : ∀ q ∈ y0.1.weights P td, q ≤ K := fun q hq => hK q (by rw [hw]; simp [hq])
    have m1 : ∀ q ∈ y1.1.weights P td, q ≤ K := fun q hq => hK q (by rw [hw]; simp [hq])
    have m2 : ∀ q ∈ y2.1.weights P td, q ≤ K := fun q hq => hK q (by rw [hw]; simp [hq])
    have m3 : ∀ q ∈ y3.1.weights P td, q ≤ K := fun q hq => hK q (by rw [hw]; simp [hq])
    intro y hy
    have hy4 : y = 0 ∨ y = 1 ∨ y = 2 ∨ y = 3 := by omega
    rcases hy4 with rfl | rfl | rfl | rfl
    · exact z0 K m0 _ _ _ rfl
    · exact z1 K m1 _ _ _ rfl
    · exact z2 K m2 _ _ _ rfl
    · exact z3 K m3 _ _ _ rfl
/-- A list of masses that reads as data. -/
theorem masses_sized {T t td e : TypeId} {f0 f1 f2 f3 k0 k1 k2 : Field} {fuel : Nat} {v : Value} {x : DataW H × List MemPlace} (hT : P.underlying T = some (.slice t)) (hs : P.underlying t = some (.struct #[f0, f1, f2, f3]))
    (hoff : (f0.offset, f1.offset, f2.offset, f3.offset) = (0, 3, 6, 9)) (hty : (f0.type, f1.type, f2.type, f3.type) = (td, td, td, td)) (hC : P.cellsOf t = 12)
    (hd : P.underlying td = some (.struct #[k0, k1, k2])) (hone : oneCellFields P #[k0, k1, k2] = true) (hC3 : P.cellsOf td = 3)
    (v0 : P.underlying k0.type = some .bool) (ht : P.underlying k1.type = some (.slice e)) (he : P.underlying e = some (.int .u32)) (hc : P.cellsOf e = 1) (v2 : P.underlying k2.type = some (.int .i64))
    (h : DataW.trod enc P W 0 (fun _ => true) true fuel T [v] = some x) (hfz : ∀ b off, MemPlace.cell b off ∈ x.2 → W.frozen? ⟨b, off, none⟩ = false) (hlt : ∀ q ∈ x.2, q.block < W.heap.size) :
    ∃ A n c ms, v = .slice A n c ∧ n ≤ c ∧ c ≤ maxLen ∧ Ma.LMs W 0 W.heap.size A n ms ∧ ∀ K, (∀ q ∈ x.1.weights P T, q ≤ K) → n * P.bytesOf t ≤ K ∧ ∀ j (h : j < ms.length), ∀ y, y < 4 → (ms[j].get y).n * P.bytesOf e ≤ K := by
  rcases open_slice hT h with ⟨hcs, _⟩ | ⟨a, len, cap, m, k, D, Pl, hcs, _, hl, hm, hmm, hx, hi⟩
  · injection hcs with hcs
    exact ⟨none, 0, 0, [], hcs, Nat.le_refl _, by unfold maxLen; omega, ⟨rfl, by decide, fun h0 => absurd h0 (Nat.lt_irrefl 0), fun j hj => absurd hj (Nat.not_lt_zero _)⟩, fun K _ => ⟨by omega, fun j hj => absurd hj (Nat.not_lt_zero _)⟩⟩
  · injection hcs with hcs
    simp only [if_true] at hmm
    subst hmm
    have hx2 : x.2 = MemPlace.row a (m * P.cellsOf t) ++ (List.range m).flatMap Pl := by rw [hx]
    have hmem : ∀ i, i < m → ∀ q ∈ Pl i, q ∈ x.2 := fun i hi' q hq => by
      rw [hx2]
      exact List.mem_append_right _ (List.mem_flatMap.2 ⟨i, List.mem_range.2 hi', hq⟩)
    have hV : ∀ i, i < m → ∃ q : Ma.Mv, (∀ k, k < 12 → W.cell? ((a.add (i * 12)).add k) = [Value.bool q.S.s, .slice q.S.A q.S.n q.S.c, .int .i64 q.S.e, .bool q.W.s, .slice q.W.A q.W.n q.W.c, .int .i64 q.W.e, .bool q.C.s, .slice q.C.A q.C.n q.C.c, .int .i64 q.C.e, .bool q.A.s, .slice q.A.A q.A.n q.A.c, .int .i64 q.A.e][k]?) ∧ Ma.MRows W 0 W.heap.size q ∧ ∀ K, (∀ r ∈ (D i).weights P t, r ≤ K) → ∀ y, y < 4 → (q.get y).n * P.bytesOf e ≤ K := fun i hi' => by
      obtain ⟨cs', h1, h2⟩ := hi i hi'
      rw [hC] at h1
      obtain ⟨_, _, hcell⟩ := World.cells?_some h1
      obtain ⟨q, e, hq, hz⟩ := mass_sized hs hoff hty hC hd hone hC3 v0 ht he hc v2 h2 (fun b off hm => hfz b off (hmem i hi' _ hm)) (fun q hq => hlt q (hmem i hi' q hq))
      subst e
      exact ⟨q, hcell, hq, hz⟩
    obtain ⟨q, hq⟩ := choose_lt hV
    refine ⟨some a, len, m, (List.range len).map q, hcs, hl, hm, ⟨by simp, by unfold maxLen at hm; omega, fun h0 => ?_, fun j hj => ?_⟩, fun K hK => ?_⟩
    · obtain ⟨b, off, spot⟩ := a
      have hspot : spot = none := by simpa [Addr.add] using World.cell?_spot ((hq 0 (by omega)).1 0 (by decide))
      subst hspot
      have hb : b < W.heap.size := hlt _ (by
        rw [hx2]
        exact List.mem_append_left _ (MemPlace.mem_row.2 ⟨0, by rw [hC]; omega, rfl⟩) : MemPlace.cell b (off + 0) ∈ x.2)
      refine ⟨b, off, rfl, Nat.zero_le _, hb, fun j hj => ?_⟩
      have hj' : j < len := by simpa using hj
      have e : ((List.range len).map q)[j] = q j := by simp
      rw [e]
      have g := (hq j (by omega)).1
      simp only [add_plain] at g
      exact ⟨g 0 (by decide), g 1 (by decide), g 2 (by decide), g 3 (by decide), g 4 (by decide), g 5 (by decide), g 6 (by decide), g 7 (by decide), g 8 (by decide), g 9 (by decide), g 10 (by decide), g 11 (by decide)⟩
    · have e : ((List.range len).map q)[j] = q j := by simp
      rw [e]
      have hj' : j < len := by simpa using hj
      exact (hq j (by omega)).2.1
    · have hw : x.1.weights P T = (len + (m - len)) * P.bytesOf t :: (DataW.weightsAll P t ((List.range len).map D) ++ DataW.weightsAll P t ((List.range (m - len)).map fun j => D (len + j))) := by
        rw [hx]
        simp [DataW.weights, hT]
      refine ⟨?_, fun j hj => ?_⟩
      · have h1 := hK _ (by rw [hw]; exact List.mem_cons_self ..)
        have h2 : len * P.bytesOf t ≤ (len + (m - len)) * P.bytesOf t := Nat.mul_le_mul_right _ (by omega)
        omega
      · have e : ((List.range len).map q)[j] = q j := by simp
        rw [e]
        have hj' : j < len := by simpa using hj
        refine (hq j (by omega)).2.2 K fun r hr => hK r ?_
        rw [hw]
        exact List.mem_cons_of_mem _ (List.mem_append_left _ (mem_weightsAll (List.mem_map.2 ⟨j, List.mem_range.2 hj', rfl⟩) hr))
/-- A list of masses among the arguments. -/
theorem masses_open_sized {T t td e : TypeId} {f0 f1 f2 f3 k0 k1 k2 : Field} {r : Reach} {b0 : Nat} {v : Value} {d : DataW H} {p : List MemPlace} (hT : P.underlying T = some (.slice t)) (hs : P.underlying t = some (.struct #[f0, f1, f2, f3]))
    (hoff : (f0.offset, f1.offset, f2.offset, f3.offset) = (0, 3, 6, 9)) (hty : (f0.type, f1.type, f2.type, f3.type) = (td, td, td, td)) (hC : P.cellsOf t = 12)
    (hd : P.underlying td = some (.struct #[k0, k1, k2])) (hone : oneCellFields P #[k0, k1, k2] = true) (hC3 : P.cellsOf td = 3)
    (v0 : P.underlying k0.type = some .bool) (ht : P.underlying k1.type = some (.slice e)) (he : P.underlying e = some (.int .u32)) (hc : P.cellsOf e = 1) (v2 : P.underlying k2.type = some (.int .i64))
    (hval : Value.okWide P W r b0 T v) (h : DataW.Trod enc P W 0 (fun _ => true) true T v d p) (hfz : ∀ b off, MemPlace.cell b off ∈ p → W.frozen? ⟨b, off, none⟩ = false) (hlt : ∀ q ∈ p, q.block < W.heap.size) :
    ∃ A n c ms, v = .slice A n c ∧ n ≤ c ∧ c ≤ maxLen ∧ Ma.LMs W 0 W.heap.size A n ms ∧ ∀ K, (∀ q ∈ d.weights P T, q ≤ K) → n * P.bytesOf t ≤ K ∧ ∀ j (h : j < ms.length), ∀ y, y < 4 → (ms[j].get y).n * P.bytesOf e ≤ K := by
  obtain ⟨A, n, c, rfl⟩ := okWide_slice hT hval
  obtain ⟨fuel, hf⟩ := h
  exact masses_sized hT hs hoff hty hC hd hone hC3 v0 ht he hc v2 (by simpa [Value.cells] using hf) hfz hlt
end
end Go.Proofs.YtlbkepiflhchdaaDoor
