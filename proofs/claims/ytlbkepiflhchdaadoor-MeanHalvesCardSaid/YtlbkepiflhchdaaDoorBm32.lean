/- Lists of one and three masses; numbers of the chapter's examples; headcountlaw16.of, half: walks (printed by a program of mine). -/
/- headcountlaw16.alive: a walk (printed by a program of mine). -/
import Derived.Test.YtlbkepiflhchdaaDoorBm28
import Derived.Test.YtlbkepiflhchdaaDoorBm19
import Derived.Test.YtlbkepiflhchdaaDoorBm31
import Derived.Test.YtlbkepiflhchdaaDoorBm09
namespace Go.Proofs.YtlbkepiflhchdaaDoor
open Go.RowKit
namespace Ma
open Dp Dy
theorem lms_one1 (w : World) (a : Mv) (ha : MRows w 0 w.heap.size a) {W : World} (hW : w.alloc (.cells #[.bool a.S.s, .slice a.S.A a.S.n a.S.c, .int .i64 a.S.e, .bool a.W.s, .slice a.W.A a.W.n a.W.c, .int .i64 a.W.e, .bool a.C.s, .slice a.C.A a.C.n a.C.c, .int .i64 a.C.e, .bool a.A.s, .slice a.A.A a.A.n a.A.c, .int .i64 a.A.e] 39) = W) :
    LMs W 0 W.heap.size (some ⟨w.heap.size, 0, none⟩) 1 [a] := by
  subst hW
  have hB := (Below.refl w.heap.size w).alloc (Nat.le_refl _) (.cells #[.bool a.S.s, .slice a.S.A a.S.n a.S.c, .int .i64 a.S.e, .bool a.W.s, .slice a.W.A a.W.n a.W.c, .int .i64 a.W.e, .bool a.C.s, .slice a.C.A a.C.n a.C.c, .int .i64 a.C.e, .bool a.A.s, .slice a.A.A a.A.n a.A.c, .int .i64 a.A.e] 39)
  have hX := heap_alloc_last w (.cells #[.bool a.S.s, .slice a.S.A a.S.n a.S.c, .int .i64 a.S.e, .bool a.W.s, .slice a.W.A a.W.n a.W.c, .int .i64 a.W.e, .bool a.C.s, .slice a.C.A a.C.n a.C.c, .int .i64 a.C.e, .bool a.A.s, .slice a.A.A a.A.n a.A.c, .int .i64 a.A.e] 39)
  have hk : ∀ k v, (#[.bool a.S.s, .slice a.S.A a.S.n a.S.c, .int .i64 a.S.e, .bool a.W.s, .slice a.W.A a.W.n a.W.c, .int .i64 a.W.e, .bool a.C.s, .slice a.C.A a.C.n a.C.c, .int .i64 a.C.e, .bool a.A.s, .slice a.A.A a.A.n a.A.c, .int .i64 a.A.e] : Array Value)[k]? = some v → (w.alloc (.cells #[.bool a.S.s, .slice a.S.A a.S.n a.S.c, .int .i64 a.S.e, .bool a.W.s, .slice a.W.A a.W.n a.W.c, .int .i64 a.W.e, .bool a.C.s, .slice a.C.A a.C.n a.C.c, .int .i64 a.C.e, .bool a.A.s, .slice a.A.A a.A.n a.A.c, .int .i64 a.A.e] 39)).cell? ⟨w.heap.size, k, none⟩ = some v := fun k v hk => by
    simp only [World.cell?, hX]
    simpa using hk
  refine ⟨rfl, by decide, fun _ => ⟨w.heap.size, 0, rfl, Nat.zero_le _, by simp, fun j hj => ?_⟩, fun j hj => ?_⟩
  · match j, hj with
    | 0, _ => exact ⟨hk _ _ rfl, hk _ _ rfl, hk _ _ rfl, hk _ _ rfl, hk _ _ rfl, hk _ _ rfl, hk _ _ rfl, hk _ _ rfl, hk _ _ rfl, hk _ _ rfl, hk _ _ rfl, hk _ _ rfl⟩
  · match j, hj with
    | 0, _ => exact ha.on hB
theorem lms_three3 (w : World) (a b c : Mv) (ha : MRows w 0 w.heap.size a) (hb : MRows w 0 w.heap.size b) (hc : MRows w 0 w.heap.size c) {W : World} (hW : w.alloc (.cells #[.bool a.S.s, .slice a.S.A a.S.n a.S.c, .int .i64 a.S.e, .bool a.W.s, .slice a.W.A a.W.n a.W.c, .int .i64 a.W.e, .bool a.C.s, .slice a.C.A a.C.n a.C.c, .int .i64 a.C.e, .bool a.A.s, .slice a.A.A a.A.n a.A.c, .int .i64 a.A.e, .bool b.S.s, .slice b.S.A b.S.n b.S.c, .int .i64 b.S.e, .bool b.W.s, .slice b.W.A b.W.n b.W.c, .int .i64 b.W.e, .bool b.C.s, .slice b.C.A b.C.n b.C.c, .int .i64 b.C.e, .bool b.A.s, .slice b.A.A b.A.n b.A.c, .int .i64 b.A.e, .bool c.S.s, .slice c.S.A c.S.n c.S.c, .int .i64 c.S.e, .bool c.W.s, .slice c.W.A c.W.n c.W.c, .int .i64 c.W.e, .bool c.C.s, .slice c.C.A c.C.n c.C.c, .int .i64 c.C.e, .bool c.A.s, .slice c.A.A c.A.n c.A.c, .int .i64 c.A.e] 39) = W) :
    LMs W 0 W.heap.size (some ⟨w.heap.size, 0, none⟩) 3 [a, b, c] := by
  subst hW
  have hB := (Below.refl w.heap.size w).alloc (Nat.le_refl _) (.cells #[.bool a.S.s, .slice a.S.A a.S.n a.S.c, .int .i64 a.S.e, .bool a.W.s, .slice a.W.A a.W.n a.W.c, .int .i64 a.W.e, .bool a.C.s, .slice a.C.A a.C.n a.C.c, .int .i64 a.C.e, .bool a.A.s, .slice a.A.A a.A.n a.A.c, .int .i64 a.A.e, .bool b.S.s, .slice b.S.A b.S.n b.S.c, .int .i64 b.S.e, .bool b.W.s, .slice b.W.A b.W.n b.W.c, .int .i64 b.W.e, .bool b.C.s, .slice b.C.A b.C.n b.C.c, .int .i64 b.C.e, .bool b.A.s, .slice b.A.A b.A.n b.A.c, .int .i64 b.A.e, .bool c.S.s, .slice c.S.A c.S.n c.S.c, .int .i64 c.S.e, .bool c.W.s, .slice c.W.A c.W.n c.W.c, .int .i64 c.W.e, .bool c.C.s, .slice c.C.A c.C.n c.C.c, .int .i64 c.C.e, .bool c.A.s, .slice c.A.A c.A.n c.A.c, .int .i64 c.A.e] 39)
  have hX := heap_alloc_last w (.cells #[.bool a.S.s, .slice a.S.A a.S.n a.S.c, .int .i64 a.S.e, .bool a.W.s, .slice a.W.A a.W.n a.W.c, .int .i64 a.W.e, .bool a.C.s, .slice a.C.A a.C.n a.C.c, .int .i64 a.C.e, .bool a.A.s, .slice a.A.A a.A.n a.A.c, .int .i64 a.A.e, .bool b.S.s, .slice b.S.A b.S.n b.S.c, .int .i64 b.S.e, .bool b.W.s, .slice b.W.A b.W.n b.W.c, .int .i64 b.W.e, .bool b.C.s, .slice b.C.A b.C.n b.C.c, .int .i64 b.C.e, .bool b.A.s, .slice b.A.A b.A.n b.A.c, .int .i64 b.A.e, .bool c.S.s, .slice c.S.A c.S.n c.S.c, .int .i64 c.S.e, .bool c.W.s, .slice c.W.A c.W.n c.W.c, .int .i64 c.W.e, .bool c.C.s, .slice c.C.A c.C.n c.C.c, .int .i64 c.C.e, .bool c.A.s, .slice c.A.A c.A.n c.A.c, .int .i64 c.A.e] 39)
  have hk : ∀ k v, (#[.bool a.S.s, .slice a.S.A a.S.n a.S.c, .int .i64 a.S.e, .bool a.W.s, .slice a.W.A a.W.n a.W.c, .int .i64 a.W.e, .bool a.C.s, .slice a.C.A a.C.n a.C.c, .int .i64 a.C.e, .bool a.A.s, .slice a.A.A a.A.n a.A.c, .int .i64 a.A.e, .bool b.S.s, .slice b.S.A b.S.n b.S.c, .int .i64 b.S.e, .bool b.W.s, .slice b.W.A b.W.n b.W.c, .int .i64 b.W.e, .bool b.C.s, .slice b.C.A b.C.n b.C.c, .int .i64 b.C.e, .bool b.A.s, .slice b.A.A b.A.n b.A.c, .int .i64 b.A.e, .bool c.S.s, .slice c.S.A c.S.n c.S.c, .int .i64 c.S.e, .bool c.W.s, .slice c.W.A c.W.n c.W.c, .int .i64 c.W.e, .bool c.C.s, .slice c.C.A c.C.n c.C.c, .int .i64 c.C.e, .bool c.A.s, .slice c.A.A c.A.n c.A.c, .int .i64 c.A.e] : Array Value)[k]? = some v → (w.alloc (.cells #[.bool a.S.s, .slice a.S.A a.S.n a.S.c, .int .i64 a.S.e, .bool a.W.s, .slice a.W.A a.W.n a.W.c, .int .i64 a.W.e, .bool a.C.s, .slice a.C.A a.C.n a.C.c, .int .i64 a.C.e, .bool a.A.s, .slice a.A.A a.A.n a.A.c, .int .i64 a.A.e, .bool b.S.s, .slice b.S.A b.S.n b.S.c, .int .i64 b.S.e, .bool b.W.s, .slice b.W.A b.W.n b.W.c, .int .i64 b.W.e, .bool b.C.s, .slice b.C.A b.C.n b.C.c, .int .i64 b.C.e, .bool b.A.s, .slice b.A.A b.A.n b.A.c, .int .i64 b.A.e, .bool c.S.s, .slice c.S.A c.S.n c.S.c, .int .i64 c.S.e, .bool c.W.s, .slice c.W.A c.W.n c.W.c, .int .i64 c.W.e, .bool c.C.s, .slice c.C.A c.C.n c.C.c, .int .i64 c.C.e, .bool c.A.s, .slice c.A.A c.A.n c.A.c, .int .i64 c.A.e] 39)).cell? ⟨w.heap.size, k, none⟩ = some v := fun k v hk => by
    simp only [World.cell?, hX]
    simpa using hk
  refine ⟨rfl, by decide, fun _ => ⟨w.heap.size, 0, rfl, Nat.zero_le _, by simp, fun j hj => ?_⟩, fun j hj => ?_⟩
  · match j, hj with
    | 0, _ => exact ⟨hk _ _ rfl, hk _ _ rfl, hk _ _ rfl, hk _ _ rfl, hk _ _ rfl, hk _ _ rfl, hk _ _ rfl, hk _ _ rfl, hk _ _ rfl, hk _ _ rfl, hk _ _ rfl, hk _ _ rfl⟩
    | 1, _ => exact ⟨hk _ _ rfl, hk _ _ rfl, hk _ _ rfl, hk _ _ rfl, hk _ _ rfl, hk _ _ rfl, hk _ _ rfl, hk _ _ rfl, hk _ _ rfl, hk _ _ rfl, hk _ _ rfl, hk _ _ rfl⟩
    | 2, _ => exact ⟨hk _ _ rfl, hk _ _ rfl, hk _ _ rfl, hk _ _ rfl, hk _ _ rfl, hk _ _ rfl, hk _ _ rfl, hk _ _ rfl, hk _ _ rfl, hk _ _ rfl, hk _ _ rfl, hk _ _ rfl⟩
  · match j, hj with
    | 0, _ => exact ha.on hB
    | 1, _ => exact hb.on hB
    | 2, _ => exact hc.on hB

theorem mid_of {A B s m d : Dn} (h1 : addD A B = (s, 0)) (h2 : halfD s = (m, 0)) (h3 : subD m A = (d, 0)) : midD A B = ((m, d), 0) := by
  unfold midD
  rw [h1]
  simp only
  rw [h2]
  simp only
  rw [h3, if_pos ⟨by trivial, by trivial, by trivial⟩]
theorem meet_of {R S : Nat → Dn} {a b : Mv} (ha : IsM R a) (hb : IsM S b) (hr : MayR R) (hs : MayR S) {m2 d2 m3 d3 : Dn} (h2 : midD (R 2) (S 2) = ((m2, d2), 0)) (h3 : midD (R 3) (S 3) = ((m3, d3), 0)) :
    ∃ mR lR, meetM a b = ((mR, lR), 0) ∧ (mR 0 = S 0 ∧ mR 1 = S 1 ∧ mR 2 = m2 ∧ mR 3 = m3) ∧ (lR 0 = Dn.zero ∧ lR 1 = Dn.zero ∧ lR 2 = d2 ∧ lR 3 = d3) := by
  unfold meetM
  rw [if_pos ⟨ha.may hr, hb.may hs⟩, ha.dnm 2 (by decide), ha.dnm 3 (by decide), hb.dnm 2 (by decide), hb.dnm 3 (by decide), h2, h3, if_pos ⟨rfl, rfl⟩]
  exact ⟨_, _, rfl, ⟨hb.dnm 0 (by decide), hb.dnm 1 (by decide), rfl, rfl⟩, ⟨rfl, rfl, rfl, rfl⟩⟩
theorem far_of {ms : List Mv} (hl : ms.length ≤ 4096) (hm : ∀ m ∈ ms, m.may) {x y : Dn} (h2 : farL (colM 2 ms) = (x, 0)) (h3 : farL (colM 3 ms) = (y, 0)) : farM ms = ((x, y), 0) := by
  unfold farM
  rw [if_neg (by omega), if_neg (fun ⟨m, h, hn⟩ => hn (hm m h)), h2, h3, if_pos ⟨rfl, rfl⟩]
/-- Whole C and A. -/
def ofR (s : Bool) (v : Nat) (t : Bool) (u : Nat) (x : Nat) : Dn := if x = 2 then ⟨s, v, 0⟩ else if x = 3 then ⟨t, u, 0⟩ else Dn.zero
theorem small (s : Bool) (m : Nat) (h0 : m ≠ 0) (h1 : m < 16) : Dn.May ⟨s, m, 0⟩ := may_small _ _ _ h0 h1 (by decide) (fun h => absurd h (Nat.lt_irrefl 0))
theorem ofR_may {s t : Bool} {v u : Nat} (h : Dn.May ⟨s, v, 0⟩) (h' : Dn.May ⟨t, u, 0⟩) : MayR (ofR s v t u) := four zero_may zero_may h h'
theorem md1 : midD ⟨false, 1, 0⟩ ⟨false, 0, 0⟩ = ((⟨false, 1, 1⟩, ⟨true, 1, 1⟩), 0) :=
  mid_of (add_zero (small _ _ (by decide) (by decide))) (formed_of (K := 1) (may_small _ _ _ (by decide) (by decide) (by decide) (by decide)) (by decide) (by decide) (by decide)) (sub_of (K := 2) (may_small _ _ _ (by decide) (by decide) (by decide) (by decide)) (by decide) (by decide) (by decide) (by decide))
theorem md2 : midD ⟨false, 6, 0⟩ ⟨false, 2, 0⟩ = ((⟨false, 4, 0⟩, ⟨true, 2, 0⟩), 0) :=
  mid_of (s := ⟨false, 8, 0⟩) (add_of (K := 1) (may_small _ _ _ (by decide) (by decide) (by decide) (by decide)) (by decide) (by decide) (by decide) (by decide)) (formed_of (K := 1) (may_small _ _ _ (by decide) (by decide) (by decide) (by decide)) (by decide) (by decide) (by decide)) (sub_of (K := 2) (may_small _ _ _ (by decide) (by decide) (by decide) (by decide)) (by decide) (by decide) (by decide) (by decide))
theorem fl1 : farL [⟨false, 0, 0⟩, ⟨false, 0, 0⟩, ⟨false, 0, 0⟩] = (Dn.zero, 0) := by
  have e : endsL [⟨false, 0, 0⟩, ⟨false, 0, 0⟩, ⟨false, 0, 0⟩] = some (⟨false, 0, 0⟩, ⟨false, 0, 0⟩) := by rfl
  unfold farL
  rw [e]
  exact sub_of (K := 0) zero_may (by decide) (by decide) (by decide) (by decide)
theorem fl2 : farL [⟨false, 6, 0⟩, ⟨false, 2, 0⟩, ⟨false, 3, 0⟩] = (⟨false, 4, 0⟩, 0) := by
  have e : endsL [⟨false, 6, 0⟩, ⟨false, 2, 0⟩, ⟨false, 3, 0⟩] = some (⟨false, 2, 0⟩, ⟨false, 6, 0⟩) := by rfl
  unfold farL
  rw [e]
  exact sub_of (K := 0) (may_small _ _ _ (by decide) (by decide) (by decide) (by decide)) (by decide) (by decide) (by decide) (by decide)
set_option maxHeartbeats 3200000 in
set_option maxRecDepth 100000 in
theorem of16_any (w : World) (x y : Int) (s t : Bool) (v u : Nat) (x0 : -9223372036854775808 ≤ x) (x1 : x ≤ 9223372036854775807) (y0 : -9223372036854775808 ≤ y) (y1 : y ≤ 9223372036854775807) (hs : decide (x < 0) = s) (hv : x.natAbs = v) (ht : decide (y < 0) = t) (hu : y.natAbs = u) :
    Calls Tryd.prog 88 #[.int .i64 x, .int .i64 y] w fun e w' => ∃ m : Mv, e = .returned (.agg #[.bool m.S.s, .slice m.S.A m.S.n m.S.c, .int .i64 m.S.e, .bool m.W.s, .slice m.W.A m.W.n m.W.c, .int .i64 m.W.e, .bool m.C.s, .slice m.C.A m.C.n m.C.c, .int .i64 m.C.e, .bool m.A.s, .slice m.A.A m.A.n m.A.c, .int .i64 m.A.e]) ∧ Below w.heap.size w w' ∧ IsM (ofR s v t u) m ∧ MRows w' w.heap.size w'.heap.size m := by
  obtain ⟨w1, hw, X1, hb, l1⟩ := alloc_z w
  have HS := Lib.hid hs
  have HV := Lib.hid hv
  have HT := Lib.hid ht
  have HU := Lib.hid hu
  clear hs hv ht hu
  go_enter Tryd.func88, Tryd.ntmps88
  go_wp2_with fail
  try clear hw
  refine (Of_any w1 x x0 x1 s v HS.out HV.out).mono ?_
  rintro e w2 ⟨A1, n1, rfl, hB, hI⟩
  have l2 := hB.size
  replace X1 : MBox w2 w.heap.size ZM := (hB.block _ (by omega)).trans X1
  replace hb := hb.trans (hB.mono (by omega))
  clear hB
  go_wp2_with fail
  refine (Of_any w2 y y0 y1 t u HT.out HU.out).mono ?_
  rintro e w3 ⟨A2, n2, rfl, hB, hI2⟩
  have l3 := hB.size
  replace X1 : MBox w3 w.heap.size ZM := (hB.block _ (by omega)).trans X1
  replace hb := hb.trans (hB.mono (by omega))
  replace hI := hI.below hB (Nat.le_refl _)
  clear hB
  obtain ⟨M, hM⟩ : ∃ M : Mv, M = ⟨⟨false, none, 0, 0, 0, []⟩, ⟨false, none, 0, 0, 0, []⟩, ⟨s, A1, n1, n1, 0, canon 4294967296 v⟩, ⟨t, A2, n2, n2, 0, canon 4294967296 u⟩⟩ := ⟨_, rfl⟩
  obtain ⟨⟨k0, k1, k2, k3, k4, k5, k6, k7, k8, k9, k10, k11⟩, kf⟩ := MBox.cells X1
  obtain ⟨U, hc, hX, hbU, hf, s1, s2⟩ := all_to X1 ⟨⟨false, none, 0, 0, 0, []⟩, ⟨false, none, 0, 0, 0, []⟩, ⟨s, A1, n1, n1, 0, canon 4294967296 v⟩, ⟨t, A2, n2, n2, 0, canon 4294967296 u⟩⟩
  go_wp2
  try rw [hc]
  clear hc k0 k1 k2 k3 k4 k5 k6 k7 k8 k9 k10 k11 kf
  rw [← hM] at hX
  have hQ := hbU _ _ hb (Nat.le_refl _)
  have R1 : Ints U w.heap.size U.heap.size .u32 A1 n1 (canon 4294967296 v) := (ints_rng hI (w' := U) (fun b h1 h2 => hf b (by omega))).more (by omega) (by omega)
  have R2 : Ints U w.heap.size U.heap.size .u32 A2 n2 (canon 4294967296 u) := (ints_rng hI2 (w' := U) (fun b h1 h2 => hf b (by omega))).more (by omega) (by omega)
  obtain ⟨⟨k0, k1, k2, k3, k4, k5, k6, k7, k8, k9, k10, k11⟩, kf⟩ := MBox.cells hX
  refine bodyPost_ret (v := .agg #[.bool M.S.s, .slice M.S.A M.S.n M.S.c, .int .i64 M.S.e, .bool M.W.s, .slice M.W.A M.W.n M.W.c, .int .i64 M.W.e, .bool M.C.s, .slice M.C.A M.C.n M.C.c, .int .i64 M.C.e, .bool M.A.s, .slice M.A.A M.A.n M.A.c, .int .i64 M.A.e]) (by simp [results, Tryd.results88, go_sem, k0, k1, k2, k3, k4, k5, k6, k7, k8, k9, k10, k11]) rfl ⟨M, rfl, hQ, ?_, ?_⟩
  · rw [hM]
    exact four Is.zero Is.zero ⟨rfl, rfl, rfl⟩ ⟨rfl, rfl, rfl⟩
  · rw [hM]
    exact ⟨Ints.nil_ .., Ints.nil_ .., R1, R2⟩
set_option maxHeartbeats 3200000 in
set_option maxRecDepth 100000 in
theorem half16_any (w : World) (b : Bool) (r : Dn) (hr : r = ⟨b, 1, 1⟩) :
    Calls Tryd.prog 60 #[.bool b] w fun e w' => ∃ A n c, e = .returned (.agg #[.bool r.neg, .slice A n c, .int .i64 r.e]) ∧ Below w.heap.size w w' ∧ Ints w' w.heap.size w'.heap.size .u32 A n (canon 4294967296 r.m) := by
  subst hr
  generalize hw : (w.alloc (.cells #[.bool false, .slice none 0 0, .int .i64 0] 24)).alloc (.cells #[.int .u32 1] 52) = w1
  obtain ⟨X1, X2, hb, lo1, hi1⟩ := boxes2 w _ _ hw
  replace X1 : w1.heap[w.heap.size]? = some (.cells #[.bool false, .slice none 0 0, .int .i64 0] 24 (0, 0)) := X1
  replace X2 : w1.heap[w.heap.size + 1]? = some (.cells #[.int .u32 1] 52 (0, 0)) := X2
  obtain ⟨U, hc, hX, hbU, hf, s1, s2⟩ := zput X1 (.bool b) (.slice (some ⟨w.heap.size + 1, 0, none⟩) 1 1) (.int .i64 1)
  obtain ⟨⟨p0, p1, p2⟩, p3, p4, p5⟩ := boxD X1
  go_enter Tryd.func60, Tryd.ntmps60
  go_wp2
  try rw [hc]
  clear hc hw p0 p1 p2 p3 p4 p5
  have hQ := hbU _ _ hb (Nat.le_refl _)
  have X3 := (hf (w.heap.size + 1) (by omega)).trans X2
  obtain ⟨⟨p0, p1, p2⟩, _⟩ := boxD hX
  have I1 : Ints U w.heap.size U.heap.size .u32 (some ⟨w.heap.size + 1, 0, none⟩) 1 (canon 4294967296 1) := by
    rw [canon_one 1 (by decide) (by decide)]
    exact ⟨rfl, by decide, by decide, fun _ => ⟨_, 0, rfl, by omega, by omega, fun j hj => by
      obtain rfl : j = 0 := by omega
      exact ⟨cell_of_row _ _ 0 _ _ _ X3, frozen_of_row _ _ 0 _ _ X3⟩⟩⟩
  exact bodyPost_ret (v := .agg #[.bool b, .slice (some ⟨w.heap.size + 1, 0, none⟩) 1 1, .int .i64 1]) (by simp [results, Tryd.results60, go_sem, p0, p1, p2]) rfl ⟨_, _, _, rfl, hQ, I1⟩
end Ma
end Go.Proofs.YtlbkepiflhchdaaDoor

namespace Go.Proofs.YtlbkepiflhchdaaDoor
open Go.RowKit
namespace Ma
open Dp Dy
theorem alive_far {a b c : Mv} (ha : IsM (ofR false 0 false 6) a) (hb : IsM (ofR false 0 false 2) b) (hc : IsM (ofR false 0 false 3) c) : farM [a, b, c] = ((Dn.zero, ⟨false, 4, 0⟩), 0) := by
  refine far_of (by simp) (fun m hm => ?_) ?_ ?_
  · have m6 := ofR_may (s := false) (v := 0) zero_may (small false 6 (by decide) (by decide))
    have m2 := ofR_may (s := false) (v := 0) zero_may (small false 2 (by decide) (by decide))
    have m3 := ofR_may (s := false) (v := 0) zero_may (small false 3 (by decide) (by decide))
    simp only [List.mem_cons, List.not_mem_nil, or_false] at hm
    rcases hm with rfl | rfl | rfl
    · exact ha.may m6
    · exact hb.may m2
    · exact hc.may m3
  · have e : colM 2 [a, b, c] = [⟨false, 0, 0⟩, ⟨false, 0, 0⟩, ⟨false, 0, 0⟩] := by
      simp only [colM, List.map_cons, List.map_nil]
      rw [ha.dnm 2 (by decide), hb.dnm 2 (by decide), hc.dnm 2 (by decide)]
      rfl
    rw [e]
    exact fl1
  · have e : colM 3 [a, b, c] = [⟨false, 6, 0⟩, ⟨false, 2, 0⟩, ⟨false, 3, 0⟩] := by
      simp only [colM, List.map_cons, List.map_nil]
      rw [ha.dnm 3 (by decide), hb.dnm 3 (by decide), hc.dnm 3 (by decide)]
      rfl
    rw [e]
    exact fl2
set_option maxHeartbeats 25600000 in
set_option maxRecDepth 100000 in
theorem alive16_any (w : World) (hT : Tab w) : Calls Tryd.prog 61 #[] w fun e w' => e = .returned (.bool true) ∧ Below w.heap.size w w' := by
  have a_ : Amid w w := ⟨Below.refl _ _, hT⟩
  obtain ⟨r, hr⟩ : ∃ r : Dn, r = ⟨false, 1, 1⟩ := ⟨_, rfl⟩
  obtain ⟨q, hq⟩ : ∃ q : Dn, q = ⟨true, 1, 1⟩ := ⟨_, rfl⟩
  have HR := Lib.hid hr
  have HQ := Lib.hid hq
  clear hr hq
  go_enter Tryd.func61, Tryd.ntmps61
  go_wp2_with fail
  refine (of16_any w 1 6 false false 1 6 (by decide) (by decide) (by decide) (by decide) rfl rfl rfl rfl).mono ?_
  rintro e' w_1 ⟨a, rfl, hB, ha, ra⟩
  have lw_1 : w.heap.size ≤ w_1.heap.size := hB.size
  replace a_ := Amid.on a_ hB
  have Ra := MRows.more ra (Nat.zero_le _) (Nat.le_refl _)
  clear ra
  replace ha := Lib.hid ha
  
  clear hB
  go_wp2_with fail
  refine (of16_any w_1 0 2 false false 0 2 (by decide) (by decide) (by decide) (by decide) rfl rfl rfl rfl).mono ?_
  rintro e' w_2 ⟨b, rfl, hB, hb, rb⟩
  have lw_2 : w_1.heap.size ≤ w_2.heap.size := hB.size
  replace Ra := MRows.on Ra hB
  replace a_ := Amid.on a_ hB
  have Rb := MRows.more rb (Nat.zero_le _) (Nat.le_refl _)
  clear rb
  replace hb := Lib.hid hb
  
  clear hB
  obtain ⟨mR, lR, hmt, hmR, hlR⟩ := meet_of ha.out hb.out (ofR_may (small false 1 (by decide) (by decide)) (small false 6 (by decide) (by decide))) (ofR_may zero_may (small false 2 (by decide) (by decide))) md1 md2
  have HMT := Lib.hid hmt
  replace hmR := Lib.hid hmR
  replace hlR := Lib.hid hlR
  clear hmt
  go_wp2_with fail
  refine (Meet_num w_2 a b Ra Rb a_.tab mR lR 0 HMT.out).mono ?_
  rintro e' w_3 ⟨m, d, rfl, hB, hm, hd, B1, lb1, lb2, rm, rd⟩
  have lw_3 : w_2.heap.size ≤ w_3.heap.size := hB.size
  replace Ra := MRows.on Ra hB
  replace Rb := MRows.on Rb hB
  replace a_ := Amid.on a_ hB
  have Rm := MRows.more rm (Nat.zero_le _) lb2
  have Rd := MRows.more rd (Nat.zero_le _) (Nat.le_refl _)
  clear rm rd lb1 lb2
  replace hm := Lib.hid hm
  replace hd := Lib.hid hd
  clear hB
  generalize hww_4 : (w_3.alloc (.cells #[.bool m.S.s, .slice m.S.A m.S.n m.S.c, .int .i64 m.S.e, .bool m.W.s, .slice m.W.A m.W.n m.W.c, .int .i64 m.W.e, .bool m.C.s, .slice m.C.A m.C.n m.C.c, .int .i64 m.C.e, .bool m.A.s, .slice m.A.A m.A.n m.A.c, .int .i64 m.A.e] 39)).alloc (.cells #[.bool d.S.s, .slice d.S.A d.S.n d.S.c, .int .i64 d.S.e, .bool d.W.s, .slice d.W.A d.W.n d.W.c, .int .i64 d.W.e, .bool d.C.s, .slice d.C.A d.C.n d.C.c, .int .i64 d.C.e, .bool d.A.s, .slice d.A.A d.A.n d.A.c, .int .i64 d.A.e] 39) = w_4 at *
  obtain ⟨hMm, hMd, hB, low_4, hiw_4⟩ := boxes2 w_3 _ _ hww_4
  replace hB : Below w_3.heap.size w_3 w_4 := hB
  have lw_4 : w_3.heap.size ≤ w_4.heap.size := hB.size
  replace Rm := MRows.on Rm hB
  replace Rd := MRows.on Rd hB
  replace a_ := Amid.on a_ hB
  replace hMm : MBox w_4 w_3.heap.size m := hMm
  replace hMd : MBox w_4 (w_3.heap.size + 1) d := hMd
  clear hB
  go_wp2_with fail
  refine (of16_any w_4 0 6 false false 0 6 (by decide) (by decide) (by decide) (by decide) rfl rfl rfl rfl).mono ?_
  rintro e' w_5 ⟨u, rfl, hB, hu, ru⟩
  have lw_5 : w_4.heap.size ≤ w_5.heap.size := hB.size
  replace hMm := box_on hMm hB (by omega)
  replace hMd := box_on hMd hB (by omega)
  replace Rm := MRows.on Rm hB
  replace Rd := MRows.on Rd hB
  replace a_ := Amid.on a_ hB
  have Ru := MRows.more ru (Nat.zero_le _) (Nat.le_refl _)
  clear ru
  replace hu := Lib.hid hu
  try clear hww_4
  clear hB
  go_wp2_with fail
  refine (of16_any w_5 0 2 false false 0 2 (by decide) (by decide) (by decide) (by decide) rfl rfl rfl rfl).mono ?_
  rintro e' w_6 ⟨v, rfl, hB, hv, rv⟩
  have lw_6 : w_5.heap.size ≤ w_6.heap.size := hB.size
  replace hMm := box_on hMm hB (by omega)
  replace hMd := box_on hMd hB (by omega)
  replace Rm := MRows.on Rm hB
  replace Rd := MRows.on Rd hB
  replace Ru := MRows.on Ru hB
  replace a_ := Amid.on a_ hB
  have Rv := MRows.more rv (Nat.zero_le _) (Nat.le_refl _)
  clear rv
  replace hv := Lib.hid hv
  
  clear hB
  go_wp2_with fail
  refine (of16_any w_6 0 3 false false 0 3 (by decide) (by decide) (by decide) (by decide) rfl rfl rfl rfl).mono ?_
  rintro e' w_7 ⟨x, rfl, hB, hx, rx⟩
  have lw_7 : w_6.heap.size ≤ w_7.heap.size := hB.size
  replace hMm := box_on hMm hB (by omega)
  replace hMd := box_on hMd hB (by omega)
  replace Rm := MRows.on Rm hB
  replace Rd := MRows.on Rd hB
  replace Ru := MRows.on Ru hB
  replace Rv := MRows.on Rv hB
  replace a_ := Amid.on a_ hB
  have Rx := MRows.more rx (Nat.zero_le _) (Nat.le_refl _)
  clear rx
  replace hx := Lib.hid hx
  
  clear hB
  go_wp2_with fail
  generalize hww_8 : w_7.alloc (.cells #[.bool u.S.s, .slice u.S.A u.S.n u.S.c, .int .i64 u.S.e, .bool u.W.s, .slice u.W.A u.W.n u.W.c, .int .i64 u.W.e, .bool u.C.s, .slice u.C.A u.C.n u.C.c, .int .i64 u.C.e, .bool u.A.s, .slice u.A.A u.A.n u.A.c, .int .i64 u.A.e, .bool v.S.s, .slice v.S.A v.S.n v.S.c, .int .i64 v.S.e, .bool v.W.s, .slice v.W.A v.W.n v.W.c, .int .i64 v.W.e, .bool v.C.s, .slice v.C.A v.C.n v.C.c, .int .i64 v.C.e, .bool v.A.s, .slice v.A.A v.A.n v.A.c, .int .i64 v.A.e, .bool x.S.s, .slice x.S.A x.S.n x.S.c, .int .i64 x.S.e, .bool x.W.s, .slice x.W.A x.W.n x.W.c, .int .i64 x.W.e, .bool x.C.s, .slice x.C.A x.C.n x.C.c, .int .i64 x.C.e, .bool x.A.s, .slice x.A.A x.A.n x.A.c, .int .i64 x.A.e] 39) = w_8 at *
  have hLL := lms_three3 w_7 u v x Ru Rv Rx hww_8
  have hB : Below w_7.heap.size w_7 w_8 := by rw [← hww_8]; exact (Below.refl _ _).alloc (Nat.le_refl _) _
  have lw_8 : w_7.heap.size ≤ w_8.heap.size := hB.size
  replace hMm := box_on hMm hB (by omega)
  replace hMd := box_on hMd hB (by omega)
  replace Rm := MRows.on Rm hB
  replace Rd := MRows.on Rd hB
  replace Ru := MRows.on Ru hB
  replace Rv := MRows.on Rv hB
  replace Rx := MRows.on Rx hB
  replace a_ := Amid.on a_ hB
  clear hB
  refine (Far_num w_8 _ 3 3 [u, v, x] hLL (by decide) a_.tab Dn.zero ⟨false, 4, 0⟩ 0 (alive_far hu.out hv.out hx.out)).mono ?_
  rintro e' w_9 ⟨X, Y, rfl, hB, hX, hY, B2, lb1, lb2, iX, iY⟩
  have lw_9 : w_8.heap.size ≤ w_9.heap.size := hB.size
  replace hMm := box_on hMm hB (by omega)
  replace hMd := box_on hMd hB (by omega)
  replace Rm := MRows.on Rm hB
  replace Rd := MRows.on Rd hB
  replace Ru := MRows.on Ru hB
  replace Rv := MRows.on Rv hB
  replace Rx := MRows.on Rx hB
  replace a_ := Amid.on a_ hB
  try clear hww_8
  clear hLL
  have IY : Ints w_9 0 w_9.heap.size .u32 Y.A Y.n Y.xs := iY.more (Nat.zero_le _) (Nat.le_refl _)
  clear iX iY hX lb1 lb2
  replace hY := Lib.hid hY
  clear hB
  go_wp2_with fail
  generalize hww_10 : (w_9.alloc (.cells #[.bool X.s, .slice X.A X.n X.c, .int .i64 X.e] 24)).alloc (.cells #[.bool Y.s, .slice Y.A Y.n Y.c, .int .i64 Y.e] 24) = w_10 at *
  obtain ⟨_, hDY, hB, low_10, hiw_10⟩ := boxes2 w_9 _ _ hww_10
  replace hB : Below w_9.heap.size w_9 w_10 := hB
  replace hDY : w_10.heap[w_9.heap.size + 1]? = some (.cells #[.bool Y.s, .slice Y.A Y.n Y.c, .int .i64 Y.e] 24 (0, 0)) := hDY
  have lw_10 : w_9.heap.size ≤ w_10.heap.size := hB.size
  replace hMm := box_on hMm hB (by omega)
  replace hMd := box_on hMd hB (by omega)
  replace Rm := MRows.on Rm hB
  replace Rd := MRows.on Rd hB
  replace IY := ints_on IY hB
  replace a_ := Amid.on a_ hB
  clear hB
  try clear hww_10
  refine region_E (Keeps w_10) [] (m := 26) (L := #[false, false, false, false, false, false, false, false, false, false, false, false, false, false, false, false, false, false, false, false, false, false, false, false, false, false]) (by kernel_rfl) (by rfl) (by rfl) ?_
  have kp_ : Keeps w_10 w_10.drew := fun _ _ => rfl
  have hB : Below w_10.heap.size w_10 w_10.drew := (Below.refl _ _).drew
  replace Rm : MRows w_10.drew 0 w_10.drew.heap.size _ := MRows.on Rm hB
  replace Rd : MRows w_10.drew 0 w_10.drew.heap.size _ := MRows.on Rd hB
  replace IY : Ints w_10.drew 0 w_10.drew.heap.size .u32 _ _ _ := ints_on IY hB
  replace a_ := Amid.on a_ hB
  have lw_11 : w_10.heap.size ≤ w_10.drew.heap.size := hB.size
  clear hB
  generalize w_10.drew = w_11 at *
  refine pureE (i := 0) (L := #[true, false, false, false, false, false, false, false, false, false, false, false, false, false, false, false, false, false, false, false, false, false, false, false, false, false]) (v := ?_) rfl (by rfl) (by kernel_rfl) (by kernel_rfl) (by kernel_rfl) (fun _ _ _ h => h) (by rfl) ?hy1 ?rest1
  case hy1 => intro w; go_simp; (try with_reducible rfl)
  try simp only [Act.put, List.setIfInBounds_toArray, List.set_cons_zero, List.set_cons_succ]
  refine pureE (i := 1) (L := #[true, true, false, false, false, false, false, false, false, false, false, false, false, false, false, false, false, false, false, false, false, false, false, false, false, false]) (v := ?_) rfl (by rfl) (by kernel_rfl) (by kernel_rfl) (by kernel_rfl) (fun _ _ _ h => h) (by rfl) ?hy2 ?rest2
  case hy2 => intro w; go_simp; (try with_reducible rfl)
  try simp only [Act.put, List.setIfInBounds_toArray, List.set_cons_zero, List.set_cons_succ]
  refine pureE (i := 2) (L := #[true, true, true, false, false, false, false, false, false, false, false, false, false, false, false, false, false, false, false, false, false, false, false, false, false, false]) (v := ?_) rfl (by rfl) (by kernel_rfl) (by kernel_rfl) (by kernel_rfl) (fun _ _ _ h => h) (by rfl) ?hy3 ?rest3
  case hy3 => intro w; go_simp; (try with_reducible rfl)
  try simp only [Act.put, List.setIfInBounds_toArray, List.set_cons_zero, List.set_cons_succ]
  refine readE (i := 3) (L := #[true, true, true, true, false, false, false, false, false, false, false, false, false, false, false, false, false, false, false, false, false, false, false, false, false, false]) (v := .agg #[.bool m.S.s, .slice m.S.A m.S.n m.S.c, .int .i64 m.S.e, .bool m.W.s, .slice m.W.A m.W.n m.W.c, .int .i64 m.W.e, .bool m.C.s, .slice m.C.A m.C.n m.C.c, .int .i64 m.C.e, .bool m.A.s, .slice m.A.A m.A.n m.A.c, .int .i64 m.A.e]) rfl (by rfl) (by kernel_rfl) (by kernel_rfl) (by kernel_rfl) (fun _ _ _ h => h) (by assumption) (by rfl) ?yr_12 ?zr_12
  case yr_12 =>
    intro w' h1
    obtain ⟨⟨k0, k1, k2, k3, k4, k5, k6, k7, k8, k9, k10, k11⟩, kf⟩ := MBox.cells ((h1 _ (by omega)).trans hMm)
    go_simp
  try simp only [Act.put, List.setIfInBounds_toArray, List.set_cons_zero, List.set_cons_succ]
  refine stepK (i := 4) (L := #[true, true, true, true, true, false, false, false, false, false, false, false, false, false, false, false, false, false, false, false, false, false, false, false, false, false]) rfl (by rfl) (by kernel_rfl) (by rfl) (fun K hK => ?_)
  go_simp
  go_at_call 60
  refine (half16_any w_11 false r HR.out).mono ?_
  rintro e' w_13 ⟨Ah, nh, ch, rfl, hB, hI⟩
  replace kp_ := Keeps.on kp_ (by omega) hB
  have lw_13 : w_11.heap.size ≤ w_13.heap.size := hB.size
  replace Rm := MRows.on Rm hB
  replace Rd := MRows.on Rd hB
  replace IY := ints_on IY hB
  replace a_ := Amid.on a_ hB
  have ih := ints_all hI
  clear hI
  clear hB
  refine hK _ _ ⟨fun _ _ => kp_, ?_⟩
  clear hK K
  try simp only [Act.put, List.setIfInBounds_toArray, List.set_cons_zero, List.set_cons_succ]
  refine stepK (i := 5) (L := #[true, true, true, true, true, true, false, false, false, false, false, false, false, false, false, false, false, false, false, false, false, false, false, false, false, false]) rfl (by rfl) (by kernel_rfl) (by rfl) (fun K hK => ?_)
  go_simp
  go_at_call 38
  refine (Of_any w_13 (4) (by decide) (by decide) false 4 rfl rfl).mono ?_
  rintro e' w_14 ⟨Ao, no, rfl, hB, hI⟩
  replace kp_ := Keeps.on kp_ (by omega) hB
  have lw_14 : w_13.heap.size ≤ w_14.heap.size := hB.size
  replace Rm := MRows.on Rm hB
  replace Rd := MRows.on Rd hB
  replace IY := ints_on IY hB
  replace ih := ints_on ih hB
  replace a_ := Amid.on a_ hB
  have io := ints_all hI
  clear hI
  clear hB
  refine hK _ _ ⟨fun _ _ => kp_, ?_⟩
  clear hK K
  try simp only [Act.put, List.setIfInBounds_toArray, List.set_cons_zero, List.set_cons_succ]
  refine pureE (i := 6) (L := #[true, true, true, true, true, true, true, false, false, false, false, false, false, false, false, false, false, false, false, false, false, false, false, false, false, false]) (v := ?_) rfl (by rfl) (by kernel_rfl) (by kernel_rfl) (by kernel_rfl) (fun _ _ _ h => h) (by rfl) ?hy7 ?rest7
  case hy7 => intro w; go_simp; (try with_reducible rfl)
  try simp only [Act.put, List.setIfInBounds_toArray, List.set_cons_zero, List.set_cons_succ]
  refine stepK (i := 7) (L := #[true, true, true, true, true, true, true, true, false, false, false, false, false, false, false, false, false, false, false, false, false, false, false, false, false, false]) rfl (by rfl) (by kernel_rfl) (by rfl) (fun K hK => ?_)
  go_simp
  go_at_call 50
  refine (MSame_any w_14 m ⟨⟨false, none, 0, 0, 0, []⟩, ⟨false, none, 0, 0, 0, []⟩, ⟨r.neg, Ah, nh, ch, r.e, canon 4294967296 r.m⟩, ⟨false, Ao, no, no, 0, canon 4294967296 4⟩⟩ Rm ⟨(Ints.nil_ ..), (Ints.nil_ ..), ih, io⟩ true (hm.out.same (four (by rw [hmR.out.1]; exact Is.zero) (by rw [hmR.out.2.1]; exact Is.zero) (by show Is _ _; rw [hmR.out.2.2.1, ← HR.out]; exact ⟨rfl, rfl, rfl⟩) (by show Is _ _; rw [hmR.out.2.2.2]; exact ⟨rfl, rfl, rfl⟩)))).mono ?_
  rintro e' w_15 ⟨rfl, hB⟩
  replace kp_ := Keeps.on kp_ (by omega) hB
  have lw_15 : w_14.heap.size ≤ w_15.heap.size := hB.size
  replace Rm := MRows.on Rm hB
  replace Rd := MRows.on Rd hB
  replace IY := ints_on IY hB
  replace ih := ints_on ih hB
  replace io := ints_on io hB
  replace a_ := Amid.on a_ hB
  clear hB
  refine hK _ _ ⟨fun _ _ => kp_, ?_⟩
  clear hK K
  try simp only [Act.put, List.setIfInBounds_toArray, List.set_cons_zero, List.set_cons_succ]
  refine pureE (i := 8) (L := #[true, true, true, true, true, true, true, true, true, false, false, false, false, false, false, false, false, false, false, false, false, false, false, false, false, false]) (v := ?_) rfl (by rfl) (by kernel_rfl) (by kernel_rfl) (by kernel_rfl) (fun _ _ _ h => h) (by rfl) ?hy9 ?rest9
  case hy9 => intro w; go_simp; (try with_reducible rfl)
  try simp only [Act.put, List.setIfInBounds_toArray, List.set_cons_zero, List.set_cons_succ]
  refine pureE (i := 9) (L := #[true, true, true, true, true, true, true, true, true, true, false, false, false, false, false, false, false, false, false, false, false, false, false, false, false, false]) (v := ?_) rfl (by rfl) (by kernel_rfl) (by kernel_rfl) (by kernel_rfl) (fun _ _ _ h => h) (by rfl) ?hy10 ?rest10
  case hy10 => intro w; go_simp; (try with_reducible rfl)
  try simp only [Act.put, List.setIfInBounds_toArray, List.set_cons_zero, List.set_cons_succ]
  refine readE (i := 10) (L := #[true, true, true, true, true, true, true, true, true, true, true, false, false, false, false, false, false, false, false, false, false, false, false, false, false, false]) (v := .agg #[.bool d.S.s, .slice d.S.A d.S.n d.S.c, .int .i64 d.S.e, .bool d.W.s, .slice d.W.A d.W.n d.W.c, .int .i64 d.W.e, .bool d.C.s, .slice d.C.A d.C.n d.C.c, .int .i64 d.C.e, .bool d.A.s, .slice d.A.A d.A.n d.A.c, .int .i64 d.A.e]) rfl (by rfl) (by kernel_rfl) (by kernel_rfl) (by kernel_rfl) (fun _ _ _ h => h) (by assumption) (by rfl) ?yr_16 ?zr_16
  case yr_16 =>
    intro w' h1
    obtain ⟨⟨k0, k1, k2, k3, k4, k5, k6, k7, k8, k9, k10, k11⟩, kf⟩ := MBox.cells ((h1 _ (by omega)).trans hMd)
    go_simp
  try simp only [Act.put, List.setIfInBounds_toArray, List.set_cons_zero, List.set_cons_succ]
  refine stepK (i := 11) (L := #[true, true, true, true, true, true, true, true, true, true, true, true, false, false, false, false, false, false, false, false, false, false, false, false, false, false]) rfl (by rfl) (by kernel_rfl) (by rfl) (fun K hK => ?_)
  go_simp
  go_at_call 60
  refine (half16_any w_15 true q HQ.out).mono ?_
  rintro e' w_17 ⟨Ak, nk, ck, rfl, hB, hI⟩
  replace kp_ := Keeps.on kp_ (by omega) hB
  have lw_17 : w_15.heap.size ≤ w_17.heap.size := hB.size
  replace Rm := MRows.on Rm hB
  replace Rd := MRows.on Rd hB
  replace IY := ints_on IY hB
  replace ih := ints_on ih hB
  replace io := ints_on io hB
  replace a_ := Amid.on a_ hB
  have ik := ints_all hI
  clear hI
  clear hB
  refine hK _ _ ⟨fun _ _ => kp_, ?_⟩
  clear hK K
  try simp only [Act.put, List.setIfInBounds_toArray, List.set_cons_zero, List.set_cons_succ]
  refine stepK (i := 12) (L := #[true, true, true, true, true, true, true, true, true, true, true, true, true, false, false, false, false, false, false, false, false, false, false, false, false, false]) rfl (by rfl) (by kernel_rfl) (by rfl) (fun K hK => ?_)
  go_simp
  go_at_call 38
  refine (Of_any w_17 (-2) (by decide) (by decide) true 2 rfl rfl).mono ?_
  rintro e' w_18 ⟨Al, nl, rfl, hB, hI⟩
  replace kp_ := Keeps.on kp_ (by omega) hB
  have lw_18 : w_17.heap.size ≤ w_18.heap.size := hB.size
  replace Rm := MRows.on Rm hB
  replace Rd := MRows.on Rd hB
  replace IY := ints_on IY hB
  replace ih := ints_on ih hB
  replace io := ints_on io hB
  replace ik := ints_on ik hB
  replace a_ := Amid.on a_ hB
  have il := ints_all hI
  clear hI
  clear hB
  refine hK _ _ ⟨fun _ _ => kp_, ?_⟩
  clear hK K
  try simp only [Act.put, List.setIfInBounds_toArray, List.set_cons_zero, List.set_cons_succ]
  refine pureE (i := 13) (L := #[true, true, true, true, true, true, true, true, true, true, true, true, true, true, false, false, false, false, false, false, false, false, false, false, false, false]) (v := ?_) rfl (by rfl) (by kernel_rfl) (by kernel_rfl) (by kernel_rfl) (fun _ _ _ h => h) (by rfl) ?hy14 ?rest14
  case hy14 => intro w; go_simp; (try with_reducible rfl)
  try simp only [Act.put, List.setIfInBounds_toArray, List.set_cons_zero, List.set_cons_succ]
  refine stepK (i := 14) (L := #[true, true, true, true, true, true, true, true, true, true, true, true, true, true, true, false, false, false, false, false, false, false, false, false, false, false]) rfl (by rfl) (by kernel_rfl) (by rfl) (fun K hK => ?_)
  go_simp
  go_at_call 50
  refine (MSame_any w_18 d ⟨⟨false, none, 0, 0, 0, []⟩, ⟨false, none, 0, 0, 0, []⟩, ⟨q.neg, Ak, nk, ck, q.e, canon 4294967296 q.m⟩, ⟨true, Al, nl, nl, 0, canon 4294967296 2⟩⟩ Rd ⟨(Ints.nil_ ..), (Ints.nil_ ..), ik, il⟩ true (hd.out.same (four (by rw [hlR.out.1]; exact Is.zero) (by rw [hlR.out.2.1]; exact Is.zero) (by show Is _ _; rw [hlR.out.2.2.1, ← HQ.out]; exact ⟨rfl, rfl, rfl⟩) (by show Is _ _; rw [hlR.out.2.2.2]; exact ⟨rfl, rfl, rfl⟩)))).mono ?_
  rintro e' w_19 ⟨rfl, hB⟩
  replace kp_ := Keeps.on kp_ (by omega) hB
  have lw_19 : w_18.heap.size ≤ w_19.heap.size := hB.size
  replace Rm := MRows.on Rm hB
  replace Rd := MRows.on Rd hB
  replace IY := ints_on IY hB
  replace ih := ints_on ih hB
  replace io := ints_on io hB
  replace ik := ints_on ik hB
  replace il := ints_on il hB
  replace a_ := Amid.on a_ hB
  clear hB
  refine hK _ _ ⟨fun _ _ => kp_, ?_⟩
  clear hK K
  try simp only [Act.put, List.setIfInBounds_toArray, List.set_cons_zero, List.set_cons_succ]
  refine pureE (i := 15) (L := #[true, true, true, true, true, true, true, true, true, true, true, true, true, true, true, true, false, false, false, false, false, false, false, false, false, false]) (v := ?_) rfl (by rfl) (by kernel_rfl) (by kernel_rfl) (by kernel_rfl) (fun _ _ _ h => h) (by rfl) ?hy16 ?rest16
  case hy16 => intro w; go_simp; (try with_reducible rfl)
  try simp only [Act.put, List.setIfInBounds_toArray, List.set_cons_zero, List.set_cons_succ]
  refine pureE (i := 16) (L := #[true, true, true, true, true, true, true, true, true, true, true, true, true, true, true, true, true, false, false, false, false, false, false, false, false, false]) (v := ?_) rfl (by rfl) (by kernel_rfl) (by kernel_rfl) (by kernel_rfl) (fun _ _ _ h => h) (by rfl) ?hy17 ?rest17
  case hy17 => intro w; go_simp; (try with_reducible rfl)
  try simp only [Act.put, List.setIfInBounds_toArray, List.set_cons_zero, List.set_cons_succ]
  refine pureE (i := 17) (L := #[true, true, true, true, true, true, true, true, true, true, true, true, true, true, true, true, true, true, false, false, false, false, false, false, false, false]) (v := ?_) rfl (by rfl) (by kernel_rfl) (by kernel_rfl) (by kernel_rfl) (fun _ _ _ h => h) (by rfl) ?hy18 ?rest18
  case hy18 => intro w; go_simp; (try with_reducible rfl)
  try simp only [Act.put, List.setIfInBounds_toArray, List.set_cons_zero, List.set_cons_succ]
  refine pureE (i := 18) (L := #[true, true, true, true, true, true, true, true, true, true, true, true, true, true, true, true, true, true, true, false, false, false, false, false, false, false]) (v := ?_) rfl (by rfl) (by kernel_rfl) (by kernel_rfl) (by kernel_rfl) (fun _ _ _ h => h) (by rfl) ?hy19 ?rest19
  case hy19 => intro w; go_simp; (try with_reducible rfl)
  try simp only [Act.put, List.setIfInBounds_toArray, List.set_cons_zero, List.set_cons_succ]
  refine pureE (i := 19) (L := #[true, true, true, true, true, true, true, true, true, true, true, true, true, true, true, true, true, true, true, true, false, false, false, false, false, false]) (v := ?_) rfl (by rfl) (by kernel_rfl) (by kernel_rfl) (by kernel_rfl) (fun _ _ _ h => h) (by rfl) ?hy20 ?rest20
  case hy20 => intro w; go_simp; (try with_reducible rfl)
  try simp only [Act.put, List.setIfInBounds_toArray, List.set_cons_zero, List.set_cons_succ]
  refine pureE (i := 20) (L := #[true, true, true, true, true, true, true, true, true, true, true, true, true, true, true, true, true, true, true, true, true, false, false, false, false, false]) (v := ?_) rfl (by rfl) (by kernel_rfl) (by kernel_rfl) (by kernel_rfl) (fun _ _ _ h => h) (by rfl) ?hy21 ?rest21
  case hy21 => intro w; go_simp; (try with_reducible rfl)
  try simp only [Act.put, List.setIfInBounds_toArray, List.set_cons_zero, List.set_cons_succ]
  refine readE (i := 21) (L := #[true, true, true, true, true, true, true, true, true, true, true, true, true, true, true, true, true, true, true, true, true, true, false, false, false, false]) (v := .agg #[.bool Y.s, .slice Y.A Y.n Y.c, .int .i64 Y.e]) rfl (by rfl) (by kernel_rfl) (by kernel_rfl) (by kernel_rfl) (fun _ _ _ h => h) (by assumption) (by rfl) ?yD ?zD
  case yD =>
    intro w' h1
    obtain ⟨⟨e0, e1, e2⟩, _⟩ := boxD ((h1 _ (lt_of_heap hDY)).trans hDY)
    go_simp
  try simp only [Act.put, List.setIfInBounds_toArray, List.set_cons_zero, List.set_cons_succ]
  refine stepK (i := 22) (L := #[true, true, true, true, true, true, true, true, true, true, true, true, true, true, true, true, true, true, true, true, true, true, true, false, false, false]) rfl (by rfl) (by kernel_rfl) (by rfl) (fun K hK => ?_)
  go_simp
  go_at_call 38
  refine (Of_any w_19 (4) (by decide) (by decide) false 4 rfl rfl).mono ?_
  rintro e' w_20 ⟨Ap, np, rfl, hB, hI⟩
  replace kp_ := Keeps.on kp_ (by omega) hB
  have lw_20 : w_19.heap.size ≤ w_20.heap.size := hB.size
  replace Rm := MRows.on Rm hB
  replace Rd := MRows.on Rd hB
  replace IY := ints_on IY hB
  replace ih := ints_on ih hB
  replace io := ints_on io hB
  replace ik := ints_on ik hB
  replace il := ints_on il hB
  replace a_ := Amid.on a_ hB
  have ip := ints_all hI
  clear hI
  clear hB
  refine hK _ _ ⟨fun _ _ => kp_, ?_⟩
  clear hK K
  try simp only [Act.put, List.setIfInBounds_toArray, List.set_cons_zero, List.set_cons_succ]
  refine stepK (i := 23) (L := #[true, true, true, true, true, true, true, true, true, true, true, true, true, true, true, true, true, true, true, true, true, true, true, true, false, false]) rfl (by rfl) (by kernel_rfl) (by rfl) (fun K hK => ?_)
  go_simp
  go_at_call 36
  refine (Pa.dyadSame_any w_20 Y.s false Y.A Ap Y.n Y.c np np Y.xs (canon 4294967296 4) Y.e 0 IY ip true (hY.out.same (d' := ⟨false, Ap, np, np, 0, canon 4294967296 4⟩) ⟨rfl, rfl, rfl⟩)).mono ?_
  rintro e' w_21 ⟨rfl, hB⟩
  replace kp_ := Keeps.on kp_ (by omega) hB
  have lw_21 : w_20.heap.size ≤ w_21.heap.size := hB.size
  replace Rm := MRows.on Rm hB
  replace Rd := MRows.on Rd hB
  replace IY := ints_on IY hB
  replace ih := ints_on ih hB
  replace io := ints_on io hB
  replace ik := ints_on ik hB
  replace il := ints_on il hB
  replace ip := ints_on ip hB
  replace a_ := Amid.on a_ hB
  clear hB
  refine hK _ _ ⟨fun _ _ => kp_, ?_⟩
  clear hK K
  try simp only [Act.put, List.setIfInBounds_toArray, List.set_cons_zero, List.set_cons_succ]
  refine pureE (i := 24) (L := #[true, true, true, true, true, true, true, true, true, true, true, true, true, true, true, true, true, true, true, true, true, true, true, true, true, false]) (v := ?_) rfl (by rfl) (by kernel_rfl) (by kernel_rfl) (by kernel_rfl) (fun _ _ _ h => h) (by rfl) ?hy25 ?rest25
  case hy25 => intro w; go_simp; (try with_reducible rfl)
  try simp only [Act.put, List.setIfInBounds_toArray, List.set_cons_zero, List.set_cons_succ]
  refine pureE (i := 25) (L := #[true, true, true, true, true, true, true, true, true, true, true, true, true, true, true, true, true, true, true, true, true, true, true, true, true, true]) (v := ?_) rfl (by rfl) (by kernel_rfl) (by kernel_rfl) (by kernel_rfl) (fun _ _ _ h => h) (by rfl) ?hy26 ?rest26
  case hy26 => intro w; go_simp; (try with_reducible rfl)
  try simp only [Act.put, List.setIfInBounds_toArray, List.set_cons_zero, List.set_cons_succ]
  refine doneE (by kernel_rfl) ?_ _
  go_wp2
  go_ret
  exact ⟨rfl, a_.below⟩
end Ma
end Go.Proofs.YtlbkepiflhchdaaDoor
