/- Slices of descriptors (two whole numbers each) that lie in memory, and how they are kept: no program in sight. -/
import Derived.Test.YtpjomdkcckamkaaBase
import Derived.Test.YtpjomdkcckamkaaDePure
import Derived.Sort.Row
namespace Go.Proofs.Ytpjomdkcckamkaa
open Go.RowKit
namespace De
/-- A descriptor's cells. -/
def encD (x : Int × Int) : List Value := [.int .i64 x.1, .int .i64 x.2]
def flatD : List (Int × Int) → List Value
  | [] => []
  | x :: l => .int .i64 x.1 :: .int .i64 x.2 :: flatD l
theorem flatD_len : ∀ l, (flatD l).length = l.length * 2
  | [] => rfl
  | x :: l => by simp [flatD, flatD_len l]; omega
theorem flatD_append : ∀ l m, flatD (l ++ m) = flatD l ++ flatD m
  | [], _ => rfl
  | x :: l, m => by simp [flatD, flatD_append l m]
theorem flatD_one : ∀ l, ∀ u ∈ flatD l, u.oneCell' = true
  | [], u, h => by simp [flatD] at h
  | x :: l, u, h => by
    simp only [flatD, List.mem_cons] at h
    rcases h with rfl | rfl | h
    · rfl
    · rfl
    · exact flatD_one l u h
theorem flatD_get : ∀ (l : List (Int × Int)) (j : Nat), j < l.length → (flatD l)[j * 2]? = some (.int .i64 (l[j]?.getD (0, 0)).1) ∧ (flatD l)[j * 2 + 1]? = some (.int .i64 (l[j]?.getD (0, 0)).2)
  | [], j, h => by simp at h
  | x :: l, 0, _ => by simp [flatD]
  | x :: l, j + 1, h => by
    have ih := flatD_get l j (by simpa using h)
    have e : (j + 1) * 2 = j * 2 + 1 + 1 := by omega
    rw [e]
    simp only [flatD, List.getElem?_cons_succ]
    exact ih
def Rng (x : Int × Int) : Prop := (-9223372036854775808 ≤ x.1 ∧ x.1 ≤ 9223372036854775807) ∧ (-9223372036854775808 ≤ x.2 ∧ x.2 ≤ 9223372036854775807)

/-- The value '.slice A n c' holds the descriptors xs, in a block from lo on and below hi. -/
structure Descs (w : World) (lo hi : Nat) (A : Option Addr) (n : Nat) (xs : List (Int × Int)) : Prop where
  len : xs.length = n
  wf : ∀ x ∈ xs, Rng x
  big : n ≤ 9223372036854775807
  row : 0 < n → ∃ b off, A = some ⟨b, off, none⟩ ∧ lo ≤ b ∧ b < hi ∧ ∀ j, j < n → (w.cell? ⟨b, off + j * 2, none⟩ = some (.int .i64 (xs[j]?.getD (0, 0)).1) ∧ w.frozen? ⟨b, off + j * 2, none⟩ = false) ∧
    (w.cell? ⟨b, off + j * 2 + 1, none⟩ = some (.int .i64 (xs[j]?.getD (0, 0)).2) ∧ w.frozen? ⟨b, off + j * 2 + 1, none⟩ = false)

section
variable {w w' : World} {lo hi lo' hi' : Nat} {A : Option Addr} {n : Nat} {xs : List (Int × Int)}

theorem Descs.nil_ (w : World) (lo hi : Nat) (A : Option Addr) : Descs w lo hi A 0 [] :=
  ⟨rfl, by simp, by omega, fun h => absurd h (by omega)⟩
theorem Descs.zero (h : Descs w lo hi A n xs) (h0 : n = 0) : xs = [] := List.eq_nil_of_length_eq_zero (by rw [h.len, h0])
theorem Descs.keep (h : Descs w lo hi A n xs) (hk : ∀ p : Addr, p.block < hi → lo ≤ p.block → w'.cell? p = w.cell? p ∧ w'.frozen? p = w.frozen? p) : Descs w' lo hi A n xs :=
  ⟨h.len, h.wf, h.big, fun hn => by
    obtain ⟨b, off, e, h1, h2, hc⟩ := h.row hn
    refine ⟨b, off, e, h1, h2, fun j hj => ?_⟩
    obtain ⟨⟨a1, a2⟩, a3, a4⟩ := hc j hj
    exact ⟨⟨(hk _ h2 h1).1.trans a1, (hk _ h2 h1).2.trans a2⟩, (hk _ h2 h1).1.trans a3, (hk _ h2 h1).2.trans a4⟩⟩
theorem Descs.more (h : Descs w lo hi A n xs) (hl : lo' ≤ lo) (hh : hi ≤ hi') : Descs w lo' hi' A n xs :=
  ⟨h.len, h.wf, h.big, fun hn => by
    obtain ⟨b, off, e, h1, h2, hc⟩ := h.row hn
    exact ⟨b, off, e, by omega, by omega, hc⟩⟩
theorem Descs.below {B : Nat} (h : Descs w lo hi A n xs) (hb : Below B w w') (hB : hi ≤ B) : Descs w' lo hi A n xs :=
  h.keep fun p hp _ => ⟨hb.cell (by omega), hb.frozen (by omega)⟩
theorem Descs.drewN (h : Descs w lo hi A n xs) (m : Nat) : Descs (w.drewN m) lo hi A n xs := ⟨h.len, h.wf, h.big, h.row⟩
theorem Descs.alloc (h : Descs w lo hi A n xs) (hB : hi ≤ w.heap.size) (o : Obj) : Descs (w.alloc o) lo hi A n xs :=
  h.below ((Below.refl w.heap.size w).alloc (Nat.le_refl _) o) hB
theorem Descs.far (h : Descs w lo hi A n xs) {p : Addr} (hp : p.block < lo ∨ hi ≤ p.block) (u : Value) : Descs (w.setCell p u) lo hi A n xs :=
  h.keep fun q hq hl => ⟨World.cell?_setCell_other w p q u (fun e => by subst e; omega), by rw [World.frozen?_setCell]⟩
theorem Descs.take_ (h : Descs w lo hi A n xs) {m : Nat} (hm : m ≤ n) : Descs w lo hi A m (xs.take m) := by
  have hl := h.len
  refine ⟨by simp; omega, fun x hx => h.wf x (List.mem_of_mem_take hx), by have := h.big; omega, fun h0 => ?_⟩
  obtain ⟨b, off, e, h1, h2, hc⟩ := h.row (by omega)
  refine ⟨b, off, e, h1, h2, fun j hj => ?_⟩
  rw [List.getElem?_take, if_pos hj]
  exact hc j (by omega)
/-- What lies from place k on. -/
theorem Descs.drop_ {a : Addr} (h : Descs w lo hi (some a) n xs) {k : Nat} (hk : k ≤ n) : Descs w lo hi (some (a.add (k * 2))) (n - k) (xs.drop k) := by
  have hl := h.len
  refine ⟨by simp; omega, fun x hx => h.wf x (List.mem_of_mem_drop hx), by have := h.big; omega, fun h0 => ?_⟩
  obtain ⟨b, off, e, h1, h2, hc⟩ := h.row (by omega)
  injection e with e
  subst e
  have hadd : (⟨b, off, none⟩ : Addr).add (k * 2) = ⟨b, off + k * 2, none⟩ := by unfold Addr.add; split <;> simp_all
  refine ⟨b, off + k * 2, by rw [hadd], h1, h2, fun j hj => ?_⟩
  rw [List.getElem?_drop]
  have := hc (k + j) (by omega)
  have e1 : off + (k + j) * 2 = off + k * 2 + j * 2 := by omega
  rwa [e1] at this
theorem Descs.at_ (h : Descs w lo hi A n xs) (j : Nat) : Rng (xs[j]?.getD (0, 0)) := by
  by_cases hj : j < xs.length
  · exact h.wf _ (by simp [hj])
  · simp [hj, Rng]
theorem Descs.raw (h : Descs w lo hi A n xs) : Raw w lo hi A (n * 2) (flatD xs) := by
  have hl := h.len
  refine ⟨by rw [flatD_len, hl], fun hn => ?_⟩
  obtain ⟨b, off, e, h1, h2, hc⟩ := h.row (by omega)
  refine ⟨b, off, e, h1, h2, fun j hj => ?_⟩
  obtain ⟨⟨a1, a2⟩, a3, a4⟩ := hc (j / 2) (by omega)
  obtain ⟨g1, g2⟩ := flatD_get xs (j / 2) (by omega)
  rcases Nat.mod_two_eq_zero_or_one j with he | he
  · have ej : j = j / 2 * 2 := by omega
    rw [ej]
    exact ⟨a1.trans g1.symm, a2⟩
  · have ej : j = j / 2 * 2 + 1 := by omega
    rw [ej]
    exact ⟨a3.trans g2.symm, a4⟩
/-- Out of what the call owns. -/
theorem Descs.of_own {base : Nat} {e : TypeId} {c : Nat} (h : w.ownsRow base e 2 (.slice A n c) n (flatD xs)) (hw : ∀ x ∈ xs, Rng x) (hn : n ≤ 9223372036854775807) : Descs w base w.heap.size A n xs := by
  have hl : xs.length = n := by have := h.1; rw [flatD_len] at this; omega
  refine ⟨hl, hw, hn, fun h0 => ?_⟩
  obtain ⟨_, h2⟩ := h
  rcases h2 with ⟨_, h3⟩ | ⟨g, cap, cur, hv, hg, hh, hnc, hcm, hcs, ht⟩
  · omega
  · injection hv with ha
    refine ⟨g, 0, ha, hg, (Array.getElem?_eq_some_iff.1 hh).1, fun j hj => ?_⟩
    obtain ⟨g1, g2⟩ := flatD_get xs j (by omega)
    rw [← ht, List.getElem?_take, if_pos (by omega)] at g1 g2
    refine ⟨⟨?_, by simp [World.frozen?, hh]⟩, ?_, by simp [World.frozen?, hh]⟩
    · rw [cell_of_row w g _ cur e (0, 0) hh, Nat.zero_add]
      simpa using g1
    · rw [cell_of_row w g _ cur e (0, 0) hh, Nat.zero_add]
      simpa using g2
end

/-- One descriptor that is laid in a block of its own, to be appended. -/
theorem raw_oneD (w : World) (x : Int × Int) (t : TypeId) : Raw (w.alloc (.cells #[.int .i64 x.1, .int .i64 x.2] t)) w.heap.size (w.heap.size + 1) (some ⟨w.heap.size, 0, none⟩) (1 * 2) (flatD [x]) := by
  refine ⟨rfl, fun _ => ⟨w.heap.size, 0, rfl, Nat.le_refl _, by omega, fun j hj => ?_⟩⟩
  obtain rfl | rfl : j = 0 ∨ j = 1 := by omega
  · simp [go_sem, flatD]
  · simp [go_sem, flatD]
end De
end Go.Proofs.Ytpjomdkcckamkaa
