/- The law DyadSums: a walk (printed by a program of mine). -/
import Derived.Test.YtlbkepiflhchdaaDoorBn16
namespace Go.Proofs.YtlbkepiflhchdaaDoor
open Go.RowKit
namespace Dy
open Dp
/-- Cells that may be written. -/
def WrD (w : World) (b off n : Nat) : Prop := ∀ j, j < n → (∃ u, w.cell? ⟨b, off + j, none⟩ = some u) ∧ w.frozen? ⟨b, off + j, none⟩ = false
theorem WrD.set_ {w : World} {b off n : Nat} (h : WrD w b off n) (p : Addr) (v : Value) : WrD (w.setCell p v) b off n := fun j hj => by
  obtain ⟨⟨u, h1⟩, h2⟩ := h j hj
  refine ⟨?_, by rw [World.frozen?_setCell]; exact h2⟩
  by_cases e : p = ⟨b, off + j, none⟩
  · subst e
    exact ⟨v, World.cell?_setCell_same' _ _ _ (by rw [h1]; rfl)⟩
  · exact ⟨u, (World.cell?_setCell_other _ _ _ _ e).trans h1⟩
/-- What lies from hi on stays, too. -/
def From (hi : Nat) (w w' : World) : Prop := ∀ k, hi ≤ k → k < w.heap.size → w'.heap[k]? = w.heap[k]?
theorem From.setCell {hi : Nat} {w0 w : World} (h : From hi w0 w) {p : Addr} (hp : p.block < hi) (v : Value) : From hi w0 (w.setCell p v) := fun k h1 h2 => by
  rw [← h k h1 h2]
  exact Below.heap_setCell _ _ _ _ (by omega)
set_option maxHeartbeats 800000 in
set_option maxRecDepth 100000 in
/-- headcountlaw02.spoil: just the row's own range is written. -/
theorem spoilD_any (w : World) (s : Bool) (A : Option Addr) (n c : Nat) (xs : List Int) (ex : Int) (lo hi : Nat) (h : Ints w lo hi .u32 A n xs) (hn : n ≤ 1000000) (hhi : hi ≤ w.heap.size) (hlo : lo ≤ w.heap.size) :
    Calls Tryd.prog 27 #[.agg #[.bool s, .slice A n c, .int .i64 ex]] w fun e w' => e = .returned (.tuple #[]) ∧ Below lo w w' ∧ From hi w w' := by
  generalize hw : w.alloc (.cells #[.bool s, .slice A n c, .int .i64 ex] 24) = w1 at *
  have X1 : w1.heap[w.heap.size]? = some (.cells #[.bool s, .slice A n c, .int .i64 ex] 24 (0, 0)) := by rw [← hw]; exact heap_alloc_last _ _
  have b1 : Below lo w w1 := by rw [← hw]; exact (Below.refl _ w).alloc hlo _
  have f1 : From hi w w1 := by rw [← hw]; exact fun k _ h2 => Below.heap_alloc _ _ _ h2
  have hc : 0 < n → ∃ b off, A = some ⟨b, off, none⟩ ∧ lo ≤ b ∧ b < hi ∧ WrD w1 b off n := fun h0 => by
    obtain ⟨b, off, e, h1, h2, hc⟩ := h.row h0
    refine ⟨b, off, e, h1, h2, fun j hj => ?_⟩
    have h3 : w1.heap[b]? = w.heap[b]? := by rw [← hw]; exact Below.heap_alloc _ _ _ (by omega)
    obtain ⟨h4, h5⟩ := hc j hj
    exact ⟨⟨_, by rw [World.cell?_of_block h3]; exact h4⟩, by rw [World.frozen?_of_block h3]; exact h5⟩
  clear h
  go_enter Tryd.func27, Tryd.ntmps27
  go_wp2
  try clear hw
  go_loopw [2] (fun iv wr => ∃ i : Nat, iv = .int .i64 i ∧ i ≤ n ∧ wr.heap[w.heap.size]? = some (.cells #[.bool s, .slice A n c, .int .i64 ex] 24 (0, 0)) ∧ Below lo w wr ∧ From hi w wr ∧ (0 < n → ∃ b off, A = some ⟨b, off, none⟩ ∧ lo ≤ b ∧ b < hi ∧ WrD wr b off n)) (fun iv _ => n - (intOf iv).toNat)
  case atStart => exact ⟨0, rfl, Nat.zero_le _, X1, b1, f1, hc⟩
  case round =>
    clear X1 b1 f1 hc
    obtain ⟨i, rfl, hi1, X1, b1, f1, hc⟩ := hrel
    obtain ⟨⟨y1, y2, y3⟩, y4, y5, y6⟩ := boxD X1
    by_cases hlt : i < n
    · obtain ⟨b, off, rfl, hb1, hb2, hW⟩ := hc (by omega)
      clear hc
      obtain ⟨⟨u, q1⟩, q2⟩ := hW i hlt
      have hwr : IntKind.i64.wrap ((i : Int) + 1) = ((i + 1 : Nat) : Int) := by rw [IntKind.wrap_i64]; omega
      go_wp2
      go_roundw
      case rel => exact ⟨i + 1, by first | rfl | (congr 1; omega) | go_num, by omega, (Below.heap_setCell _ _ _ _ (by simp; omega)).trans X1, b1.setCell hb1 _, f1.setCell hb2 _, fun _ => ⟨b, off, rfl, hb1, hb2, hW.set_ _ _⟩⟩
      case measure => first | (simp [intOf]; done) | (simp [intOf]; omega)
    · obtain rfl : i = n := by omega
      clear hc
      go_wp2
      go_end0
      exact ⟨rfl, b1, f1⟩
theorem ints_spoilt {w w' : World} {lo hi l h n : Nat} {k : IntKind} {A : Option Addr} {xs : List Int} (hI : Ints w l h k A n xs) (hb : Below lo w w') (hf : From hi w w') (hs : h ≤ w.heap.size) (hd : h ≤ lo ∨ hi ≤ l) : Ints w' l h k A n xs :=
  ⟨hI.len, hI.wf, hI.big, fun h0 => by
    obtain ⟨b, off, e, h1, h2, hc⟩ := hI.row h0
    have h3 : w'.heap[b]? = w.heap[b]? := by
      rcases hd with hd | hd
      · exact hb.block b (by omega)
      · exact hf b (by omega) (by omega)
    exact ⟨b, off, e, h1, h2, fun j hj => ⟨by rw [World.cell?_of_block h3]; exact (hc j hj).1, by rw [World.frozen?_of_block h3]; exact (hc j hj).2⟩⟩⟩
theorem box_spoilt {w w' : World} {lo hi g : Nat} {o : Obj} (h : w.heap[g]? = some o) (hb : Below lo w w') (hf : From hi w w') (hd : g < lo ∨ hi ≤ g) : w'.heap[g]? = some o := by
  rcases hd with hd | hd
  · exact (hb.block g hd).trans h
  · exact (hf g hd (Array.getElem?_eq_some_iff.1 h).1).trans h
theorem great_len {s : Bool} {xs : List Int} {e : Int} {n : Nat} {gr : Bool} (hl : xs.length = n) (h : Pa.Dy.great ⟨s, xs, e⟩ = gr) : gr = false → n ≤ 42 := by
  rintro rfl
  simp [Pa.Dy.great] at h
  omega
theorem box_far {w : World} {g g' : Nat} (h : g ≠ g') (x y z : Value) : (((w.setCell ⟨g, 0, none⟩ x).setCell ⟨g, 1, none⟩ y).setCell ⟨g, 2, none⟩ z).heap[g']? = w.heap[g']? := by
  simp [World.setCell, Array.getElem?_modify, h]
theorem same_can (r : Dn) : Pa.Dy.same ⟨r.neg, canon 4294967296 r.m, r.e⟩ ⟨r.neg, canon 4294967296 r.m, r.e⟩ = true := Pa.Dy.same_refl _
theorem canon_big {w : World} {lo hi : Nat} {A : Option Addr} {n : Nat} {a : Dn} (h : Ints w lo hi .u32 A n (canon 4294967296 a.m)) (ha : a.May) : n ≤ 1000000 := Nat.le_trans (ints_may h ha) (by decide)
end Dy
end Go.Proofs.YtlbkepiflhchdaaDoor
