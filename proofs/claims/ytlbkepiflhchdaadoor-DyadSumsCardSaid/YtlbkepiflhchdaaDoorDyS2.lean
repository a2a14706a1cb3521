/- The reference's In: a dyad in parts of 2^-k; a walk. -/
import Derived.Test.YtlbkepiflhchdaaDoorDyS1
import Derived.Test.YtlbkepiflhchdaaDoorDyRef8
namespace Go.Proofs.YtlbkepiflhchdaaDoor
open Go.RowKit
namespace Dy
open Dp
theorem boxS {w : World} {g : Nat} {x y : Value} {t : TypeId} (h : w.heap[g]? = some (.cells #[x, y] t (0, 0))) :
    (w.cell? ⟨g, 0, none⟩ = some x ∧ w.cell? ⟨g, 1, none⟩ = some y) ∧ (w.frozen? ⟨g, 0, none⟩ = false ∧ w.frozen? ⟨g, 1, none⟩ = false) :=
  ⟨⟨cell_of_row w g 0 _ t _ h, cell_of_row w g 1 _ t _ h⟩, frozen_of_row w g 0 _ t h, frozen_of_row w g 1 _ t h⟩
theorem ints_set {w : World} {lo hi : Nat} {k : IntKind} {A : Option Addr} {n : Nat} {xs : List Int} (h : Ints w lo hi k A n xs) {g : Nat} (hg : g < lo) (o : Nat) (v : Value) : Ints (w.setCell ⟨g, o, none⟩ v) lo hi k A n xs := ints_far h (.inl hg) v
set_option maxHeartbeats 6400000 in
set_option maxRecDepth 100000 in
/-- headcountref02.In. -/
theorem In_any (w : World) (s : Bool) (m ex : Nat) (A : Option Addr) (n c : Nat) (h : Ints w 0 w.heap.size .u32 A n (canon 4294967296 m)) (hn : n ≤ 40) (k : Nat) (hk : ex ≤ k) (hk2 : k ≤ 2000) (v : Nat) (hv : 2 ^ (k - ex) * m = v) (kk : Int) (hkk : kk = k) :
    Calls Tryd.prog 69 #[.agg #[.bool s, .slice A n c, .int .i64 ex], .int .i64 kk] w fun e w' => ∃ A' n' c', e = .returned (.agg #[.bool s, .slice A' n' c']) ∧ n' ≤ c' ∧ n' ≤ 4000 ∧ Below w.heap.size w w' ∧ Ints w' w.heap.size w'.heap.size .u8 A' n' (canon 2 v) := by
  have hsub : IntKind.i64.wrap (kk - (ex : Int)) = ((k - ex : Nat) : Int) := by rw [hkk, IntKind.wrap_i64]; omega
  have HS := Lib.hid hsub
  have hcs := canon_spec 4294967296 m (by decide)
  have hd := Lib.hid hcs.1
  have hnm := Lib.hid hcs.2.2
  have HV := Lib.hid hv
  have hX2 := h.alloc (Nat.le_refl _) (.cells #[.bool s, .slice A n c, .int .i64 ex] 24)
  clear hkk hsub hcs hv h
  generalize hw1 : w.alloc (.cells #[.bool s, .slice A n c, .int .i64 ex] 24) = w1 at *
  have hbx : w1.heap[w.heap.size]? = some (.cells #[.bool s, .slice A n c, .int .i64 ex] 24 (0, 0)) := by rw [← hw1]; exact heap_alloc_last _ _
  have HS1 : Hid (w1.heap.size = w.heap.size + 1) := by rw [Hid, ← hw1]; simp
  have hB1 : Below w.heap.size w w1 := by rw [← hw1]; exact (Below.refl _ w).alloc (Nat.le_refl _) _
  go_enter Tryd.func69, Tryd.ntmps69
  go_wp2
  clear hw1
  have hX3 := hX2.alloc (by have := HS1.out; omega) (.cells #[.bool false, .slice none 0 0] 87)
  have hB2 := hB1.alloc (by have := HS1.out; omega) (.cells #[.bool false, .slice none 0 0] 87)
  have hbx2 := (Below.heap_alloc w1 (.cells #[.bool false, .slice none 0 0] 87) w.heap.size (by have := HS1.out; omega)).trans hbx
  have hrs := heap_alloc_last w1 (.cells #[.bool false, .slice none 0 0] 87)
  have HS2 : Hid ((w1.alloc (.cells #[.bool false, .slice none 0 0] 87)).heap.size = w1.heap.size + 1) := by rw [Hid]; simp
  generalize hw2 : w1.alloc (.cells #[.bool false, .slice none 0 0] 87) = w2 at *
  clear hw2 hX2 hB1 hbx
  have kD : Keeps w2 w2.drew := fun _ _ => rfl
  have b2 : Below w2.heap.size w2 w2.drew := (Below.refl _ _).drew
  refine region_E (Keeps w2) [11] (m := 12) (L := #[false, false, false, false, false, false, false, false, false, false, false, false]) (by kernel_rfl) (by rfl) (by rfl) ?_
  refine pureE (i := 0) (L := #[true, false, false, false, false, false, false, false, false, false, false, false]) (v := ?_) rfl (by rfl) (by kernel_rfl) (by kernel_rfl) (by kernel_rfl) (fun _ _ _ h => h) (by rfl) ?hy1 ?rest1
  case hy1 => intro w; go_simp; (try with_reducible rfl)
  try simp only [Act.put, List.setIfInBounds_toArray, List.set_cons_zero, List.set_cons_succ]
  refine readE (i := 1) (L := #[true, true, false, false, false, false, false, false, false, false, false, false]) (v := .bool s) rfl (by rfl) (by kernel_rfl) (by kernel_rfl) (by kernel_rfl) (fun _ _ _ h => h) (by assumption) (by rfl) ?hyA ?restA
  case hyA =>
    intro w' h1
    obtain ⟨⟨k1, k2, k3⟩, _⟩ := boxD ((h1 _ (by have := HS1.out; have := HS2.out; omega)).trans hbx2)
    go_simp
  try simp only [Act.put, List.setIfInBounds_toArray, List.set_cons_zero, List.set_cons_succ]
  refine pureE (i := 2) (L := #[true, true, true, false, false, false, false, false, false, false, false, false]) (v := ?_) rfl (by rfl) (by kernel_rfl) (by kernel_rfl) (by kernel_rfl) (fun _ _ _ h => h) (by rfl) ?hy3 ?rest3
  case hy3 => intro w; go_simp; (try with_reducible rfl)
  try simp only [Act.put, List.setIfInBounds_toArray, List.set_cons_zero, List.set_cons_succ]
  refine readE (i := 3) (L := #[true, true, true, true, false, false, false, false, false, false, false, false]) (v := .slice A n c) rfl (by rfl) (by kernel_rfl) (by kernel_rfl) (by kernel_rfl) (fun _ _ _ h => h) (by assumption) (by rfl) ?hyB ?restB
  case hyB =>
    intro w' h1
    obtain ⟨⟨k1, k2, k3⟩, _⟩ := boxD ((h1 _ (by have := HS1.out; have := HS2.out; omega)).trans hbx2)
    go_simp
  try simp only [Act.put, List.setIfInBounds_toArray, List.set_cons_zero, List.set_cons_succ]
  refine pureE (i := 5) (L := #[true, true, true, true, false, true, false, false, false, false, false, false]) (v := ?_) rfl (by rfl) (by kernel_rfl) (by kernel_rfl) (by kernel_rfl) (fun _ _ _ h => h) (by rfl) ?hy5 ?rest5
  case hy5 => intro w; go_simp; (try with_reducible rfl)
  try simp only [Act.put, List.setIfInBounds_toArray, List.set_cons_zero, List.set_cons_succ]
  refine pureE (i := 6) (L := #[true, true, true, true, false, true, true, false, false, false, false, false]) (v := ?_) rfl (by rfl) (by kernel_rfl) (by kernel_rfl) (by kernel_rfl) (fun _ _ _ h => h) (by rfl) ?hy6 ?rest6
  case hy6 => intro w; go_simp; (try with_reducible rfl)
  try simp only [Act.put, List.setIfInBounds_toArray, List.set_cons_zero, List.set_cons_succ]
  refine readE (i := 7) (L := #[true, true, true, true, false, true, true, true, false, false, false, false]) (v := .int .i64 ex) rfl (by rfl) (by kernel_rfl) (by kernel_rfl) (by kernel_rfl) (fun _ _ _ h => h) (by assumption) (by rfl) ?hyC ?restC
  case hyC =>
    intro w' h1
    obtain ⟨⟨k1, k2, k3⟩, _⟩ := boxD ((h1 _ (by have := HS1.out; have := HS2.out; omega)).trans hbx2)
    go_simp
  try simp only [Act.put, List.setIfInBounds_toArray, List.set_cons_zero, List.set_cons_succ]
  have hsub := HS.out
  refine pureE (i := 8) (L := #[true, true, true, true, false, true, true, true, true, false, false, false]) (v := ?_) rfl (by rfl) (by kernel_rfl) (by kernel_rfl) (by kernel_rfl) (fun _ _ _ h => h) (by rfl) ?hy8 ?rest8
  case hy8 => intro w; go_simp; (try with_reducible rfl)
  try simp only [Act.put, List.setIfInBounds_toArray, List.set_cons_zero, List.set_cons_succ]
  clear hsub
  refine stepK (i := 4) (L := #[true, true, true, true, true, true, true, true, true, false, false, false]) rfl (by rfl) (by kernel_rfl) (by rfl) (fun K hK => ?_)
  go_simp
  go_at_call 102
  refine (Digits_any w2.drew 0 w.heap.size A n c _ (hX3.drewN 1) hd.out (by show w.heap.size ≤ w2.heap.size; have := HS1.out; have := HS2.out; omega) (by omega) m hnm.out).mono ?_
  rintro e w3 ⟨A1, n1, c1, rfl, hc1, hn1, hB, hI3⟩
  have b3 := b2.trans hB
  clear hB
  refine hK _ _ ⟨fun _ _ p hp => b3.block p hp, ?_⟩
  clear hK K
  try simp only [Act.put, List.setIfInBounds_toArray, List.set_cons_zero, List.set_cons_succ]
  refine stepK (i := 9) (L := #[true, true, true, true, true, true, true, true, true, true, false, false]) rfl (by rfl) (by kernel_rfl) (by rfl) (fun K hK => ?_)
  go_simp
  go_at_call 101
  refine (Times2_any w3 _ _ A1 n1 c1 m hI3 (Nat.le_refl _) (by omega) (k - ex) _ rfl (by omega)).mono ?_
  rintro e w4 ⟨A2, n2, c2, rfl, hc2, hn2, hB, hI4⟩
  have b4 := b3.trans (hB.mono b3.size)
  have hi4 := Lib.hid hI4
  have hs3 := b3.size
  have hs4 := hB.size
  clear hB hI3 hI4
  refine hK _ _ ⟨fun _ _ p hp => b4.block p hp, ?_⟩
  clear hK K
  try simp only [Act.put, List.setIfInBounds_toArray, List.set_cons_zero, List.set_cons_succ]
  refine pureE (i := 10) (L := #[true, true, true, true, true, true, true, true, true, true, true, false]) (v := ?_) rfl (by rfl) (by kernel_rfl) (by kernel_rfl) (by kernel_rfl) (fun _ _ _ h => h) (by rfl) ?hy11 ?rest11
  case hy11 => intro w; go_simp; (try with_reducible rfl)
  try simp only [Act.put, List.setIfInBounds_toArray, List.set_cons_zero, List.set_cons_succ]
  obtain ⟨⟨p1, p2⟩, p3, p4⟩ := boxS ((b4.block w1.heap.size (by have := HS2.out; omega)).trans hrs)
  refine stepK (i := 11) (L := #[true, true, true, true, true, true, true, true, true, true, true, true]) rfl (by rfl) (by kernel_rfl) (by rfl) (fun K hK => ?_)
  go_simp
  refine hK _ _ ⟨fun h => absurd h (by decide), ?_⟩
  clear hK K
  try simp only [Act.put, List.setIfInBounds_toArray, List.set_cons_zero, List.set_cons_succ]
  refine doneE (by kernel_rfl) ?_ _
  go_wp2
  refine bodyPost_ret (v := .agg #[.bool s, .slice A2 n2 c2]) (by simp [results, Tryd.results69, go_sem, p1, p2]) rfl ⟨A2, n2, c2, rfl, hc2, by omega, ?_, ?_⟩
  · exact ((hB2.trans (b4.mono (by have := HS1.out; have := HS2.out; omega))).setCell (by have := HS1.out; simp; omega) _).setCell (by have := HS1.out; simp; omega) _
  · have h := hi4.out
    rw [HV.out] at h
    exact ((ints_set (ints_set h (by have := HS2.out; omega) 0 _) (by have := HS2.out; omega) 1 _).more (by have := HS1.out; have := HS2.out; omega) (by simp [World.setCell]))
end Dy
end Go.Proofs.YtlbkepiflhchdaaDoor
