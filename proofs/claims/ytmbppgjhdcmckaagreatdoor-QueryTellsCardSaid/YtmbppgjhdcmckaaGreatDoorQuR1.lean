/- headcountref25: above, Same; headcountlaw25: great, spoil: walks (printed by a program of mine). -/
import Derived.Test.YtmbppgjhdcmckaaGreatDoorQuDv
import Derived.Test.YtmbppgjhdcmckaaGreatDoorQuSm
namespace Go.Proofs.YtmbppgjhdcmckaaGreatDoor
open Go.RowKit
namespace Ma
open Dp Dy
set_option maxHeartbeats 3200000 in
set_option maxRecDepth 100000 in
/-- headcountref25.above. -/
theorem rabove_any (w : World) (d : Dv) (b : Bool) (hb : aboveV d = b) :
    Calls Tryz.prog 86 #[.agg #[.bool d.s, .slice d.A d.n d.c, .int .i64 d.e]] w fun e w' => e = .returned (.bool b) ∧ Below w.heap.size w w' := by
  obtain ⟨w1, hw, bQ, j1, S1⟩ := alloc_q w d
  obtain ⟨k0, k1, k2⟩ := (boxD bQ).1
  obtain ⟨f0, f1, f2⟩ := (boxD bQ).2
  obtain ⟨s, hs⟩ : ∃ s, d.s = s := ⟨_, rfl⟩
  rw [hs] at k0
  have HB := Lib.hid hb
  have HS := Lib.hid hs
  rw [hs] at hw
  clear hb
  rw [hs]
  clear hs
  cases s
  · by_cases h0 : 0 < d.n
    · have hb' : b = true := by rw [← HB.out, aboveV, HS.out, decide_eq_true h0]; rfl
      subst hb'
      clear HB HS
      go_enter Tryz.func86, Tryz.ntmps86
      go_wp2
      go_ret
      exact ⟨by simp [h0], j1⟩
    · have hb' : b = false := by rw [← HB.out, aboveV, HS.out, decide_eq_false h0]; rfl
      subst hb'
      clear HB HS
      go_enter Tryz.func86, Tryz.ntmps86
      go_wp2
      go_ret
      exact ⟨by simp [h0], j1⟩
  · have hb' : b = false := by rw [← HB.out, aboveV, HS.out]; rfl
    subst hb'
    clear HB HS
    go_enter Tryz.func86, Tryz.ntmps86
    go_wp2
    go_ret
    exact ⟨rfl, j1⟩
set_option maxHeartbeats 6400000 in
set_option maxRecDepth 100000 in
/-- headcountref25.Same. -/
theorem rSameT_any (w : World) (a b c d : Dv) (hA : DRow w 0 w.heap.size a) (hB : DRow w 0 w.heap.size b) (hC : DRow w 0 w.heap.size c) (hD : DRow w 0 w.heap.size d) (r : Bool) (hr : sameT a b c d = r) :
    Calls Tryz.prog 12 #[.agg #[.bool a.s, .slice a.A a.n a.c, .int .i64 a.e, .bool b.s, .slice b.A b.n b.c, .int .i64 b.e], .agg #[.bool c.s, .slice c.A c.n c.c, .int .i64 c.e, .bool d.s, .slice d.A d.n d.c, .int .i64 d.e]] w fun e w' => e = .returned (.bool r) ∧ Below w.heap.size w w' := by
  obtain ⟨w1, hw1, bX, ja, S1⟩ := alloc_t w a b
  obtain ⟨w2, hw2, bY, jb, S2⟩ := alloc_t w1 c d
  have s1 := ja.size
  obtain ⟨t1, ht1⟩ : ∃ t, sameV a c = t := ⟨_, rfl⟩
  obtain ⟨t2, ht2⟩ : ∃ t, sameV b d = t := ⟨_, rfl⟩
  have H1 := Lib.hid ht1
  have H2 := Lib.hid ht2
  have HR : Hid (r = (t1 && t2)) := Lib.hid (by rw [← hr, ← ht1, ← ht2]; rfl)
  clear ht1 ht2 hr
  have z1 : w1.heap.size = w.heap.size + 1 := by rw [← hw1]; simp
  subst hw1
  rw [z1] at bY S2
  go_enter Tryz.func12, Tryz.ntmps12
  replace bX : TBox w2 w.heap.size a b := (jb.block _ S1).trans bX
  have r1 := TBox.low bX
  have r2 := TBox.low bY
  go_wp2_with (first
    | (refine wpList_load_mid rfl 24 (.tmp 5) rfl (w.heap.size) 0 rfl [.bool a.s, .slice a.A a.n a.c, .int .i64 a.e] _ r1 Tryz.underlying24 rfl (by kernel_rfl) ?_)
    | (refine wpList_load_mid rfl 24 (.tmp 7) rfl ((w.heap.size + 1)) 0 rfl [.bool c.s, .slice c.A c.n c.c, .int .i64 c.e] _ r2 Tryz.underlying24 rfl (by kernel_rfl) ?_))
  refine (Pa.rSame_any w2 _ _ _ _ _ _ _ _ _ _ _ _ (ints_on hA (later ja jb)) (ints_on hC (later ja jb)) t1 H1.out).mono ?_
  rintro e' v1 ⟨rfl, j2⟩
  try clear hw
  clear r1 r2
  try clear hw2
  cases t1
  case false =>
    obtain rfl : r = false := HR.out
    go_wp2
    go_ret
    exact ⟨rfl, (later (later ja jb) j2)⟩
  obtain rfl : r = t2 := HR.out.trans (Bool.true_and _)
  have r1 := TBox.high (box_later bX j2 (show w.heap.size < w2.heap.size by omega))
  have r2 := TBox.high (box_later bY j2 S2)
  go_wp2_with (first
    | (refine wpList_load_midG (by rfl) 24 (.tmp 11) rfl (w.heap.size) 3 rfl [.bool b.s, .slice b.A b.n b.c, .int .i64 b.e] _ r1 Tryz.underlying24 rfl (by kernel_rfl) ?_)
    | (refine wpList_load_midG (by rfl) 24 (.tmp 13) rfl ((w.heap.size + 1)) 3 rfl [.bool d.s, .slice d.A d.n d.c, .int .i64 d.e] _ r2 Tryz.underlying24 rfl (by kernel_rfl) ?_))
  refine (Pa.rSame_any v1 _ _ _ _ _ _ _ _ _ _ _ _ (ints_on hB (later (later ja jb) j2)) (ints_on hD (later (later ja jb) j2)) r H2.out).mono ?_
  rintro e' v3 ⟨rfl, j4⟩
  try clear hw
  clear r1 r2
  go_wp2
  go_ret
  exact ⟨rfl, (later (later ja jb) (later j2 j4))⟩
set_option maxHeartbeats 1600000 in
set_option maxRecDepth 100000 in
/-- headcountlaw25.spoil: just the row's own range is written. -/
theorem spoil25_any (w : World) (s : Bool) (A : Option Addr) (n c : Nat) (ex : Int) (lo hi : Nat) (h : WrR w lo hi A n) (hn : n ≤ 1000000) (hhi : hi ≤ w.heap.size) (hlo : lo ≤ w.heap.size) :
    Calls Tryz.prog 14 #[.agg #[.bool s, .slice A n c, .int .i64 ex]] w fun e w' => e = .returned (.tuple #[]) ∧ Below lo w w' ∧ From hi w w' ∧ ∀ b off k, WrS w b off k → WrS w' b off k := by
  generalize hw : w.alloc (.cells #[.bool s, .slice A n c, .int .i64 ex] 24) = w1 at *
  have X1 : w1.heap[w.heap.size]? = some (.cells #[.bool s, .slice A n c, .int .i64 ex] 24 (0, 0)) := by rw [← hw]; exact heap_alloc_last _ _
  have b1 : Below lo w w1 := by rw [← hw]; exact (Below.refl _ w).alloc hlo _
  have f1 : From hi w w1 := by rw [← hw]; exact fun k _ h2 => Below.heap_alloc _ _ _ h2
  have k1 : ∀ b off k, WrS w b off k → WrS w1 b off k := fun b off k hW => by
    by_cases hk : k = 0
    · subst hk
      exact fun j hj => absurd hj (Nat.not_lt_zero _)
    · refine hW.blk ?_
      rw [← hw]
      obtain ⟨⟨u, h1⟩, _⟩ := hW 0 (by omega)
      exact Below.heap_alloc _ _ _ (World.block_lt_of_cell? w _ h1)
  have hc := h.keep k1
  clear h
  go_enter Tryz.func14, Tryz.ntmps14
  go_wp2
  try clear hw
  go_loopw [2] (fun iv wr => ∃ i : Nat, iv = .int .i64 i ∧ i ≤ n ∧ wr.heap[w.heap.size]? = some (.cells #[.bool s, .slice A n c, .int .i64 ex] 24 (0, 0)) ∧ Below lo w wr ∧ From hi w wr ∧ Hid (WrR wr lo hi A n) ∧ Hid (∀ b off k, WrS w b off k → WrS wr b off k)) (fun iv _ => n - (intOf iv).toNat)
  case atStart => exact ⟨0, rfl, Nat.zero_le _, X1, b1, f1, Lib.hid hc, Lib.hid k1⟩
  case round =>
    clear X1 b1 f1 hc k1
    obtain ⟨i, rfl, hi1, X1, b1, f1, hc, k1⟩ := hrel
    obtain ⟨⟨y1, y2, y3⟩, y4, y5, y6⟩ := boxD X1
    by_cases hlt : i < n
    · obtain ⟨b, off, rfl, hb1, hb2, hW⟩ := hc.out (by omega)
      clear hc
      obtain ⟨⟨u, q1⟩, q2⟩ := hW i hlt
      have hwr : IntKind.i64.wrap ((i : Int) + 1) = ((i + 1 : Nat) : Int) := by rw [IntKind.wrap_i64]; omega
      go_wp2
      go_roundw
      case rel => exact ⟨i + 1, by first | rfl | (congr 1; omega) | go_num, by omega, (Below.heap_setCell _ _ _ _ (by simp; omega)).trans X1, b1.setCell hb1 _, f1.setCell hb2 _, Lib.hid fun _ => ⟨b, off, rfl, hb1, hb2, hW.set_ _ _⟩, Lib.hid fun b' off' k' h' => (k1.out b' off' k' h').set_ _ _⟩
      case measure => first | (simp [intOf]; done) | (simp [intOf]; omega)
    · obtain rfl : i = n := by omega
      clear hc
      go_wp2
      go_end0
      exact ⟨rfl, b1, f1, k1.out⟩
def greatV (x : Dv) : Bool := Pa.Dy.great ⟨x.s, x.xs, x.e⟩
set_option maxHeartbeats 6400000 in
set_option maxRecDepth 100000 in
/-- headcountlaw25.great. -/
theorem great25_any (w : World) (a b : Dv) (hA : DRow w 0 w.heap.size a) (hB : DRow w 0 w.heap.size b) (r : Bool) (hr : (greatV a || greatV b) = r) :
    Calls Tryz.prog 8 #[.agg #[.bool a.s, .slice a.A a.n a.c, .int .i64 a.e, .bool b.s, .slice b.A b.n b.c, .int .i64 b.e]] w fun e w' => e = .returned (.bool r) ∧ Below w.heap.size w w' := by
  obtain ⟨w1, hw, bX, ja, S1⟩ := alloc_t w a b
  obtain ⟨t1, ht1⟩ : ∃ t, greatV a = t := ⟨_, rfl⟩
  obtain ⟨t2, ht2⟩ : ∃ t, greatV b = t := ⟨_, rfl⟩
  have H1 := Lib.hid ht1
  have H2 := Lib.hid ht2
  have HR : Hid (r = (t1 || t2)) := Lib.hid (by rw [← hr, ← ht1, ← ht2])
  clear ht1 ht2 hr
  go_enter Tryz.func8, Tryz.ntmps8
  have r1 := TBox.low bX
  go_wp2_with (first
    | (refine wpList_load_mid rfl 24 (.tmp 3) rfl (w.heap.size) 0 rfl [.bool a.s, .slice a.A a.n a.c, .int .i64 a.e] _ r1 Tryz.underlying24 rfl (by kernel_rfl) ?_))
  refine (Pa.rGreat_any w1 a.s a.A a.n a.c a.xs a.e hA.len t1 H1.out).mono ?_
  rintro e' v1 ⟨rfl, j2⟩
  try clear hw
  clear r1
  cases t1
  case true =>
    obtain rfl : r = true := HR.out
    go_wp2
    go_ret
    exact ⟨rfl, (later ja j2)⟩
  obtain rfl : r = t2 := HR.out.trans (Bool.false_or _)
  have r1 := TBox.high (box_later bX j2 S1)
  go_wp2_with (first
    | (refine wpList_load_midG (by rfl) 24 (.tmp 7) rfl (w.heap.size) 3 rfl [.bool b.s, .slice b.A b.n b.c, .int .i64 b.e] _ r1 Tryz.underlying24 rfl (by kernel_rfl) ?_))
  refine (Pa.rGreat_any v1 b.s b.A b.n b.c b.xs b.e hB.len r H2.out).mono ?_
  rintro e' v3 ⟨rfl, j4⟩
  try clear hw
  clear r1
  go_wp2
  go_ret
  exact ⟨rfl, (later ja (later j2 j4))⟩
end Ma
end Go.Proofs.YtmbppgjhdcmckaaGreatDoor
