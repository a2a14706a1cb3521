/- ChooseTells: the walk. -/
import Derived.Test.YtpjomdkcckamkaaCaRef7
import Derived.Test.YtpjomdkcckamkaaChOnce
namespace Go.Proofs.Ytpjomdkcckamkaa
open Go.RowKit Go.Sort Go.Shelf
namespace De
theorem SameDrawsB (w : World) (lo hi lo' hi' : Nat) (A A' : Option Addr) (n c n' c' : Nat) (xs : List Int) (hX : Ints w lo hi .u64 A n xs) (hY : Ints w lo' hi' .u64 A' n' xs) :
    Calls Try.prog 53 #[.slice A n c, .slice A' n' c'] w fun e w' => e = .returned (.bool true) ∧ Below w.heap.size w w' :=
  (SameDraws_any w lo hi lo' hi' A A' n c n' c' xs xs hX hY true (SmI_refl _)).mono fun e w' ⟨he, m, hm⟩ => ⟨he, by rw [hm]; exact below_of_drewN _ _ _⟩
set_option maxHeartbeats 3200000 in
set_option maxRecDepth 100000 in
theorem chooseTells_any (w : World) (ow ca : Int) (A0 : Option Addr) (n0 c0 : Nat) (xs : List (Int × Int)) (hX : Descs w 0 w.heap.size A0 n0 xs) (hc0 : n0 ≤ c0) (dr : Int) (hd0 : 0 ≤ dr) (hd1 : dr ≤ IntKind.u64.max) (B : Option Addr) (m cB : Nat) (ds : List Int) (hD : Ints w 0 w.heap.size .u64 B m ds) (L : Option Addr) (k0 cL : Nat) (ls : List (Int × Int)) (hL : Descs w 0 w.heap.size L k0 ls) :
    Calls Try.prog 14 #[.agg #[.int .i64 ow, .int .i64 ca, .slice A0 n0 c0], .int .u64 dr, .slice B m cB, .slice L k0 cL] w fun e w' => e = .returned (.bool true) ∧ Below w.heap.size w w' := by
  have hbx := hX.big
  have hbd := hD.big
  have hbl := hL.big
  by_cases h70 : n0 > 70
  · go_enter Try.func14, Try.ntmps14
    go_wp2
    go_ret
    exact ⟨rfl, (Below.refl _ w).alloc (Nat.le_refl _) _⟩
  · by_cases h71 : m > 70
    · go_enter Try.func14, Try.ntmps14
      go_wp2
      go_ret
      exact ⟨rfl, (Below.refl _ w).alloc (Nat.le_refl _) _⟩
    · by_cases h72 : k0 > 70
      · go_enter Try.func14, Try.ntmps14
        go_wp2
        go_ret
        exact ⟨rfl, (Below.refl _ w).alloc (Nat.le_refl _) _⟩
      · have hd70 : decide ((70 : Int) < n0) = false := by simp; omega
        have hd71 : decide ((70 : Int) < m) = false := by simp; omega
        have hd72 : decide ((70 : Int) < k0) = false := by simp; omega
        obtain ⟨⟨⟨x, y⟩, r⟩, hr⟩ : ∃ r, oneR ow ca xs dr = r := ⟨_, rfl⟩
        obtain ⟨s, hs⟩ : ∃ r, someC ow ca xs ds = r := ⟨_, rfl⟩
        obtain ⟨t, ht⟩ : ∃ r, drawsC ow ca xs ls = r := ⟨_, rfl⟩
        have HR := Lib.hid hr
        have HS := Lib.hid hs
        have HT := Lib.hid ht
        have hrr : (r == r) = true := by simp
        have hss : (s == s) = true := by simp
        have htt : (t == t) = true := by simp
        have hql := fun W => eqlD W x y x y
        rw [show (x == x && y == y) = true by simp] at hql
        clear hr hs ht
        obtain ⟨u, hu⟩ : ∃ u : World, w.alloc (.cells #[.int .i64 ow, .int .i64 ca, .slice A0 n0 c0] 43) = u := ⟨_, rfl⟩
        have hbu : Below w.heap.size w u := by rw [← hu]; exact (Below.refl _ w).alloc (Nat.le_refl _) _
        have hsu : w.heap.size + 1 ≤ u.heap.size := by rw [← hu]; simp
        have C : u.heap[w.heap.size]? = some (.cells #[.int .i64 ow, .int .i64 ca, .slice A0 n0 c0] 43 (0, 0)) := by rw [← hu]; exact heap_newg _ _ _ rfl
        have X := hX.below hbu (Nat.le_refl _)
        have D := hD.below hbu (Nat.le_refl _)
        have Y := hL.below hbu (Nat.le_refl _)
        have hc := hbu
        have HU := Lib.hid hu
        obtain ⟨⟨k1, k2, k3⟩, _⟩ := cells3 C
        clear hX hD hL hbu hu
        go_enter Try.func14, Try.ntmps14
        go_wp2_with fail
        rw [HU.out]
        refine (TwinCR_any u ow ca _ _ A0 n0 c0 xs X (by omega) (by omega)).mono ?_
        rintro e w1 ⟨AO, cO, rfl, hcO, hb, hs1, O⟩
        clear HU
        have C := Below.heapOf hb (by omega) C
        have X := X.below hb (by omega)
        have D := D.below hb (by omega)
        have Y := Y.below hb (by omega)
        have hc := hc.trans (hb.mono (by omega))
        clear hb
        obtain ⟨z1, hz1⟩ : ∃ u : World, w1.alloc (.cells #[.int .i64 ow, .int .i64 ca, .slice AO n0 cO] 43) = u := ⟨_, rfl⟩
        have Q : z1.heap[w1.heap.size]? = some (.cells #[.int .i64 ow, .int .i64 ca, .slice AO n0 cO] 43 (0, 0)) := by rw [← hz1]; exact heap_newg _ _ _ rfl
        have hb : Below w1.heap.size w1 z1 := by rw [← hz1]; exact (Below.refl _ w1).alloc (Nat.le_refl _) _
        have hz : w1.heap.size + 1 ≤ z1.heap.size := by rw [← hz1]; simp
        have HZ1 := Lib.hid hz1
        have C := Below.heapOf hb (by omega) C
        have X := X.below hb (by omega)
        have D := D.below hb (by omega)
        have Y := Y.below hb (by omega)
        have O := O.below hb (by omega)
        have hc := hc.trans (hb.mono (by omega))
        clear hb
        clear k1 k2 k3
        obtain ⟨⟨k1, k2, k3⟩, _⟩ := cells3 C
        (try clear q1 q2 q3)
        obtain ⟨⟨q1, q2, q3⟩, _⟩ := cells3 Q
        clear hz1
        go_wp2_with fail
        rw [HZ1.out]
        refine (One_any z1 ow ca AO n0 cO xs (O.more (by omega) (by omega)) hcO dr hd0 hd1 x y r HR.out).mono ?_
        rintro e w2 ⟨rfl, hb, _⟩
        clear HZ1
        have hs2 := hb.size
        have C := Below.heapOf hb (by omega) C
        have Q := Below.heapOf hb (by omega) Q
        have X := X.below hb (by omega)
        have D := D.below hb (by omega)
        have Y := Y.below hb (by omega)
        have O := O.below hb (by omega)
        have hc := hc.trans (hb.mono (by omega))
        clear hb
        obtain ⟨z2, hz2⟩ : ∃ u : World, w2.alloc (.cells #[.int .i64 x, .int .i64 y] 29) = u := ⟨_, rfl⟩
        have E1 : z2.heap[w2.heap.size]? = some (.cells #[.int .i64 x, .int .i64 y] 29 (0, 0)) := by rw [← hz2]; exact heap_newg _ _ _ rfl
        have hb : Below w2.heap.size w2 z2 := by rw [← hz2]; exact (Below.refl _ w2).alloc (Nat.le_refl _) _
        have hz2s : w2.heap.size + 1 ≤ z2.heap.size := by rw [← hz2]; simp
        have Hz2 := Lib.hid hz2
        have C := Below.heapOf hb (by omega) C
        have Q := Below.heapOf hb (by omega) Q
        have X := X.below hb (by omega)
        have D := D.below hb (by omega)
        have Y := Y.below hb (by omega)
        have O := O.below hb (by omega)
        have hc := hc.trans (hb.mono (by omega))
        clear hb
        clear k1 k2 k3
        obtain ⟨⟨k1, k2, k3⟩, _⟩ := cells3 C
        (try clear q1 q2 q3)
        obtain ⟨⟨q1, q2, q3⟩, _⟩ := cells3 Q
        clear hz2
        rw [← Hz2.out] at k1 k2 k3 q1 q2 q3
        go_wp2_with fail
        rw [Hz2.out]
        refine (OneR_any z2 ow ca A0 n0 c0 xs (X.more (by omega) (by omega)) (by omega) dr hd0 hd1 x y r HR.out).mono ?_
        rintro e w3 ⟨rfl, hb, _⟩
        clear Hz2
        have hs3 := hb.size
        have C := Below.heapOf hb (by omega) C
        have Q := Below.heapOf hb (by omega) Q
        have E1 := Below.heapOf hb (by omega) E1
        have X := X.below hb (by omega)
        have D := D.below hb (by omega)
        have Y := Y.below hb (by omega)
        have O := O.below hb (by omega)
        have hc := hc.trans (hb.mono (by omega))
        clear hb
        obtain ⟨z3, hz3⟩ : ∃ u : World, w3.alloc (.cells #[.int .i64 x, .int .i64 y] 29) = u := ⟨_, rfl⟩
        have E2 : z3.heap[w3.heap.size]? = some (.cells #[.int .i64 x, .int .i64 y] 29 (0, 0)) := by rw [← hz3]; exact heap_newg _ _ _ rfl
        have hb : Below w3.heap.size w3 z3 := by rw [← hz3]; exact (Below.refl _ w3).alloc (Nat.le_refl _) _
        have hz3s : w3.heap.size + 1 ≤ z3.heap.size := by rw [← hz3]; simp
        have Hz3 := Lib.hid hz3
        have C := Below.heapOf hb (by omega) C
        have Q := Below.heapOf hb (by omega) Q
        have E1 := Below.heapOf hb (by omega) E1
        have X := X.below hb (by omega)
        have D := D.below hb (by omega)
        have Y := Y.below hb (by omega)
        have O := O.below hb (by omega)
        have hc := hc.trans (hb.mono (by omega))
        clear hb
        clear k1 k2 k3
        obtain ⟨⟨k1, k2, k3⟩, _⟩ := cells3 C
        (try clear q1 q2 q3)
        obtain ⟨⟨q1, q2, q3⟩, _⟩ := cells3 Q
        clear hz3
        rw [← Hz3.out] at k1 k2 k3 q1 q2 q3
        go_wp2_with fail
        rw [Hz3.out]
        refine (Some_any z3 ow ca AO n0 cO xs (O.more (by omega) (by omega)) hcO B m cB ds (D.more (by omega) (by omega)) s HS.out).mono ?_
        rintro e w4 ⟨Ax, nx, cx, rx, rfl, hcx, hb, hrx, hrx2, Dx⟩
        clear Hz3
        have hs4 := hb.size
        have C := Below.heapOf hb (by omega) C
        have Q := Below.heapOf hb (by omega) Q
        have E1 := Below.heapOf hb (by omega) E1
        have E2 := Below.heapOf hb (by omega) E2
        have X := X.below hb (by omega)
        have D := D.below hb (by omega)
        have Y := Y.below hb (by omega)
        have O := O.below hb (by omega)
        have hc := hc.trans (hb.mono (by omega))
        clear hb
        clear k1 k2 k3
        obtain ⟨⟨k1, k2, k3⟩, _⟩ := cells3 C
        (try clear q1 q2 q3)
        obtain ⟨⟨q1, q2, q3⟩, _⟩ := cells3 Q
        have HRX := Lib.hid hrx
        clear hrx
        go_wp2_with fail
        refine (SomeR_any w4 ow ca A0 n0 c0 xs (X.more (by omega) (by omega)) hc0 (by omega) B m cB ds (D.more (by omega) (by omega)) s HS.out).mono ?_
        rintro e w5 ⟨Ay, ny, cy, ry, rfl, hcy, hb, hry, hry2, Dy⟩
        have hs5 := hb.size
        have C := Below.heapOf hb (by omega) C
        have Q := Below.heapOf hb (by omega) Q
        have E1 := Below.heapOf hb (by omega) E1
        have E2 := Below.heapOf hb (by omega) E2
        have X := X.below hb (by omega)
        have D := D.below hb (by omega)
        have Y := Y.below hb (by omega)
        have O := O.below hb (by omega)
        have Dx := Dx.below hb (by omega)
        have hc := hc.trans (hb.mono (by omega))
        clear hb
        clear k1 k2 k3
        obtain ⟨⟨k1, k2, k3⟩, _⟩ := cells3 C
        (try clear q1 q2 q3)
        obtain ⟨⟨q1, q2, q3⟩, _⟩ := cells3 Q
        clear hry
        go_wp2_with fail
        refine (Draws_any w5 ow ca AO n0 cO xs (O.more (by omega) (by omega)) hcO L k0 cL ls (Y.more (by omega) (by omega)) t HT.out).mono ?_
        rintro e w6 ⟨Ap, np, cp, rfl, hcp, hb, _, Dp⟩
        have hs6 := hb.size
        have C := Below.heapOf hb (by omega) C
        have Q := Below.heapOf hb (by omega) Q
        have E1 := Below.heapOf hb (by omega) E1
        have E2 := Below.heapOf hb (by omega) E2
        have X := X.below hb (by omega)
        have D := D.below hb (by omega)
        have Y := Y.below hb (by omega)
        have O := O.below hb (by omega)
        have Dx := Dx.below hb (by omega)
        have Dy := Dy.below hb (by omega)
        have hc := hc.trans (hb.mono (by omega))
        clear hb
        clear k1 k2 k3
        obtain ⟨⟨k1, k2, k3⟩, _⟩ := cells3 C
        (try clear q1 q2 q3)
        obtain ⟨⟨q1, q2, q3⟩, _⟩ := cells3 Q
        go_wp2_with fail
        refine (DrawsR_any w6 ow ca A0 n0 c0 xs (X.more (by omega) (by omega)) hc0 (by omega) L k0 cL ls (Y.more (by omega) (by omega)) t HT.out).mono ?_
        rintro e w7 ⟨Aq, nq, cq, rfl, hcq, hb, _, Dq⟩
        have hs7 := hb.size
        have C := Below.heapOf hb (by omega) C
        have Q := Below.heapOf hb (by omega) Q
        have E1 := Below.heapOf hb (by omega) E1
        have E2 := Below.heapOf hb (by omega) E2
        have X := X.below hb (by omega)
        have D := D.below hb (by omega)
        have Y := Y.below hb (by omega)
        have O := O.below hb (by omega)
        have Dx := Dx.below hb (by omega)
        have Dy := Dy.below hb (by omega)
        have Dp := Dp.below hb (by omega)
        have hc := hc.trans (hb.mono (by omega))
        clear hb
        clear k1 k2 k3
        obtain ⟨⟨k1, k2, k3⟩, _⟩ := cells3 C
        (try clear q1 q2 q3)
        obtain ⟨⟨q1, q2, q3⟩, _⟩ := cells3 Q
        obtain ⟨⟨a1, a2⟩, _⟩ := cells2 E1
        obtain ⟨⟨b1, b2⟩, _⟩ := cells2 E2
        go_wp2_with fail
        refine (SameRb _ _ _ _ _ Ax Ay nx cx ny cy _ _ Dx Dy true (Sm_self _)).mono ?_
        rintro e w8 ⟨rfl, hb⟩
        have hs8 := hb.size
        clear a1 a2 b1 b2 Dy E1 E2
        have C := Below.heapOf hb (by omega) C
        have Q := Below.heapOf hb (by omega) Q
        have X := X.below hb (by omega)
        have O := O.below hb (by omega)
        have Dx := Dx.below hb (by omega)
        have Dp := Dp.below hb (by omega)
        have Dq := Dq.below hb (by omega)
        have hc := hc.trans (hb.mono (by omega))
        clear hb
        clear k1 k2 k3 q1 q2 q3 D Y
        go_wp2_with fail
        refine (SameDrawsB _ _ _ _ _ Ap Aq np cp nq cq _ Dp Dq).mono ?_
        rintro e w9 ⟨rfl, hb⟩
        have hs9 := hb.size
        clear Dp Dq
        have C := Below.heapOf hb (by omega) C
        have Q := Below.heapOf hb (by omega) Q
        have X := X.below hb (by omega)
        have O := O.below hb (by omega)
        have Dx := Dx.below hb (by omega)
        have hc := hc.trans (hb.mono (by omega))
        clear hb
        have hbx := Dx.big
        obtain ⟨gx, g1, g2, hwx⟩ : ∃ gx, z3.heap.size ≤ gx ∧ WrA w9 gx Ax nx ∧ True := by
          by_cases h : 0 < nx
          · exact ⟨rx, HRX.out h, Dx.wrA, trivial⟩
          · exact ⟨w9.heap.size, by omega, fun k hk => absurd hk (by omega), trivial⟩
        clear Dx HR HS HT hwx HRX
        go_wp2
        go_loopw [23] (fun iv wr => ∃ k : Nat, iv = .int .i64 k ∧ k ≤ nx ∧ WrA wr gx Ax nx ∧ w9.grownBy wr (some gx)) (fun iv _ => nx - (intOf iv).toNat)
        case atStart => exact ⟨0, rfl, Nat.zero_le _, g2, World.grownBy.refl _ _⟩
        case round =>
          obtain ⟨k, rfl, hk, hw1, hg1⟩ := hrel
          by_cases hlt : k < nx
          · obtain ⟨off, u, rfl, e1, e2⟩ := hw1 k hlt
            have hw2 := hw1.set_ ⟨gx, off + k * 2, none⟩ (.int .i64 (-7))
            have hg2 := only_setCell (p := ⟨gx, off + k * 2, none⟩) hg1 rfl (.int .i64 (-7))
            clear hw1 hg1
            go_wp2
            go_roundw
            case rel => exact ⟨k + 1, by go_num, by omega, hw2, hg2⟩
            case measure => simp [intOf]; omega
          · obtain rfl : k = nx := by omega
            have hsz := hg1.size
            have O := O.grownOff hg1 (.inr (by omega)) (by omega)
            have X := X.grownOff hg1 (.inr (by omega)) (by omega)
            have C := (hg1.block _ (by omega) (fun e => by injection e with e; omega)).trans C
            have Q := (hg1.block _ (by omega) (fun e => by injection e with e; omega)).trans Q
            have hc := hc.grown hg1 (by omega) (fun q hq => by injection hq with hq; omega)
            obtain ⟨⟨k1, k2, k3⟩, _⟩ := cells3 C
            obtain ⟨⟨q1, q2, q3⟩, _⟩ := cells3 Q
            clear hg1 hw1 g2
            go_wp2_with fail
            refine (SameCR_any _ ow ca ow ca _ _ _ _ AO A0 n0 cO n0 c0 xs xs O X (by omega) (by omega) true (by simp [sameC, Sm_self])).mono ?_
            rintro e v ⟨rfl, hb⟩
            have hc := hc.trans (hb.mono (by omega))
            clear hb O X k1 k2 k3 q1 q2 q3
            go_wp2
            go_ret
            exact ⟨rfl, hc⟩
theorem chooseTells_row (w : World) (ow ca : Int) (_ : Rng (ow, ca)) (A0 : Option Addr) (n0 c0 : Nat) (xs : List (Int × Int)) (hX : Descs w 0 w.heap.size A0 n0 xs) (hc0 : n0 ≤ c0) (d0 : Int) (hd : (Lit.int .u64 d0).wf = true) (B : Option Addr) (m cB : Nat) (ds : List Int) (hD : Ints w 0 w.heap.size .u64 B m ds) (_ : m ≤ cB) (L : Option Addr) (k0 cL : Nat) (ls : List (Int × Int)) (hL : Descs w 0 w.heap.size L k0 ls) (_ : k0 ≤ cL) :
    Calls Try.prog 14 #[.agg #[.int .i64 ow, .int .i64 ca, .slice A0 n0 c0], .int .u64 d0, .slice B m cB, .slice L k0 cL] w fun e w' => e = .returned (.bool true) ∧ Below w.heap.size w w' :=
  chooseTells_any w ow ca A0 n0 c0 xs hX hc0 d0 (u64_wf hd).1 (u64_wf hd).2 B m cB ds hD L k0 cL ls hL
end De
end Go.Proofs.Ytpjomdkcckamkaa
