/- CacheTells: the walk. -/
import Derived.Test.YtpjomdkcckamkaaCaRefM
import Derived.Test.YtpjomdkcckamkaaCaLaw1
import Derived.Test.YtpjomdkcckamkaaChOnce
namespace Go.Proofs.Ytpjomdkcckamkaa
open Go.RowKit Go.Sort Go.Shelf
namespace De
set_option maxHeartbeats 6400000 in
set_option maxRecDepth 100000 in
theorem cacheTells_any (w : World) (ow ca : Int) (A0 : Option Addr) (n0 c0 : Nat) (xs : List (Int × Int)) (hX : Descs w 0 w.heap.size A0 n0 xs) (o1 p1 : Int) (A1 : Option Addr) (n1 c1 : Nat) (ys : List (Int × Int)) (hY : Descs w 0 w.heap.size A1 n1 ys) (L : Option Addr) (k0 cL : Nat) (ls : List (Int × Int)) (hL : Descs w 0 w.heap.size L k0 ls) (now : Int) :
    Calls Try.prog 11 #[.agg #[.int .i64 ow, .int .i64 ca, .slice A0 n0 c0], .agg #[.int .i64 o1, .int .i64 p1, .slice A1 n1 c1], .slice L k0 cL, .int .i64 now] w fun e w' => e = .returned (.bool true) ∧ Below w.heap.size w w' := by
  have hbx := hX.big
  have hby := hY.big
  have hbl := hL.big
  have fin := ((Below.refl w.heap.size w).alloc (Nat.le_refl _) (.cells #[.int .i64 ow, .int .i64 ca, .slice A0 n0 c0] 43)).alloc (by simp) (.cells #[.int .i64 o1, .int .i64 p1, .slice A1 n1 c1] 43)
  by_cases h70 : n0 > 70
  · go_enter Try.func11, Try.ntmps11
    go_wp2
    go_ret
    exact ⟨rfl, fin⟩
  · by_cases h71 : n1 > 70
    · go_enter Try.func11, Try.ntmps11
      go_wp2
      go_ret
      exact ⟨rfl, fin⟩
    · by_cases h72 : k0 > 70
      · go_enter Try.func11, Try.ntmps11
        go_wp2
        go_ret
        exact ⟨rfl, fin⟩
      · clear fin
        have hd70 : decide ((70 : Int) < n0) = false := by simp; omega
        have hd71 : decide ((70 : Int) < n1) = false := by simp; omega
        have hd72 : decide ((70 : Int) < k0) = false := by simp; omega
        have mixed : Try.prog.follows .mixedOrders = true := by kernel_rfl
        obtain ⟨i0, hi0, hz0, hz1, hz2⟩ := info_parts Try.info29
        obtain ⟨r, hr⟩ : ∃ r, mergeC ow ca xs ls = r := ⟨_, rfl⟩
        obtain ⟨xo, hxo⟩ : ∃ r, mergeO ow ca xs ls = r := ⟨_, rfl⟩
        obtain ⟨xp, hxp⟩ : ∃ r, mergeP ow ca xs ls = r := ⟨_, rfl⟩
        obtain ⟨T, hT⟩ : ∃ r, mergeL ow ca xs ls = r := ⟨_, rfl⟩
        obtain ⟨s, hs⟩ : ∃ r, offerC ow ca xs now = r := ⟨_, rfl⟩
        obtain ⟨F, hF⟩ : ∃ r, offerL ow ca xs now = r := ⟨_, rfl⟩
        obtain ⟨⟨⟨na, nb⟩, t⟩, ht⟩ : ∃ r, newR ow ca = r := ⟨_, rfl⟩
        obtain ⟨ck, hck⟩ : ∃ r : Int, (if mayC ow ca xs = true then 0 else 8) = r := ⟨_, rfl⟩
        obtain ⟨sm, hsm⟩ : ∃ r, sameC ow ca xs o1 p1 ys = r := ⟨_, rfl⟩
        have HR := Lib.hid hr
        have HXO := Lib.hid hxo
        have HXP := Lib.hid hxp
        have HT := Lib.hid hT
        have HS := Lib.hid hs
        have HF := Lib.hid hF
        have HNW := Lib.hid ht
        have HCK := Lib.hid hck
        have HSM := Lib.hid hsm
        have hrr : (r == r) = true := by simp
        have hss : (s == s) = true := by simp
        have htt : (t == t) = true := by simp
        have hkk : (ck == ck) = true := by simp
        have hmm : (sm == sm) = true := by simp
        have hE1 : Hid (sameC xo xp T xo xp T = true) := by simp [Hid, sameC, Sm_self]
        have hE2 : Hid (sameC na nb [] na nb [] = true) := by simp [Hid, sameC, Sm_self]
        have hE3 : Hid (sameC ow ca xs ow ca xs = true) := by simp [Hid, sameC, Sm_self]
        have HWL := Lib.hid hL.wf
        clear hr hxo hxp hT hs hF ht hck hsm
        obtain ⟨u, hu⟩ : ∃ u : World, (w.alloc (.cells #[.int .i64 ow, .int .i64 ca, .slice A0 n0 c0] 43)).alloc (.cells #[.int .i64 o1, .int .i64 p1, .slice A1 n1 c1] 43) = u := ⟨_, rfl⟩
        have hc : Below w.heap.size w u := by rw [← hu]; exact ((Below.refl _ w).alloc (Nat.le_refl _) _).alloc (by simp) _
        have hsu : w.heap.size + 2 ≤ u.heap.size := by rw [← hu]; simp
        have C : u.heap[w.heap.size]? = some (.cells #[.int .i64 ow, .int .i64 ca, .slice A0 n0 c0] 43 (0, 0)) := by rw [← hu]; exact heapAlloc _ (heap_newg _ _ _ rfl)
        have D : u.heap[w.heap.size + 1]? = some (.cells #[.int .i64 o1, .int .i64 p1, .slice A1 n1 c1] 43 (0, 0)) := by rw [← hu]; exact heap_newg _ _ _ (by simp)
        have X := hX.below hc (Nat.le_refl _)
        have Y := hY.below hc (Nat.le_refl _)
        have M := hL.below hc (Nat.le_refl _)
        have HU := Lib.hid hu
        clear hX hY hL hu
        go_enter Try.func11, Try.ntmps11
        go_wp2_with fail
        rw [HU.out]
        refine (TwinCR_any u ow ca _ _ A0 n0 c0 xs X (by omega) (by omega)).mono ?_
        rintro e w1 ⟨AO, cO, rfl, hcO, hb, hs1, O⟩
        clear HU
        replace C := Below.heapOf hb (by omega) C
        replace D := Below.heapOf hb (by omega) D
        replace X := X.below hb (by omega)
        replace Y := Y.below hb (by omega)
        replace M := M.below hb (by omega)
        replace hc := hc.trans (hb.mono (by omega))
        clear hb
        have hb0 : Below w1.heap.size w1 (w1.alloc (.cells #[] 29)) := (Below.refl _ _).alloc (Nat.le_refl _) _
        go_wp2_with (first
          | (at_builtin; refine wpList_append_raw _ rfl (.tmp 43) (.tmp 44) 22 rfl w1.heap.size 29 i0 _ 2 16 Try.underlying22 hi0 hz0 hz1 hz2 rfl (by decide) _ _ _ rfl (own_new (heap_newg _ _ _ rfl) (Nat.le_refl _)) _ _ _ k0 _ _ rfl (M.alloc (by omega) _).raw (flatD_one _) ?c2 ?c3 ?c4 ?_))
        case c2 => unfold maxLen; omega
        case c3 => omega
        case c4 => simp
        intro AM cM w2 hownM hgM _
        (try simp only [Nat.zero_add, List.nil_append] at hownM)
        have hb : Below w1.heap.size w1 w2 := hb0.grown hgM (by simp) (fun q hq => by simp [Value.ownBlock] at hq; omega)
        have hs2 := hb.size
        have MO := Descs.of_own hownM HWL.out (by omega)
        clear hownM hgM hb0
        replace C := Below.heapOf hb (by omega) C
        replace D := Below.heapOf hb (by omega) D
        replace X := X.below hb (by omega)
        replace Y := Y.below hb (by omega)
        replace M := M.below hb (by omega)
        replace O := O.below hb (by omega)
        replace hc := hc.trans (hb.mono (by omega))
        clear hb
        obtain ⟨z2, hz2⟩ : ∃ u : World, w2.alloc (.cells #[.int .i64 ow, .int .i64 ca, .slice AO n0 cO] 43) = u := ⟨_, rfl⟩
        have Q : z2.heap[w2.heap.size]? = some (.cells #[.int .i64 ow, .int .i64 ca, .slice AO n0 cO] 43 (0, 0)) := by rw [← hz2]; exact heap_newg _ _ _ rfl
        have hb : Below w2.heap.size w2 z2 := by rw [← hz2]; exact (Below.refl _ w2).alloc (Nat.le_refl _) _
        have hz2s : w2.heap.size + 1 ≤ z2.heap.size := by rw [← hz2]; simp
        have Hz2 := Lib.hid hz2
        replace C := Below.heapOf hb (by omega) C
        replace D := Below.heapOf hb (by omega) D
        replace X := X.below hb (by omega)
        replace Y := Y.below hb (by omega)
        replace M := M.below hb (by omega)
        replace O := O.below hb (by omega)
        replace MO := MO.below hb (by omega)
        replace hc := hc.trans (hb.mono (by omega))
        clear hb
        clear hz2
        go_wp2_with fail
        rw [Hz2.out]
        refine (MergeC_any z2 ow ca AO n0 cO xs (O.more (by omega) (by omega)) AM k0 cM ls (MO.more (by omega) (by omega)) r HR.out).mono ?_
        rw [HXO.out, HXP.out, HT.out]
        rintro e w3 ⟨Ax, nx, cx, rx, rfl, hcx, hb, hrx, hrx2, Dx⟩
        clear Hz2
        have hs3 := hb.size
        replace C := Below.heapOf hb (by omega) C
        replace D := Below.heapOf hb (by omega) D
        replace Q := Below.heapOf hb (by omega) Q
        replace X := X.below hb (by omega)
        replace Y := Y.below hb (by omega)
        replace M := M.below hb (by omega)
        replace O := O.below hb (by omega)
        replace MO := MO.below hb (by omega)
        replace hc := hc.trans (hb.mono (by omega))
        clear hb
        have HRX := Lib.hid hrx
        clear hrx
        obtain ⟨z3, hz3⟩ : ∃ u : World, w3.alloc (.cells #[.int .i64 xo, .int .i64 xp, .slice Ax nx cx] 43) = u := ⟨_, rfl⟩
        have EX : z3.heap[w3.heap.size]? = some (.cells #[.int .i64 xo, .int .i64 xp, .slice Ax nx cx] 43 (0, 0)) := by rw [← hz3]; exact heap_newg _ _ _ rfl
        have hb : Below w3.heap.size w3 z3 := by rw [← hz3]; exact (Below.refl _ w3).alloc (Nat.le_refl _) _
        have hz3s : w3.heap.size + 1 ≤ z3.heap.size := by rw [← hz3]; simp
        have Hz3 := Lib.hid hz3
        replace C := Below.heapOf hb (by omega) C
        replace D := Below.heapOf hb (by omega) D
        replace Q := Below.heapOf hb (by omega) Q
        replace X := X.below hb (by omega)
        replace Y := Y.below hb (by omega)
        replace M := M.below hb (by omega)
        replace O := O.below hb (by omega)
        replace MO := MO.below hb (by omega)
        replace Dx := Dx.below hb (by omega)
        replace hc := hc.trans (hb.mono (by omega))
        clear hb
        clear hz3
        obtain ⟨⟨kC1, kC2, kC3⟩, _⟩ := cells3 C
        rw [← Hz3.out] at kC1 kC2 kC3
        go_wp2_with fail
        rw [Hz3.out]
        refine (MergeR_any z3 ow ca A0 n0 c0 xs (X.more (by omega) (by omega)) (by omega) L k0 cL ls (M.more (by omega) (by omega)) r HR.out).mono ?_
        rw [HXO.out, HXP.out, HT.out]
        rintro e w4 ⟨Ay, ny, cy, ry, rfl, hcy, hb, _, hry2, Dy⟩
        clear Hz3
        clear kC1 kC2 kC3
        have hs4 := hb.size
        replace C := Below.heapOf hb (by omega) C
        replace D := Below.heapOf hb (by omega) D
        replace Q := Below.heapOf hb (by omega) Q
        replace EX := Below.heapOf hb (by omega) EX
        replace X := X.below hb (by omega)
        replace Y := Y.below hb (by omega)
        replace M := M.below hb (by omega)
        replace O := O.below hb (by omega)
        replace MO := MO.below hb (by omega)
        replace Dx := Dx.below hb (by omega)
        replace hc := hc.trans (hb.mono (by omega))
        clear hb
        obtain ⟨z4, hz4⟩ : ∃ u : World, w4.alloc (.cells #[.int .i64 xo, .int .i64 xp, .slice Ay ny cy] 43) = u := ⟨_, rfl⟩
        have EY : z4.heap[w4.heap.size]? = some (.cells #[.int .i64 xo, .int .i64 xp, .slice Ay ny cy] 43 (0, 0)) := by rw [← hz4]; exact heap_newg _ _ _ rfl
        have hb : Below w4.heap.size w4 z4 := by rw [← hz4]; exact (Below.refl _ w4).alloc (Nat.le_refl _) _
        have hz4s : w4.heap.size + 1 ≤ z4.heap.size := by rw [← hz4]; simp
        have Hz4 := Lib.hid hz4
        replace C := Below.heapOf hb (by omega) C
        replace D := Below.heapOf hb (by omega) D
        replace Q := Below.heapOf hb (by omega) Q
        replace EX := Below.heapOf hb (by omega) EX
        replace X := X.below hb (by omega)
        replace Y := Y.below hb (by omega)
        replace M := M.below hb (by omega)
        replace O := O.below hb (by omega)
        replace MO := MO.below hb (by omega)
        replace Dx := Dx.below hb (by omega)
        replace Dy := Dy.below hb (by omega)
        replace hc := hc.trans (hb.mono (by omega))
        clear hb
        clear hz4
        obtain ⟨⟨kQ1, kQ2, kQ3⟩, _⟩ := cells3 Q
        rw [← Hz4.out] at kQ1 kQ2 kQ3
        go_wp2_with fail
        rw [Hz4.out]
        refine (Offer_any z4 ow ca now AO n0 cO xs (O.more (by omega) (by omega)) s HS.out).mono ?_
        rw [HF.out]
        rintro e w5 ⟨Ap, np, cp, rp, rfl, hcp, hb, hrp, hrp2, Dp⟩
        clear Hz4
        clear kQ1 kQ2 kQ3
        have hs5 := hb.size
        replace C := Below.heapOf hb (by omega) C
        replace D := Below.heapOf hb (by omega) D
        replace Q := Below.heapOf hb (by omega) Q
        replace EX := Below.heapOf hb (by omega) EX
        replace EY := Below.heapOf hb (by omega) EY
        replace X := X.below hb (by omega)
        replace Y := Y.below hb (by omega)
        replace M := M.below hb (by omega)
        replace O := O.below hb (by omega)
        replace MO := MO.below hb (by omega)
        replace Dx := Dx.below hb (by omega)
        replace Dy := Dy.below hb (by omega)
        replace hc := hc.trans (hb.mono (by omega))
        clear hb
        have HRP := Lib.hid hrp
        clear hrp
        obtain ⟨⟨kC1, kC2, kC3⟩, _⟩ := cells3 C
        go_wp2_with fail
        refine (OfferR_any w5 ow ca now A0 n0 c0 xs (X.more (by omega) (by omega)) (by omega) s HS.out).mono ?_
        rw [HF.out]
        rintro e w6 ⟨Aq, nq, cq, rq, rfl, hcq, hb, _, hrq2, Dq⟩
        have hs6 := hb.size
        clear kC1 kC2 kC3
        replace C := Below.heapOf hb (by omega) C
        replace D := Below.heapOf hb (by omega) D
        replace Q := Below.heapOf hb (by omega) Q
        replace EX := Below.heapOf hb (by omega) EX
        replace EY := Below.heapOf hb (by omega) EY
        replace X := X.below hb (by omega)
        replace Y := Y.below hb (by omega)
        replace M := M.below hb (by omega)
        replace O := O.below hb (by omega)
        replace MO := MO.below hb (by omega)
        replace Dx := Dx.below hb (by omega)
        replace Dy := Dy.below hb (by omega)
        replace Dp := Dp.below hb (by omega)
        replace hc := hc.trans (hb.mono (by omega))
        clear hb
        obtain ⟨⟨kC1, kC2, kC3⟩, _⟩ := cells3 C
        go_wp2_with fail
        refine (New_any w6 ow ca na nb t HNW.out).mono ?_
        rintro e w7 ⟨rfl, hg⟩
        have hb := hg.below
        have hs7 := hb.size
        clear hg
        clear kC1 kC2 kC3
        replace C := Below.heapOf hb (by omega) C
        replace D := Below.heapOf hb (by omega) D
        replace Q := Below.heapOf hb (by omega) Q
        replace EX := Below.heapOf hb (by omega) EX
        replace EY := Below.heapOf hb (by omega) EY
        replace X := X.below hb (by omega)
        replace Y := Y.below hb (by omega)
        replace M := M.below hb (by omega)
        replace O := O.below hb (by omega)
        replace MO := MO.below hb (by omega)
        replace Dx := Dx.below hb (by omega)
        replace Dy := Dy.below hb (by omega)
        replace Dp := Dp.below hb (by omega)
        replace Dq := Dq.below hb (by omega)
        replace hc := hc.trans (hb.mono (by omega))
        clear hb
        obtain ⟨z7, hz7⟩ : ∃ u : World, w7.alloc (.cells #[.int .i64 na, .int .i64 nb, .slice none 0 0] 43) = u := ⟨_, rfl⟩
        have EN : z7.heap[w7.heap.size]? = some (.cells #[.int .i64 na, .int .i64 nb, .slice none 0 0] 43 (0, 0)) := by rw [← hz7]; exact heap_newg _ _ _ rfl
        have hb : Below w7.heap.size w7 z7 := by rw [← hz7]; exact (Below.refl _ w7).alloc (Nat.le_refl _) _
        have hz7s : w7.heap.size + 1 ≤ z7.heap.size := by rw [← hz7]; simp
        have Hz7 := Lib.hid hz7
        replace C := Below.heapOf hb (by omega) C
        replace D := Below.heapOf hb (by omega) D
        replace Q := Below.heapOf hb (by omega) Q
        replace EX := Below.heapOf hb (by omega) EX
        replace EY := Below.heapOf hb (by omega) EY
        replace X := X.below hb (by omega)
        replace Y := Y.below hb (by omega)
        replace M := M.below hb (by omega)
        replace O := O.below hb (by omega)
        replace MO := MO.below hb (by omega)
        replace Dx := Dx.below hb (by omega)
        replace Dy := Dy.below hb (by omega)
        replace Dp := Dp.below hb (by omega)
        replace Dq := Dq.below hb (by omega)
        replace hc := hc.trans (hb.mono (by omega))
        clear hb
        clear hz7
        obtain ⟨⟨kC1, kC2, kC3⟩, _⟩ := cells3 C
        rw [← Hz7.out] at kC1 kC2 kC3
        go_wp2_with fail
        rw [Hz7.out]
        refine (NewR_any z7 ow ca na nb t HNW.out).mono ?_
        rintro e w8 ⟨rfl, hg⟩
        have hb := hg.below
        have hs8 := hb.size
        clear hg Hz7
        clear kC1 kC2 kC3
        replace C := Below.heapOf hb (by omega) C
        replace D := Below.heapOf hb (by omega) D
        replace Q := Below.heapOf hb (by omega) Q
        replace EX := Below.heapOf hb (by omega) EX
        replace EY := Below.heapOf hb (by omega) EY
        replace EN := Below.heapOf hb (by omega) EN
        replace X := X.below hb (by omega)
        replace Y := Y.below hb (by omega)
        replace M := M.below hb (by omega)
        replace O := O.below hb (by omega)
        replace MO := MO.below hb (by omega)
        replace Dx := Dx.below hb (by omega)
        replace Dy := Dy.below hb (by omega)
        replace Dp := Dp.below hb (by omega)
        replace Dq := Dq.below hb (by omega)
        replace hc := hc.trans (hb.mono (by omega))
        clear hb
        obtain ⟨z8, hz8⟩ : ∃ u : World, w8.alloc (.cells #[.int .i64 na, .int .i64 nb, .slice none 0 0] 43) = u := ⟨_, rfl⟩
        have EM : z8.heap[w8.heap.size]? = some (.cells #[.int .i64 na, .int .i64 nb, .slice none 0 0] 43 (0, 0)) := by rw [← hz8]; exact heap_newg _ _ _ rfl
        have hb : Below w8.heap.size w8 z8 := by rw [← hz8]; exact (Below.refl _ w8).alloc (Nat.le_refl _) _
        have hz8s : w8.heap.size + 1 ≤ z8.heap.size := by rw [← hz8]; simp
        have Hz8 := Lib.hid hz8
        replace C := Below.heapOf hb (by omega) C
        replace D := Below.heapOf hb (by omega) D
        replace Q := Below.heapOf hb (by omega) Q
        replace EX := Below.heapOf hb (by omega) EX
        replace EY := Below.heapOf hb (by omega) EY
        replace EN := Below.heapOf hb (by omega) EN
        replace X := X.below hb (by omega)
        replace Y := Y.below hb (by omega)
        replace M := M.below hb (by omega)
        replace O := O.below hb (by omega)
        replace MO := MO.below hb (by omega)
        replace Dx := Dx.below hb (by omega)
        replace Dy := Dy.below hb (by omega)
        replace Dp := Dp.below hb (by omega)
        replace Dq := Dq.below hb (by omega)
        replace hc := hc.trans (hb.mono (by omega))
        clear hb
        clear hz8
        obtain ⟨⟨kQ1, kQ2, kQ3⟩, _⟩ := cells3 Q
        rw [← Hz8.out] at kQ1 kQ2 kQ3
        go_wp2_with fail
        rw [Hz8.out]
        refine (TwinC_any z8 ow ca _ _ AO n0 cO xs O (by omega) (by omega)).mono ?_
        rintro e w9 ⟨At, ct, rfl, hct, hb, hs9, Dt0⟩
        obtain ⟨rt, hrt1, hrt0, Dt⟩ := Dt0.exact (Nat.le_refl _) (by omega)
        have HRT := Lib.hid hrt0
        clear Dt0 Hz8 hrt0
        clear kQ1 kQ2 kQ3
        replace C := Below.heapOf hb (by omega) C
        replace D := Below.heapOf hb (by omega) D
        replace Q := Below.heapOf hb (by omega) Q
        replace EX := Below.heapOf hb (by omega) EX
        replace EY := Below.heapOf hb (by omega) EY
        replace EN := Below.heapOf hb (by omega) EN
        replace EM := Below.heapOf hb (by omega) EM
        replace X := X.below hb (by omega)
        replace Y := Y.below hb (by omega)
        replace M := M.below hb (by omega)
        replace O := O.below hb (by omega)
        replace MO := MO.below hb (by omega)
        replace Dx := Dx.below hb (by omega)
        replace Dy := Dy.below hb (by omega)
        replace Dp := Dp.below hb (by omega)
        replace Dq := Dq.below hb (by omega)
        replace hc := hc.trans (hb.mono (by omega))
        clear hb
        obtain ⟨z9, hz9⟩ : ∃ u : World, w9.alloc (.cells #[.int .i64 ow, .int .i64 ca, .slice At n0 ct] 43) = u := ⟨_, rfl⟩
        have ET : z9.heap[w9.heap.size]? = some (.cells #[.int .i64 ow, .int .i64 ca, .slice At n0 ct] 43 (0, 0)) := by rw [← hz9]; exact heap_newg _ _ _ rfl
        have hb : Below w9.heap.size w9 z9 := by rw [← hz9]; exact (Below.refl _ w9).alloc (Nat.le_refl _) _
        have hz9s : w9.heap.size + 1 ≤ z9.heap.size := by rw [← hz9]; simp
        have Hz9 := Lib.hid hz9
        replace C := Below.heapOf hb (by omega) C
        replace D := Below.heapOf hb (by omega) D
        replace Q := Below.heapOf hb (by omega) Q
        replace EX := Below.heapOf hb (by omega) EX
        replace EY := Below.heapOf hb (by omega) EY
        replace EN := Below.heapOf hb (by omega) EN
        replace EM := Below.heapOf hb (by omega) EM
        replace X := X.below hb (by omega)
        replace Y := Y.below hb (by omega)
        replace M := M.below hb (by omega)
        replace O := O.below hb (by omega)
        replace MO := MO.below hb (by omega)
        replace Dx := Dx.below hb (by omega)
        replace Dy := Dy.below hb (by omega)
        replace Dp := Dp.below hb (by omega)
        replace Dq := Dq.below hb (by omega)
        replace Dt := Dt.below hb (by omega)
        replace hc := hc.trans (hb.mono (by omega))
        clear hb
        clear hz9
        have hzs : z9.heap.size ≤ z9.drew.heap.size := Nat.le_refl _
        have HzC := fun W => (Descs.nil_ W 0 0)
        obtain ⟨⟨kQ1, kQ2, kQ3⟩, _⟩ := cells3 Q
        obtain ⟨⟨kC1, kC2, kC3⟩, _⟩ := cells3 C
        obtain ⟨⟨kEX1, kEX2, kEX3⟩, _⟩ := cells3 EX
        obtain ⟨⟨kEY1, kEY2, kEY3⟩, _⟩ := cells3 EY
        obtain ⟨⟨kEN1, kEN2, kEN3⟩, _⟩ := cells3 EN
        obtain ⟨⟨kEM1, kEM2, kEM3⟩, _⟩ := cells3 EM
        rw [← Hz9.out] at kQ1 kQ2 kQ3 kC1 kC2 kC3 kEX1 kEX2 kEX3 kEY1 kEY2 kEY3 kEN1 kEN2 kEN3 kEM1 kEM2 kEM3
        go_wp2_with fail
        rw [Hz9.out]
        clear kQ1
        clear kQ2
        clear kQ3
        clear kC1
        clear kC2
        clear kC3
        clear kEX1
        clear kEX2
        clear kEX3
        clear kEY1
        clear kEY2
        clear kEY3
        clear kEN1
        clear kEN2
        clear kEN3
        clear kEM1
        clear kEM2
        clear kEM3
        obtain ⟨⟨kQ1, kQ2, kQ3⟩, _⟩ := cells3 Q
        obtain ⟨⟨kC1, kC2, kC3⟩, _⟩ := cells3 C
        obtain ⟨⟨kEX1, kEX2, kEX3⟩, _⟩ := cells3 EX
        obtain ⟨⟨kEY1, kEY2, kEY3⟩, _⟩ := cells3 EY
        obtain ⟨⟨kEN1, kEN2, kEN3⟩, _⟩ := cells3 EN
        obtain ⟨⟨kEM1, kEM2, kEM3⟩, _⟩ := cells3 EM
        clear HzC
        replace C := Lib.hid C
        replace D := Lib.hid D
        replace Q := Lib.hid Q
        replace EX := Lib.hid EX
        replace EY := Lib.hid EY
        replace EN := Lib.hid EN
        replace EM := Lib.hid EM
        replace ET := Lib.hid ET
        replace X := Lib.hid X
        replace Y := Lib.hid Y
        replace M := Lib.hid M
        replace O := Lib.hid O
        replace MO := Lib.hid MO
        replace Dx := Lib.hid Dx
        replace Dy := Lib.hid Dy
        replace Dp := Lib.hid Dp
        replace Dq := Lib.hid Dq
        replace Dt := Lib.hid Dt
        replace hc := Lib.hid hc
        go_region_held3 (fun w' => w'.cell? ⟨w2.heap.size, 0, none⟩ = some (.int .i64 ow) ∧ w'.cell? ⟨w2.heap.size, 1, none⟩ = some (.int .i64 ca) ∧ w'.cell? ⟨w2.heap.size, 2, none⟩ = some (.slice AO n0 cO) ∧ w'.cell? ⟨w.heap.size, 0, none⟩ = some (.int .i64 ow) ∧ w'.cell? ⟨w.heap.size, 1, none⟩ = some (.int .i64 ca) ∧ w'.cell? ⟨w.heap.size, 2, none⟩ = some (.slice A0 n0 c0) ∧ w'.cell? ⟨w3.heap.size, 0, none⟩ = some (.int .i64 xo) ∧ w'.cell? ⟨w3.heap.size, 1, none⟩ = some (.int .i64 xp) ∧ w'.cell? ⟨w3.heap.size, 2, none⟩ = some (.slice Ax nx cx) ∧ w'.cell? ⟨w4.heap.size, 0, none⟩ = some (.int .i64 xo) ∧ w'.cell? ⟨w4.heap.size, 1, none⟩ = some (.int .i64 xp) ∧ w'.cell? ⟨w4.heap.size, 2, none⟩ = some (.slice Ay ny cy) ∧ w'.cell? ⟨w7.heap.size, 0, none⟩ = some (.int .i64 na) ∧ w'.cell? ⟨w7.heap.size, 1, none⟩ = some (.int .i64 nb) ∧ w'.cell? ⟨w7.heap.size, 2, none⟩ = some (.slice none 0 0) ∧ w'.cell? ⟨w8.heap.size, 0, none⟩ = some (.int .i64 na) ∧ w'.cell? ⟨w8.heap.size, 1, none⟩ = some (.int .i64 nb) ∧ w'.cell? ⟨w8.heap.size, 2, none⟩ = some (.slice none 0 0))
          (first | (go_split_ands; exact ⟨sQ1, sQ2, sQ3, sC1, sC2, sC3, sEX1, sEX2, sEX3, sEY1, sEY2, sEY3, sEN1, sEN2, sEN3, sEM1, sEM2, sEM3⟩) | (go_split_ands; exact ⟨kQ1, kQ2, kQ3, kC1, kC2, kC3, kEX1, kEX2, kEX3, kEY1, kEY2, kEY3, kEN1, kEN2, kEN3, kEM1, kEM2, kEM3⟩) | go_keep | fail)
          (first
            | (go_at_call 34; refine Calls.mono (CheckC_any _ ow ca AO n0 cO xs ((O.out.below (B := z9.heap.size) (by repeat (first | exact Below.refl _ _ | assumption | (refine Below.drew ?_) | (refine Below.alloc ?_ (by first | omega | exact Nat.le_refl _ | (simp; done) | (simp; omega) | (simp only [size_drew]; first | omega | (simp; done) | (simp; omega))) _))) (by first | omega | exact Nat.le_refl _ | (simp; done) | (simp; omega) | (simp only [size_drew]; first | omega | (simp; done) | (simp; omega)))).more (Nat.zero_le _) (by first | omega | exact Nat.le_refl _ | (simp; done) | (simp; omega) | (simp only [size_drew]; first | omega | (simp; done) | (simp; omega)))) ck HCK.out) ?_; rintro e v1 ⟨rfl, hb, _⟩; have hb1 : Below z9.heap.size z9 v1 := Below.trans (by repeat (first | exact Below.refl _ _ | assumption | (refine Below.drew ?_) | (refine Below.alloc ?_ (by first | omega | exact Nat.le_refl _ | (simp; done) | (simp; omega) | (simp only [size_drew]; first | omega | (simp; done) | (simp; omega))) _))) (hb.mono (by first | omega | exact Nat.le_refl _ | (simp; done) | (simp; omega) | (simp only [size_drew]; first | omega | (simp; done) | (simp; omega)))); clear hb; have hshb1 := hb1.size; obtain ⟨⟨sQ1, sQ2, sQ3⟩, _⟩ := cells3 (Below.heapOf hb1 (show w2.heap.size < z9.heap.size by omega) Q.out); obtain ⟨⟨sC1, sC2, sC3⟩, _⟩ := cells3 (Below.heapOf hb1 (show w.heap.size < z9.heap.size by omega) C.out); obtain ⟨⟨sEX1, sEX2, sEX3⟩, _⟩ := cells3 (Below.heapOf hb1 (show w3.heap.size < z9.heap.size by omega) EX.out); obtain ⟨⟨sEY1, sEY2, sEY3⟩, _⟩ := cells3 (Below.heapOf hb1 (show w4.heap.size < z9.heap.size by omega) EY.out); obtain ⟨⟨sEN1, sEN2, sEN3⟩, _⟩ := cells3 (Below.heapOf hb1 (show w7.heap.size < z9.heap.size by omega) EN.out); obtain ⟨⟨sEM1, sEM2, sEM3⟩, _⟩ := cells3 (Below.heapOf hb1 (show w8.heap.size < z9.heap.size by omega) EM.out))
            | (go_at_call 41; refine Calls.mono (CheckR8_any _ ow ca A0 n0 c0 xs ((X.out.below (B := z9.heap.size) (by repeat (first | exact Below.refl _ _ | assumption | (refine Below.drew ?_) | (refine Below.alloc ?_ (by first | omega | exact Nat.le_refl _ | (simp; done) | (simp; omega) | (simp only [size_drew]; first | omega | (simp; done) | (simp; omega))) _))) (by first | omega | exact Nat.le_refl _ | (simp; done) | (simp; omega) | (simp only [size_drew]; first | omega | (simp; done) | (simp; omega)))).more (Nat.zero_le _) (by first | omega | exact Nat.le_refl _ | (simp; done) | (simp; omega) | (simp only [size_drew]; first | omega | (simp; done) | (simp; omega)))) (by omega) ck HCK.out) ?_; rintro e v2 ⟨rfl, hb, _⟩; have hb2 : Below z9.heap.size z9 v2 := Below.trans (by repeat (first | exact Below.refl _ _ | assumption | (refine Below.drew ?_) | (refine Below.alloc ?_ (by first | omega | exact Nat.le_refl _ | (simp; done) | (simp; omega) | (simp only [size_drew]; first | omega | (simp; done) | (simp; omega))) _))) (hb.mono (by first | omega | exact Nat.le_refl _ | (simp; done) | (simp; omega) | (simp only [size_drew]; first | omega | (simp; done) | (simp; omega)))); clear hb; have hshb2 := hb2.size; obtain ⟨⟨sQ1, sQ2, sQ3⟩, _⟩ := cells3 (Below.heapOf hb2 (show w2.heap.size < z9.heap.size by omega) Q.out); obtain ⟨⟨sC1, sC2, sC3⟩, _⟩ := cells3 (Below.heapOf hb2 (show w.heap.size < z9.heap.size by omega) C.out); obtain ⟨⟨sEX1, sEX2, sEX3⟩, _⟩ := cells3 (Below.heapOf hb2 (show w3.heap.size < z9.heap.size by omega) EX.out); obtain ⟨⟨sEY1, sEY2, sEY3⟩, _⟩ := cells3 (Below.heapOf hb2 (show w4.heap.size < z9.heap.size by omega) EY.out); obtain ⟨⟨sEN1, sEN2, sEN3⟩, _⟩ := cells3 (Below.heapOf hb2 (show w7.heap.size < z9.heap.size by omega) EN.out); obtain ⟨⟨sEM1, sEM2, sEM3⟩, _⟩ := cells3 (Below.heapOf hb2 (show w8.heap.size < z9.heap.size by omega) EM.out))
            | (go_at_call 29; refine Calls.mono (SameRb _ _ _ _ _ Ap Aq np cp nq cq _ _ (Dp.out.below (B := z9.heap.size) (by repeat (first | exact Below.refl _ _ | assumption | (refine Below.drew ?_) | (refine Below.alloc ?_ (by first | omega | exact Nat.le_refl _ | (simp; done) | (simp; omega) | (simp only [size_drew]; first | omega | (simp; done) | (simp; omega))) _))) (by first | omega | exact Nat.le_refl _ | (simp; done) | (simp; omega) | (simp only [size_drew]; first | omega | (simp; done) | (simp; omega)))) (Dq.out.below (B := z9.heap.size) (by repeat (first | exact Below.refl _ _ | assumption | (refine Below.drew ?_) | (refine Below.alloc ?_ (by first | omega | exact Nat.le_refl _ | (simp; done) | (simp; omega) | (simp only [size_drew]; first | omega | (simp; done) | (simp; omega))) _))) (by first | omega | exact Nat.le_refl _ | (simp; done) | (simp; omega) | (simp only [size_drew]; first | omega | (simp; done) | (simp; omega)))) true (Sm_self _)) ?_; rintro e v4 ⟨rfl, hb⟩; have hb4 : Below z9.heap.size z9 v4 := Below.trans (by repeat (first | exact Below.refl _ _ | assumption | (refine Below.drew ?_) | (refine Below.alloc ?_ (by first | omega | exact Nat.le_refl _ | (simp; done) | (simp; omega) | (simp only [size_drew]; first | omega | (simp; done) | (simp; omega))) _))) (hb.mono (by first | omega | exact Nat.le_refl _ | (simp; done) | (simp; omega) | (simp only [size_drew]; first | omega | (simp; done) | (simp; omega)))); clear hb; have hshb4 := hb4.size; obtain ⟨⟨sQ1, sQ2, sQ3⟩, _⟩ := cells3 (Below.heapOf hb4 (show w2.heap.size < z9.heap.size by omega) Q.out); obtain ⟨⟨sC1, sC2, sC3⟩, _⟩ := cells3 (Below.heapOf hb4 (show w.heap.size < z9.heap.size by omega) C.out); obtain ⟨⟨sEX1, sEX2, sEX3⟩, _⟩ := cells3 (Below.heapOf hb4 (show w3.heap.size < z9.heap.size by omega) EX.out); obtain ⟨⟨sEY1, sEY2, sEY3⟩, _⟩ := cells3 (Below.heapOf hb4 (show w4.heap.size < z9.heap.size by omega) EY.out); obtain ⟨⟨sEN1, sEN2, sEN3⟩, _⟩ := cells3 (Below.heapOf hb4 (show w7.heap.size < z9.heap.size by omega) EN.out); obtain ⟨⟨sEM1, sEM2, sEM3⟩, _⟩ := cells3 (Below.heapOf hb4 (show w8.heap.size < z9.heap.size by omega) EM.out))
            | (go_at_call 42; have q_ := hb4; clear q_; refine Calls.mono (SameCR_any _ na nb na nb _ _ _ _ none none 0 0 0 0 [] [] (Descs.nil_ _ 0 0 none) (Descs.nil_ _ 0 0 none) (by first | omega | exact Nat.le_refl _ | (simp; done) | (simp; omega) | (simp only [size_drew]; first | omega | (simp; done) | (simp; omega))) (by first | omega | exact Nat.le_refl _ | (simp; done) | (simp; omega) | (simp only [size_drew]; first | omega | (simp; done) | (simp; omega))) true hE2.out) ?_; rintro e v5 ⟨rfl, hb⟩; have hb5 : Below z9.heap.size z9 v5 := Below.trans (by repeat (first | exact Below.refl _ _ | assumption | (refine Below.drew ?_) | (refine Below.alloc ?_ (by first | omega | exact Nat.le_refl _ | (simp; done) | (simp; omega) | (simp only [size_drew]; first | omega | (simp; done) | (simp; omega))) _))) (hb.mono (by first | omega | exact Nat.le_refl _ | (simp; done) | (simp; omega) | (simp only [size_drew]; first | omega | (simp; done) | (simp; omega)))); clear hb; have hshb5 := hb5.size; obtain ⟨⟨sQ1, sQ2, sQ3⟩, _⟩ := cells3 (Below.heapOf hb5 (show w2.heap.size < z9.heap.size by omega) Q.out); obtain ⟨⟨sC1, sC2, sC3⟩, _⟩ := cells3 (Below.heapOf hb5 (show w.heap.size < z9.heap.size by omega) C.out); obtain ⟨⟨sEX1, sEX2, sEX3⟩, _⟩ := cells3 (Below.heapOf hb5 (show w3.heap.size < z9.heap.size by omega) EX.out); obtain ⟨⟨sEY1, sEY2, sEY3⟩, _⟩ := cells3 (Below.heapOf hb5 (show w4.heap.size < z9.heap.size by omega) EY.out); obtain ⟨⟨sEN1, sEN2, sEN3⟩, _⟩ := cells3 (Below.heapOf hb5 (show w7.heap.size < z9.heap.size by omega) EN.out); obtain ⟨⟨sEM1, sEM2, sEM3⟩, _⟩ := cells3 (Below.heapOf hb5 (show w8.heap.size < z9.heap.size by omega) EM.out))
            | (go_at_call 42; refine Calls.mono (SameCR_any _ xo xp xo xp _ _ _ _ Ax Ay nx cx ny cy T T (Dx.out.below (B := z9.heap.size) (by repeat (first | exact Below.refl _ _ | assumption | (refine Below.drew ?_) | (refine Below.alloc ?_ (by first | omega | exact Nat.le_refl _ | (simp; done) | (simp; omega) | (simp only [size_drew]; first | omega | (simp; done) | (simp; omega))) _))) (by first | omega | exact Nat.le_refl _ | (simp; done) | (simp; omega) | (simp only [size_drew]; first | omega | (simp; done) | (simp; omega)))) (Dy.out.below (B := z9.heap.size) (by repeat (first | exact Below.refl _ _ | assumption | (refine Below.drew ?_) | (refine Below.alloc ?_ (by first | omega | exact Nat.le_refl _ | (simp; done) | (simp; omega) | (simp only [size_drew]; first | omega | (simp; done) | (simp; omega))) _))) (by first | omega | exact Nat.le_refl _ | (simp; done) | (simp; omega) | (simp only [size_drew]; first | omega | (simp; done) | (simp; omega)))) (by first | omega | exact Nat.le_refl _ | (simp; done) | (simp; omega) | (simp only [size_drew]; first | omega | (simp; done) | (simp; omega))) (by first | omega | exact Nat.le_refl _ | (simp; done) | (simp; omega) | (simp only [size_drew]; first | omega | (simp; done) | (simp; omega))) true hE1.out) ?_; rintro e v3 ⟨rfl, hb⟩; have hb3 : Below z9.heap.size z9 v3 := Below.trans (by repeat (first | exact Below.refl _ _ | assumption | (refine Below.drew ?_) | (refine Below.alloc ?_ (by first | omega | exact Nat.le_refl _ | (simp; done) | (simp; omega) | (simp only [size_drew]; first | omega | (simp; done) | (simp; omega))) _))) (hb.mono (by first | omega | exact Nat.le_refl _ | (simp; done) | (simp; omega) | (simp only [size_drew]; first | omega | (simp; done) | (simp; omega)))); clear hb; have hshb3 := hb3.size; obtain ⟨⟨sQ1, sQ2, sQ3⟩, _⟩ := cells3 (Below.heapOf hb3 (show w2.heap.size < z9.heap.size by omega) Q.out); obtain ⟨⟨sC1, sC2, sC3⟩, _⟩ := cells3 (Below.heapOf hb3 (show w.heap.size < z9.heap.size by omega) C.out); obtain ⟨⟨sEX1, sEX2, sEX3⟩, _⟩ := cells3 (Below.heapOf hb3 (show w3.heap.size < z9.heap.size by omega) EX.out); obtain ⟨⟨sEY1, sEY2, sEY3⟩, _⟩ := cells3 (Below.heapOf hb3 (show w4.heap.size < z9.heap.size by omega) EY.out); obtain ⟨⟨sEN1, sEN2, sEN3⟩, _⟩ := cells3 (Below.heapOf hb3 (show w7.heap.size < z9.heap.size by omega) EN.out); obtain ⟨⟨sEM1, sEM2, sEM3⟩, _⟩ := cells3 (Below.heapOf hb3 (show w8.heap.size < z9.heap.size by omega) EM.out))
            | (go_at_call 34; fail))
        replace C := C.out
        replace D := D.out
        replace Q := Q.out
        replace EX := EX.out
        replace EY := EY.out
        replace EN := EN.out
        replace EM := EM.out
        replace ET := ET.out
        replace X := X.out
        replace Y := Y.out
        replace M := M.out
        replace O := O.out
        replace MO := MO.out
        replace Dx := Dx.out
        replace Dy := Dy.out
        replace Dp := Dp.out
        replace Dq := Dq.out
        replace Dt := Dt.out
        replace hc := hc.out
        replace C := Below.heapOf hb5 (by omega) C
        replace D := Below.heapOf hb5 (by omega) D
        replace Q := Below.heapOf hb5 (by omega) Q
        replace EX := Below.heapOf hb5 (by omega) EX
        replace EY := Below.heapOf hb5 (by omega) EY
        replace EN := Below.heapOf hb5 (by omega) EN
        replace EM := Below.heapOf hb5 (by omega) EM
        replace ET := Below.heapOf hb5 (by omega) ET
        replace X := X.below hb5 (by omega)
        replace Y := Y.below hb5 (by omega)
        replace M := M.below hb5 (by omega)
        replace O := O.below hb5 (by omega)
        replace MO := MO.below hb5 (by omega)
        replace Dx := Dx.below hb5 (by omega)
        replace Dy := Dy.below hb5 (by omega)
        replace Dp := Dp.below hb5 (by omega)
        replace Dq := Dq.below hb5 (by omega)
        replace Dt := Dt.below hb5 (by omega)
        replace hc := hc.trans (hb5.mono (by omega))
        have hs5' := hb5.size
        clear hb1 hb2 hb3 hb4 hb5 Dy Dq EN EM EY
        (try clear sQ1)
        (try clear sQ2)
        (try clear sQ3)
        (try clear sC1)
        (try clear sC2)
        (try clear sC3)
        (try clear sEX1)
        (try clear sEX2)
        (try clear sEX3)
        (try clear sEY1)
        (try clear sEY2)
        (try clear sEY3)
        (try clear sEN1)
        (try clear sEN2)
        (try clear sEN3)
        (try clear sEM1)
        (try clear sEM2)
        (try clear sEM3)
        clear kQ1
        clear kQ2
        clear kQ3
        clear kC1
        clear kC2
        clear kC3
        clear kEX1
        clear kEX2
        clear kEX3
        clear kEY1
        clear kEY2
        clear kEY3
        clear kEN1
        clear kEN2
        clear kEN3
        clear kEM1
        clear kEM2
        clear kEM3
        obtain ⟨⟨kET1, kET2, kET3⟩, _⟩ := cells3 ET
        obtain ⟨⟨kC1, kC2, kC3⟩, _⟩ := cells3 C
        obtain ⟨⟨kQ1, kQ2, kQ3⟩, _⟩ := cells3 Q
        obtain ⟨⟨kD1, kD2, kD3⟩, _⟩ := cells3 D
        replace C := Lib.hid C
        replace D := Lib.hid D
        replace Q := Lib.hid Q
        replace EX := Lib.hid EX
        replace ET := Lib.hid ET
        replace X := Lib.hid X
        replace Y := Lib.hid Y
        replace M := Lib.hid M
        replace O := Lib.hid O
        replace MO := Lib.hid MO
        replace Dx := Lib.hid Dx
        replace Dp := Lib.hid Dp
        replace Dt := Lib.hid Dt
        replace hc := Lib.hid hc
        go_wp2_with fail
        go_region_held3 (fun w' => w'.cell? ⟨w9.heap.size, 0, none⟩ = some (.int .i64 ow) ∧ w'.cell? ⟨w9.heap.size, 1, none⟩ = some (.int .i64 ca) ∧ w'.cell? ⟨w9.heap.size, 2, none⟩ = some (.slice At n0 ct) ∧ w'.cell? ⟨w.heap.size, 0, none⟩ = some (.int .i64 ow) ∧ w'.cell? ⟨w.heap.size, 1, none⟩ = some (.int .i64 ca) ∧ w'.cell? ⟨w.heap.size, 2, none⟩ = some (.slice A0 n0 c0) ∧ w'.cell? ⟨w2.heap.size, 0, none⟩ = some (.int .i64 ow) ∧ w'.cell? ⟨w2.heap.size, 1, none⟩ = some (.int .i64 ca) ∧ w'.cell? ⟨w2.heap.size, 2, none⟩ = some (.slice AO n0 cO) ∧ w'.cell? ⟨w.heap.size + 1, 0, none⟩ = some (.int .i64 o1) ∧ w'.cell? ⟨w.heap.size + 1, 1, none⟩ = some (.int .i64 p1) ∧ w'.cell? ⟨w.heap.size + 1, 2, none⟩ = some (.slice A1 n1 c1))
          (first | (go_split_ands; exact ⟨sET1, sET2, sET3, sC1, sC2, sC3, sQ1, sQ2, sQ3, sD1, sD2, sD3⟩) | (go_split_ands; exact ⟨kET1, kET2, kET3, kC1, kC2, kC3, kQ1, kQ2, kQ3, kD1, kD2, kD3⟩) | go_keep | fail)
          (first
            | (go_at_call 42; have q_ := hb6; clear q_; refine Calls.mono (SameCR_any _ ow ca o1 p1 _ _ _ _ A0 A1 n0 c0 n1 c1 xs ys (X.out.below (B := v5.heap.size) (by repeat (first | exact Below.refl _ _ | assumption | (refine Below.drew ?_) | (refine Below.alloc ?_ (by first | omega | exact Nat.le_refl _ | (simp; done) | (simp; omega) | (simp only [size_drew]; first | omega | (simp; done) | (simp; omega))) _))) (by first | omega | exact Nat.le_refl _ | (simp; done) | (simp; omega) | (simp only [size_drew]; first | omega | (simp; done) | (simp; omega)))) (Y.out.below (B := v5.heap.size) (by repeat (first | exact Below.refl _ _ | assumption | (refine Below.drew ?_) | (refine Below.alloc ?_ (by first | omega | exact Nat.le_refl _ | (simp; done) | (simp; omega) | (simp only [size_drew]; first | omega | (simp; done) | (simp; omega))) _))) (by first | omega | exact Nat.le_refl _ | (simp; done) | (simp; omega) | (simp only [size_drew]; first | omega | (simp; done) | (simp; omega)))) (by first | omega | exact Nat.le_refl _ | (simp; done) | (simp; omega) | (simp only [size_drew]; first | omega | (simp; done) | (simp; omega))) (by first | omega | exact Nat.le_refl _ | (simp; done) | (simp; omega) | (simp only [size_drew]; first | omega | (simp; done) | (simp; omega))) sm HSM.out) ?_; rintro e v7 ⟨rfl, hb⟩; have hb7 : Below v5.heap.size v5 v7 := Below.trans (by repeat (first | exact Below.refl _ _ | assumption | (refine Below.drew ?_) | (refine Below.alloc ?_ (by first | omega | exact Nat.le_refl _ | (simp; done) | (simp; omega) | (simp only [size_drew]; first | omega | (simp; done) | (simp; omega))) _))) (hb.mono (by first | omega | exact Nat.le_refl _ | (simp; done) | (simp; omega) | (simp only [size_drew]; first | omega | (simp; done) | (simp; omega)))); clear hb; have hshb7 := hb7.size; obtain ⟨⟨sET1, sET2, sET3⟩, _⟩ := cells3 (Below.heapOf hb7 (show w9.heap.size < v5.heap.size by omega) ET.out); obtain ⟨⟨sC1, sC2, sC3⟩, _⟩ := cells3 (Below.heapOf hb7 (show w.heap.size < v5.heap.size by omega) C.out); obtain ⟨⟨sQ1, sQ2, sQ3⟩, _⟩ := cells3 (Below.heapOf hb7 (show w2.heap.size < v5.heap.size by omega) Q.out); obtain ⟨⟨sD1, sD2, sD3⟩, _⟩ := cells3 (Below.heapOf hb7 (show w.heap.size + 1 < v5.heap.size by omega) D.out))
            | (go_at_call 42; refine Calls.mono (SameCR_any _ ow ca ow ca _ _ _ _ At A0 n0 ct n0 c0 xs xs (Dt.out.below (B := v5.heap.size) (by repeat (first | exact Below.refl _ _ | assumption | (refine Below.drew ?_) | (refine Below.alloc ?_ (by first | omega | exact Nat.le_refl _ | (simp; done) | (simp; omega) | (simp only [size_drew]; first | omega | (simp; done) | (simp; omega))) _))) (by first | omega | exact Nat.le_refl _ | (simp; done) | (simp; omega) | (simp only [size_drew]; first | omega | (simp; done) | (simp; omega)))) (X.out.below (B := v5.heap.size) (by repeat (first | exact Below.refl _ _ | assumption | (refine Below.drew ?_) | (refine Below.alloc ?_ (by first | omega | exact Nat.le_refl _ | (simp; done) | (simp; omega) | (simp only [size_drew]; first | omega | (simp; done) | (simp; omega))) _))) (by first | omega | exact Nat.le_refl _ | (simp; done) | (simp; omega) | (simp only [size_drew]; first | omega | (simp; done) | (simp; omega)))) (by first | omega | exact Nat.le_refl _ | (simp; done) | (simp; omega) | (simp only [size_drew]; first | omega | (simp; done) | (simp; omega))) (by first | omega | exact Nat.le_refl _ | (simp; done) | (simp; omega) | (simp only [size_drew]; first | omega | (simp; done) | (simp; omega))) true hE3.out) ?_; rintro e v6 ⟨rfl, hb⟩; have hb6 : Below v5.heap.size v5 v6 := Below.trans (by repeat (first | exact Below.refl _ _ | assumption | (refine Below.drew ?_) | (refine Below.alloc ?_ (by first | omega | exact Nat.le_refl _ | (simp; done) | (simp; omega) | (simp only [size_drew]; first | omega | (simp; done) | (simp; omega))) _))) (hb.mono (by first | omega | exact Nat.le_refl _ | (simp; done) | (simp; omega) | (simp only [size_drew]; first | omega | (simp; done) | (simp; omega)))); clear hb; have hshb6 := hb6.size; obtain ⟨⟨sET1, sET2, sET3⟩, _⟩ := cells3 (Below.heapOf hb6 (show w9.heap.size < v5.heap.size by omega) ET.out); obtain ⟨⟨sC1, sC2, sC3⟩, _⟩ := cells3 (Below.heapOf hb6 (show w.heap.size < v5.heap.size by omega) C.out); obtain ⟨⟨sQ1, sQ2, sQ3⟩, _⟩ := cells3 (Below.heapOf hb6 (show w2.heap.size < v5.heap.size by omega) Q.out); obtain ⟨⟨sD1, sD2, sD3⟩, _⟩ := cells3 (Below.heapOf hb6 (show w.heap.size + 1 < v5.heap.size by omega) D.out))
            | (go_at_call 32; have q_ := hb7; clear q_; refine Calls.mono (SameC_any _ ow ca ow ca _ _ _ _ AO A0 n0 cO n0 c0 xs xs (O.out.below (B := v5.heap.size) (by repeat (first | exact Below.refl _ _ | assumption | (refine Below.drew ?_) | (refine Below.alloc ?_ (by first | omega | exact Nat.le_refl _ | (simp; done) | (simp; omega) | (simp only [size_drew]; first | omega | (simp; done) | (simp; omega))) _))) (by first | omega | exact Nat.le_refl _ | (simp; done) | (simp; omega) | (simp only [size_drew]; first | omega | (simp; done) | (simp; omega)))) (X.out.below (B := v5.heap.size) (by repeat (first | exact Below.refl _ _ | assumption | (refine Below.drew ?_) | (refine Below.alloc ?_ (by first | omega | exact Nat.le_refl _ | (simp; done) | (simp; omega) | (simp only [size_drew]; first | omega | (simp; done) | (simp; omega))) _))) (by first | omega | exact Nat.le_refl _ | (simp; done) | (simp; omega) | (simp only [size_drew]; first | omega | (simp; done) | (simp; omega)))) (by first | omega | exact Nat.le_refl _ | (simp; done) | (simp; omega) | (simp only [size_drew]; first | omega | (simp; done) | (simp; omega))) (by first | omega | exact Nat.le_refl _ | (simp; done) | (simp; omega) | (simp only [size_drew]; first | omega | (simp; done) | (simp; omega))) true hE3.out) ?_; rintro e v9 ⟨rfl, hb⟩; have hb9 : Below v5.heap.size v5 v9 := Below.trans (by repeat (first | exact Below.refl _ _ | assumption | (refine Below.drew ?_) | (refine Below.alloc ?_ (by first | omega | exact Nat.le_refl _ | (simp; done) | (simp; omega) | (simp only [size_drew]; first | omega | (simp; done) | (simp; omega))) _))) (hb.mono (by first | omega | exact Nat.le_refl _ | (simp; done) | (simp; omega) | (simp only [size_drew]; first | omega | (simp; done) | (simp; omega)))); clear hb; have hshb9 := hb9.size; obtain ⟨⟨sET1, sET2, sET3⟩, _⟩ := cells3 (Below.heapOf hb9 (show w9.heap.size < v5.heap.size by omega) ET.out); obtain ⟨⟨sC1, sC2, sC3⟩, _⟩ := cells3 (Below.heapOf hb9 (show w.heap.size < v5.heap.size by omega) C.out); obtain ⟨⟨sQ1, sQ2, sQ3⟩, _⟩ := cells3 (Below.heapOf hb9 (show w2.heap.size < v5.heap.size by omega) Q.out); obtain ⟨⟨sD1, sD2, sD3⟩, _⟩ := cells3 (Below.heapOf hb9 (show w.heap.size + 1 < v5.heap.size by omega) D.out))
            | (go_at_call 32; refine Calls.mono (SameC_any _ ow ca o1 p1 _ _ _ _ AO A1 n0 cO n1 c1 xs ys (O.out.below (B := v5.heap.size) (by repeat (first | exact Below.refl _ _ | assumption | (refine Below.drew ?_) | (refine Below.alloc ?_ (by first | omega | exact Nat.le_refl _ | (simp; done) | (simp; omega) | (simp only [size_drew]; first | omega | (simp; done) | (simp; omega))) _))) (by first | omega | exact Nat.le_refl _ | (simp; done) | (simp; omega) | (simp only [size_drew]; first | omega | (simp; done) | (simp; omega)))) (Y.out.below (B := v5.heap.size) (by repeat (first | exact Below.refl _ _ | assumption | (refine Below.drew ?_) | (refine Below.alloc ?_ (by first | omega | exact Nat.le_refl _ | (simp; done) | (simp; omega) | (simp only [size_drew]; first | omega | (simp; done) | (simp; omega))) _))) (by first | omega | exact Nat.le_refl _ | (simp; done) | (simp; omega) | (simp only [size_drew]; first | omega | (simp; done) | (simp; omega)))) (by first | omega | exact Nat.le_refl _ | (simp; done) | (simp; omega) | (simp only [size_drew]; first | omega | (simp; done) | (simp; omega))) (by first | omega | exact Nat.le_refl _ | (simp; done) | (simp; omega) | (simp only [size_drew]; first | omega | (simp; done) | (simp; omega))) sm HSM.out) ?_; rintro e v8 ⟨rfl, hb⟩; have hb8 : Below v5.heap.size v5 v8 := Below.trans (by repeat (first | exact Below.refl _ _ | assumption | (refine Below.drew ?_) | (refine Below.alloc ?_ (by first | omega | exact Nat.le_refl _ | (simp; done) | (simp; omega) | (simp only [size_drew]; first | omega | (simp; done) | (simp; omega))) _))) (hb.mono (by first | omega | exact Nat.le_refl _ | (simp; done) | (simp; omega) | (simp only [size_drew]; first | omega | (simp; done) | (simp; omega)))); clear hb; have hshb8 := hb8.size; obtain ⟨⟨sET1, sET2, sET3⟩, _⟩ := cells3 (Below.heapOf hb8 (show w9.heap.size < v5.heap.size by omega) ET.out); obtain ⟨⟨sC1, sC2, sC3⟩, _⟩ := cells3 (Below.heapOf hb8 (show w.heap.size < v5.heap.size by omega) C.out); obtain ⟨⟨sQ1, sQ2, sQ3⟩, _⟩ := cells3 (Below.heapOf hb8 (show w2.heap.size < v5.heap.size by omega) Q.out); obtain ⟨⟨sD1, sD2, sD3⟩, _⟩ := cells3 (Below.heapOf hb8 (show w.heap.size + 1 < v5.heap.size by omega) D.out))
            | (go_at_call 32; fail))
        replace C := C.out
        replace D := D.out
        replace Q := Q.out
        replace EX := EX.out
        replace ET := ET.out
        replace X := X.out
        replace Y := Y.out
        replace M := M.out
        replace O := O.out
        replace MO := MO.out
        replace Dx := Dx.out
        replace Dp := Dp.out
        replace Dt := Dt.out
        replace hc := hc.out
        replace C := Below.heapOf hb9 (by omega) C
        replace D := Below.heapOf hb9 (by omega) D
        replace Q := Below.heapOf hb9 (by omega) Q
        replace EX := Below.heapOf hb9 (by omega) EX
        replace ET := Below.heapOf hb9 (by omega) ET
        replace X := X.below hb9 (by omega)
        replace Y := Y.below hb9 (by omega)
        replace M := M.below hb9 (by omega)
        replace O := O.below hb9 (by omega)
        replace MO := MO.below hb9 (by omega)
        replace Dx := Dx.below hb9 (by omega)
        replace Dp := Dp.below hb9 (by omega)
        replace Dt := Dt.below hb9 (by omega)
        replace hc := hc.trans (hb9.mono (by omega))
        have hs9' := hb9.size
        clear hb6 hb7 hb8 hb9 Y D
        (try clear sET1)
        (try clear sET2)
        (try clear sET3)
        (try clear sC1)
        (try clear sC2)
        (try clear sC3)
        (try clear sQ1)
        (try clear sQ2)
        (try clear sQ3)
        (try clear sD1)
        (try clear sD2)
        (try clear sD3)
        have hbx1 := Dx.big
        have hbp1 := Dp.big
        have hnx : nx ≤ 1000 := by
          have h1 := Dx.len
          have h2 : T.length ≤ 200 := by
            rw [← HT.out, mergeL]
            split
            · rename_i h3
              have h4 := (merge_zeroM h3).1.new
              have h5 := (newOk_iff _ _).1 h4
              unfold taken
              simp only [List.length_take]
              omega
            · simp
          omega
        have hnp : np ≤ 1000 := by
          have h1 := Dp.len
          have h2 : F.length ≤ 200 := by
            rw [← HF.out, offerL]
            split
            · rename_i h3
              rw [told_len]
              have := X.len
              omega
            · simp
          omega
        obtain ⟨gx, g1, g2, g3⟩ : ∃ gx, z2.heap.size ≤ gx ∧ (gx < w3.heap.size ∨ v9.heap.size ≤ gx) ∧ WrA v9 gx Ax nx := by
          by_cases h : 0 < nx
          · exact ⟨rx, HRX.out h, .inl hrx2, Dx.wrA⟩
          · exact ⟨v9.heap.size, by omega, .inr (Nat.le_refl _), fun k hk => absurd hk (by omega)⟩
        have hwp := Dp.wrA
        have hwt := Dt.wrA
        clear Dx HR HXO HXP HT HS HF HNW HCK HSM
        clear kET1
        clear kET2
        clear kET3
        clear kC1
        clear kC2
        clear kC3
        clear kQ1
        clear kQ2
        clear kQ3
        clear kD1
        clear kD2
        clear kD3
        obtain ⟨⟨kEX1, kEX2, kEX3⟩, _⟩ := cells3 EX
        go_wp2_with fail
        refine (spoil_any v9 Ax nx cx hnx gx g3).mono ?_
        rintro e y1 ⟨rfl, _, hg⟩
        have ht1 := hg.size
        replace C := (hg.block _ (by omega) (fun e => by injection e with e; omega)).trans C
        replace Q := (hg.block _ (by omega) (fun e => by injection e with e; omega)).trans Q
        replace ET := (hg.block _ (by omega) (fun e => by injection e with e; omega)).trans ET
        replace X := X.grownOff hg (.inr (by omega)) (by omega)
        replace M := M.grownOff hg (.inr (by omega)) (by omega)
        replace O := O.grownOff hg (.inr (by omega)) (by omega)
        replace MO := MO.grownOff hg (.inr (by omega)) (by omega)
        replace hc := hc.grown hg (by omega) (fun q hq => by injection hq with hq; omega)
        obtain ⟨gp, j1, j2, j3⟩ : ∃ gp, z2.heap.size ≤ gp ∧ (gp < w5.heap.size ∨ y1.heap.size ≤ gp) ∧ WrA y1 gp Ap np := by
          by_cases h : 0 < np
          · have h3 := HRP.out h
            exact ⟨rp, by omega, .inl hrp2, hwp.grown hg (by omega) (by omega)⟩
          · exact ⟨y1.heap.size, by omega, .inr (Nat.le_refl _), fun k hk => absurd hk (by omega)⟩
        have hwt1 : 0 < n0 → WrA y1 rt At n0 := fun h => by
          have h3 := HRT.out h
          exact hwt.grown hg (by omega) (by omega)
        clear hg hwp hwt g3 Dp Dt EX
        clear kEX1 kEX2 kEX3
        go_wp2_with fail
        refine (spoil_any y1 Ap np cp hnp gp j3).mono ?_
        rintro e y2 ⟨rfl, _, hg⟩
        have ht2 := hg.size
        replace C := (hg.block _ (by omega) (fun e => by injection e with e; omega)).trans C
        replace Q := (hg.block _ (by omega) (fun e => by injection e with e; omega)).trans Q
        replace ET := (hg.block _ (by omega) (fun e => by injection e with e; omega)).trans ET
        replace X := X.grownOff hg (.inr (by omega)) (by omega)
        replace M := M.grownOff hg (.inr (by omega)) (by omega)
        replace O := O.grownOff hg (.inr (by omega)) (by omega)
        replace MO := MO.grownOff hg (.inr (by omega)) (by omega)
        replace hc := hc.grown hg (by omega) (fun q hq => by injection hq with hq; omega)
        obtain ⟨gt, l1, l3⟩ : ∃ gt, z2.heap.size ≤ gt ∧ WrA y2 gt At n0 := by
          by_cases h : 0 < n0
          · have h3 := HRT.out h
            exact ⟨rt, by omega, (hwt1 h).grown hg (by omega) (by omega)⟩
          · exact ⟨y2.heap.size, by omega, fun k hk => absurd hk (by omega)⟩
        clear hg hwt1 j3
        obtain ⟨⟨kET1, kET2, kET3⟩, _⟩ := cells3 ET
        go_wp2_with fail
        refine (spoil_any y2 At n0 ct (by omega) gt l3).mono ?_
        rintro e y3 ⟨rfl, _, hg⟩
        have ht3 := hg.size
        clear kET1 kET2 kET3
        clear ET
        replace C := (hg.block _ (by omega) (fun e => by injection e with e; omega)).trans C
        replace Q := (hg.block _ (by omega) (fun e => by injection e with e; omega)).trans Q
        replace X := X.grownOff hg (.inr (by omega)) (by omega)
        replace M := M.grownOff hg (.inr (by omega)) (by omega)
        replace O := O.grownOff hg (.inr (by omega)) (by omega)
        replace MO := MO.grownOff hg (.inr (by omega)) (by omega)
        replace hc := hc.grown hg (by omega) (fun q hq => by injection hq with hq; omega)
        clear hg l3
        obtain ⟨⟨kC1, kC2, kC3⟩, _⟩ := cells3 C
        obtain ⟨⟨kQ1, kQ2, kQ3⟩, _⟩ := cells3 Q
        go_wp2_with fail
        refine (SameCR_any _ ow ca ow ca _ _ _ _ AO A0 n0 cO n0 c0 xs xs O X (by omega) (by omega) true hE3.out).mono ?_
        rintro e y4 ⟨rfl, hb⟩
        have ht4 := hb.size
        have M4 := M.below hb (by omega)
        have MO4 := MO.below hb (by omega)
        replace hc := hc.trans (hb.mono (by omega))
        clear hb O X C Q M MO kC1 kC2 kC3 kQ1 kQ2 kQ3
        go_wp2_with fail
        refine (SameRb _ _ _ _ _ AM L k0 cM k0 cL ls ls MO4 M4 true (Sm_self _)).mono ?_
        rintro e y5 ⟨rfl, hb⟩
        replace hc := hc.trans (hb.mono (by omega))
        clear hb M4 MO4
        go_wp2
        go_ret
        exact ⟨rfl, hc⟩
theorem cacheTells_row (w : World) (ow ca : Int) (_ : Rng (ow, ca)) (A0 : Option Addr) (n0 c0 : Nat) (xs : List (Int × Int)) (hX : Descs w 0 w.heap.size A0 n0 xs) (_ : n0 ≤ c0) (ow1 ca1 : Int) (_ : Rng (ow1, ca1)) (A1 : Option Addr) (n1 c1 : Nat) (ys : List (Int × Int)) (hY : Descs w 0 w.heap.size A1 n1 ys) (_ : n1 ≤ c1) (L : Option Addr) (k0 cL : Nat) (ls : List (Int × Int)) (hL : Descs w 0 w.heap.size L k0 ls) (_ : k0 ≤ cL) (now : Int) (_ : (Lit.int .i64 now).wf = true) :
    Calls Try.prog 11 #[.agg #[.int .i64 ow, .int .i64 ca, .slice A0 n0 c0], .agg #[.int .i64 ow1, .int .i64 ca1, .slice A1 n1 c1], .slice L k0 cL, .int .i64 now] w fun e w' => e = .returned (.bool true) ∧ Below w.heap.size w w' :=
  cacheTells_any w ow ca A0 n0 c0 xs hX ow1 ca1 A1 n1 c1 ys hY L k0 cL ls hL now
end De
end Go.Proofs.Ytpjomdkcckamkaa
