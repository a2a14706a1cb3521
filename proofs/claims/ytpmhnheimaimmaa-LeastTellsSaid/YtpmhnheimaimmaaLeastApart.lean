/- The statement LeastApart by a walk. -/
import Derived.Test.YtpmhnheimaimmaaLeastTags
import Derived.Test.YtpmhnheimaimmaaLeastOrder
namespace Go.Proofs.Ytpmhnheimaimmaa
open Go.RowKit
namespace Least

def tcode (e nd : Int) : Int := if 0 ≤ e ∧ e ≤ 65535 ∧ 0 ≤ nd ∧ nd < 8 then 0 else 2
/-- Of the tags no more than whether there are any. -/
theorem Tags_code (w : World) (e nd code : Int) (hc : tcode e nd = code) :
    Calls Try.prog 18 #[.int .i64 e, .int .i64 nd] w fun r w' => ∃ A n c, r = .returned (.tuple #[.slice A n c, .int .i64 code]) ∧ Below w.heap.size w w' := by
  subst hc
  by_cases h : 0 ≤ e ∧ e ≤ 65535 ∧ 0 ≤ nd ∧ nd < 8
  · obtain ⟨e', rfl⟩ : ∃ k : Nat, e = k := ⟨e.toNat, by omega⟩
    obtain ⟨n', rfl⟩ : ∃ k : Nat, nd = k := ⟨nd.toNat, by omega⟩
    refine (Tags_ok w e' n' (by omega) (by omega)).mono ?_
    rintro r w' ⟨g, c, f, rfl, _, _, _, hb, _⟩
    exact ⟨_, _, _, by rw [tcode, if_pos h], hb⟩
  · refine (Tags_bad w e nd (by omega)).mono ?_
    rintro r w' ⟨rfl, rfl⟩
    exact ⟨_, _, _, by rw [tcode, if_neg h], Below.refl _ _⟩

theorem RowAt.below {w w' : World} {g n B : Nat} {f : Nat → Int} (h : RowAt w g n f) (hb : Below B w w') (hg : g < B) : RowAt w' g n f := fun k hk => ⟨(hb.cell (by simpa using hg)).trans (h k hk).1, (hb.frozen (by simpa using hg)).trans (h k hk).2⟩

/-- Which part each of the row is. -/
theorem parts_of {e nd : Nat} {f : Nat → Int} (h : SameRow (tagOf e nd) f 4) : ∃ p : Nat → Nat, (∀ i, i < 4 → p i < 4 ∧ tagOf e nd (p i) = f i) ∧ p 0 + p 1 + p 2 + p 3 = 6 := by
  have h0 := row_u h
  let p : Nat → Nat := fun i => if hi : i < 4 then Classical.choose (h0 i hi) else 0
  have hp : ∀ i, i < 4 → p i < 4 ∧ tagOf e nd (p i) = f i := fun i hi => by
    have := Classical.choose_spec (h0 i hi)
    simp only [p, dif_pos hi]
    exact this
  refine ⟨p, hp, ?_⟩
  have hd : ∀ i j, i < 4 → j < 4 → i ≠ j → p i ≠ p j := fun i j hi hj hne he => hne (h.2 i j hi hj (by rw [← (hp i hi).2, ← (hp j hj).2, he]))
  have a0 := (hp 0 (by decide)).1
  have a1 := (hp 1 (by decide)).1
  have a2 := (hp 2 (by decide)).1
  have a3 := (hp 3 (by decide)).1
  have b1 := hd 0 1 (by decide) (by decide) (by decide)
  have b2 := hd 0 2 (by decide) (by decide) (by decide)
  have b3 := hd 0 3 (by decide) (by decide) (by decide)
  have b4 := hd 1 2 (by decide) (by decide) (by decide)
  have b5 := hd 1 3 (by decide) (by decide) (by decide)
  have b6 := hd 2 3 (by decide) (by decide) (by decide)
  generalize p 0 = x at *
  generalize p 1 = y at *
  generalize p 2 = z at *
  generalize p 3 = t at *
  omega
def psum (p : Nat → Nat) : Nat → Nat
  | 0 => 0
  | k + 1 => psum p k + p k

theorem same_u32 (x : Int) : (x != x) = false := by simp

set_option maxHeartbeats 1600000 in
/-- One of the nodes may not be. -/
theorem Apart_bad (w : World) (x : BitVec 32) (e nd e2 nd2 c1 c2 : Int) (h1 : tcode e nd = c1) (h2 : tcode e2 nd2 = c2) (h : c1 ≠ 0 ∨ c2 ≠ 0) :
    Calls Try.prog 8 #[.int .u32 (U x), .int .i64 e, .int .i64 nd, .int .i64 e2, .int .i64 nd2] w fun r w' => r = .returned (.bool true) ∧ Below w.heap.size w w' := by
  have H1 := Lib.hid h1
  have H2 := Lib.hid h2
  have hs1 : stillS (stirS x) = x := still_stir x
  have hs2 : stirS (stillS x) = x := stir_still x
  by_cases g1 : c1 = 0
  · have g2 := h.resolve_left (fun e => e g1)
    have hd : (c2 != 0) = true := by simpa using g2
    subst g1
    clear h1 h2 h g2
    go_enter Try.func8, Try.ntmps8
    go_wp2_with fail
    refine (alive_any _).mono ?_
    rintro r w1 ⟨rfl, hB⟩
    go_wp2_with fail
    refine (Stir_any _ x).mono ?_
    rintro r w2 ⟨rfl, hb⟩
    have hB := hB.trans (hb.mono hB.size)
    clear hb
    go_wp2_with fail
    refine (Still_at _ (stirS x) _ (U x) rfl (by rw [hs1])).mono ?_
    rintro r w3 ⟨rfl, hb⟩
    have hB := hB.trans (hb.mono hB.size)
    clear hb
    go_wp2_with fail
    refine (Still_any _ x).mono ?_
    rintro r w4 ⟨rfl, hb⟩
    have hB := hB.trans (hb.mono hB.size)
    clear hb
    go_wp2_with fail
    refine (Stir_at _ (stillS x) _ (U x) rfl (by rw [hs2])).mono ?_
    rintro r w5 ⟨rfl, hb⟩
    have hB := hB.trans (hb.mono hB.size)
    clear hb
    go_wp2_with fail
    refine (Tags_code _ e nd 0 H1.out).mono ?_
    rintro r w6 ⟨A1, n1, k1, rfl, hb⟩
    have hB := hB.trans (hb.mono hB.size)
    clear hb
    go_wp2_with fail
    refine (Tags_code _ e2 nd2 c2 H2.out).mono ?_
    rintro r w7 ⟨A2, n2, k2, rfl, hb⟩
    have hB := hB.trans (hb.mono hB.size)
    clear hb
    go_wp2_with fail
    go_ret
    exact ⟨rfl, hB⟩
  · have hd : (c1 != 0) = true := by simpa using g1
    clear h1 h2 h
    go_enter Try.func8, Try.ntmps8
    go_wp2_with fail
    refine (alive_any _).mono ?_
    rintro r w1 ⟨rfl, hB⟩
    go_wp2_with fail
    refine (Stir_any _ x).mono ?_
    rintro r w2 ⟨rfl, hb⟩
    have hB := hB.trans (hb.mono hB.size)
    clear hb
    go_wp2_with fail
    refine (Still_at _ (stirS x) _ (U x) rfl (by rw [hs1])).mono ?_
    rintro r w3 ⟨rfl, hb⟩
    have hB := hB.trans (hb.mono hB.size)
    clear hb
    go_wp2_with fail
    refine (Still_any _ x).mono ?_
    rintro r w4 ⟨rfl, hb⟩
    have hB := hB.trans (hb.mono hB.size)
    clear hb
    go_wp2_with fail
    refine (Stir_at _ (stillS x) _ (U x) rfl (by rw [hs2])).mono ?_
    rintro r w5 ⟨rfl, hb⟩
    have hB := hB.trans (hb.mono hB.size)
    clear hb
    go_wp2_with fail
    refine (Tags_code _ e nd c1 H1.out).mono ?_
    rintro r w6 ⟨A1, n1, k1, rfl, hb⟩
    have hB := hB.trans (hb.mono hB.size)
    clear hb
    go_wp2_with fail
    refine (Tags_code _ e2 nd2 c2 H2.out).mono ?_
    rintro r w7 ⟨A2, n2, k2, rfl, hb⟩
    have hB := hB.trans (hb.mono hB.size)
    clear hb
    go_wp2_with fail
    go_ret
    exact ⟨rfl, hB⟩

set_option maxRecDepth 100000 in
set_option maxHeartbeats 3200000 in
/-- Both may be. -/
theorem Apart_ok (w : World) (x : BitVec 32) (e nd e2 nd2 : Nat) (he : e ≤ 65535) (hn : nd < 8) (he2 : e2 ≤ 65535) (hn2 : nd2 < 8) :
    Calls Try.prog 8 #[.int .u32 (U x), .int .i64 e, .int .i64 nd, .int .i64 e2, .int .i64 nd2] w fun r w' => r = .returned (.bool true) ∧ Below w.heap.size w w' := by
  have hs1 : stillS (stirS x) = x := still_stir x
  have hs2 : stirS (stillS x) = x := stir_still x
  go_enter Try.func8, Try.ntmps8
  go_wp2_with fail
  refine (alive_any _).mono ?_
  rintro r w1 ⟨rfl, hB⟩
  go_wp2_with fail
  refine (Stir_any _ x).mono ?_
  rintro r w2 ⟨rfl, hb⟩
  have hB := hB.trans (hb.mono hB.size)
  clear hb
  go_wp2_with fail
  refine (Still_at _ (stirS x) _ (U x) rfl (by rw [hs1])).mono ?_
  rintro r w3 ⟨rfl, hb⟩
  have hB := hB.trans (hb.mono hB.size)
  clear hb
  go_wp2_with fail
  refine (Still_any _ x).mono ?_
  rintro r w4 ⟨rfl, hb⟩
  have hB := hB.trans (hb.mono hB.size)
  clear hb
  go_wp2_with fail
  refine (Stir_at _ (stillS x) _ (U x) rfl (by rw [hs2])).mono ?_
  rintro r w5 ⟨rfl, hb⟩
  have hB := hB.trans (hb.mono hB.size)
  clear hb hs1 hs2
  go_wp2_with fail
  refine (Tags_ok _ e nd he hn).mono ?_
  rintro r w6 ⟨g1, c1, f1, rfl, hc1, hg1, hg1s, hb, hr1, hs1, hu1⟩
  have hB := hB.trans (hb.mono hB.size)
  clear hb
  go_wp2_with fail
  refine (Tags_ok _ e2 nd2 he2 hn2).mono ?_
  rintro r w7 ⟨g2, c2, f2, rfl, hc2, hg2, hg2s, hb, hr2, hs2, hu2⟩
  have hr1 := hr1.below hb hg1s
  have hg1s := Nat.lt_of_lt_of_le hg1s hb.size
  have hB := hB.trans (hb.mono hB.size)
  clear hb hg1 hg2
  go_wp2_with fail
  refine (Check_any _ _ _ _ _ _ (rowL f1) (row_ints hr1 hg1s (row_le hs1)) 0 (checkCode_zero (by simp [rowL]) (row_rises hu1))).mono ?_
  rintro r w8 ⟨rfl, m8, hw8⟩
  have hr1 : RowAt w8 g1 4 f1 := hw8 ▸ hr1.drewN m8
  have hr2 : RowAt w8 g2 4 f2 := hw8 ▸ hr2.drewN m8
  have hB : Below w.heap.size w w8 := hw8 ▸ below_drewN hB m8
  have hg1s : g1 < w8.heap.size := by rw [hw8]; exact hg1s
  have hg2s : g2 < w8.heap.size := by rw [hw8]; exact hg2s
  clear hw8 hu1 hu2
  obtain ⟨p, hp, hsum⟩ := parts_of hs1
  have hps : ∀ k, k ≤ 4 → psum p k ≤ 16 := fun k hk => by
    have a0 := (hp 0 (by decide)).1
    have a1 := (hp 1 (by decide)).1
    have a2 := (hp 2 (by decide)).1
    have a3 := (hp 3 (by decide)).1
    have : k = 0 ∨ k = 1 ∨ k = 2 ∨ k = 3 ∨ k = 4 := by omega
    rcases this with rfl | rfl | rfl | rfl | rfl <;> simp only [psum] <;> omega
  have hp4 : psum p 4 = 6 := by simp only [psum]; omega
  have HP := Lib.hid hp
  have HPS := Lib.hid hps
  have HP4 := Lib.hid hp4
  have HS1 := Lib.hid hs1
  have HS2 := Lib.hid hs2
  clear hp hps hp4 hsum hs1 hs2
  go_wp2
  go_loopw [16, 17] (fun s i wr => ∃ k : Nat, i = .int .i64 k ∧ s = .int .i64 (psum p k) ∧ k ≤ 4 ∧ Below w.heap.size w wr ∧ RowAt wr g1 4 f1 ∧ RowAt wr g2 4 f2 ∧ g1 < wr.heap.size ∧ g2 < wr.heap.size) (fun _ i _ => 4 - (intOf i).toNat)
  case atStart => exact ⟨0, rfl, rfl, by omega, hB, hr1, hr2, hg1s, hg2s⟩
  case round =>
    clear hB hr1 hr2 hg1s hg2s
    obtain ⟨k, rfl, rfl, hk, hB, hr1, hr2, hg1s, hg2s⟩ := hrel
    by_cases hlt : k < 4
    · obtain ⟨hpk, htk⟩ := HP.out k hlt
      have hq := HPS.out k (by omega)
      have gk := hr1 k hlt
      have HT := Lib.hid htk
      have HPK := Lib.hid (show psum p (k + 1) = psum p k + p k from rfl)
      obtain ⟨pk, hpk'⟩ : ∃ y, p k = y := ⟨_, rfl⟩
      obtain ⟨sk, hsk⟩ : ∃ y, psum p k = y := ⟨_, rfl⟩
      rw [hpk'] at hpk HT HPK
      rw [hsk] at hq HPK ⊢
      clear htk hpk' hsk
      go_wp2_with fail
      refine (Whose_tag _ e nd pk _ HT.out he hn hpk).mono ?_
      rintro r w9 ⟨rfl, hb⟩
      have hr1 := hr1.below hb hg1s
      have hr2 := hr2.below hb hg2s
      have hg1s := Nat.lt_of_lt_of_le hg1s hb.size
      have hg2s := Nat.lt_of_lt_of_le hg2s hb.size
      have hB := hB.trans (hb.mono hB.size)
      clear hb gk
      have hpk3 : (pk : Int) ≤ 3 := by omega
      go_wp2
      go_loopw [22] (fun i wr => ∃ j : Nat, i = .int .i64 j ∧ j ≤ 4 ∧ ∃ q, wr = w9.drewN q) (fun i _ => 4 - (intOf i).toNat)
      case atStart => exact ⟨0, rfl, by omega, 0, rfl⟩
      case round =>
        obtain ⟨j, rfl, hj, q, hq⟩ := hrel
        have hr1 := hr1.drewN q
        have hr2 := hr2.drewN q
        have hg1s : g1 < (w9.drewN q).heap.size := hg1s
        have hg2s : g2 < (w9.drewN q).heap.size := hg2s
        have hB := below_drewN hB q
        rw [← hq] at hr1 hr2 hg1s hg2s hB
        have HQ := Lib.hid hq
        clear hq
        by_cases hjl : j < 4
        · have a1 := hr1 k hlt
          have a2 := hr2 j hjl
          by_cases heq : f1 k = f2 j
          · obtain ⟨j2, hj2, ht2⟩ := row_u HS2.out j hjl
            have hsame := tagOf_inj he hn hpk he2 hn2 hj2 (HT.out.trans (heq.trans ht2.symm))
            obtain ⟨rfl, rfl, _⟩ := hsame
            clear ht2
            rw [heq] at a1
            go_wp2_with fail
            go_quiet (fail)
            go_wp2
            go_roundw
            case rel => exact ⟨j + 1, by go_num, by omega, q + nq, by rw [HQ.out]; simp⟩
            case measure => simp [intOf]; omega
          · have hd : (f1 k == f2 j) = false := by simpa using heq
            clear heq
            go_wp2_with fail
            go_quiet (fail)
            go_wp2
            go_roundw
            case rel => exact ⟨j + 1, by go_num, by omega, q + nq, by rw [HQ.out]; simp⟩
            case measure => simp [intOf]; omega
        · obtain rfl : j = 4 := by omega
          have hsum : (sk : Int) + (pk : Int) ≤ 100 := by omega
          go_wp2
          go_roundw
          case rel => exact ⟨k + 1, by go_num, by rw [HPK.out]; first | (push_cast; rfl) | go_num, by omega, hB, hr1, hr2, hg1s, hg2s⟩
          case measure => simp [intOf]; omega
    · obtain rfl : k = 4 := by omega
      rw [HP4.out]
      go_wp2
      go_ret
      exact ⟨rfl, hB⟩
end Least
end Go.Proofs.Ytpmhnheimaimmaa
