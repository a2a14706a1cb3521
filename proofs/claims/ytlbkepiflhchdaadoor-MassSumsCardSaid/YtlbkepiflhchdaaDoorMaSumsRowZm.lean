/- The law MassSums: a walk (printed by a program of mine). -/
/- The statement MassSums is proved, tied to the program's text: for every input the law answers true and leaves it as it was. No conditions. -/
import Derived.Test.YtlbkepiflhchdaaDoorBm33
import Derived.Test.YtlbkepiflhchdaaDoorBm23
import Derived.Test.YtlbkepiflhchdaaDoorBm19
import Derived.Test.YtlbkepiflhchdaaDoorBm34
import Derived.Test.YtlbkepiflhchdaaDoorBm27
import Derived.Test.YtlbkepiflhchdaaDoorCards
import Derived.Test.YtlbkepiflhchdaaDoorTie
import Derived.SevenTiedAt
namespace Go.Proofs.YtlbkepiflhchdaaDoor
open Go.RowKit
namespace Ma
open Dp Dy
/-- headcountref06.Sum, of lists of any length. -/
theorem RSum_all (w : World) (A : Option Addr) (n c : Nat) (ms : List Mv) (hL : LMs w 0 w.heap.size A n ms) (R : Nat → Dn) (code : Int) (h : sumM ms = (R, code)) :
    Calls Tryd.prog 31 #[.slice A n c] w fun e w' => ∃ m' : Mv, e = .returned (.tuple #[.agg #[.bool m'.S.s, .slice m'.S.A m'.S.n m'.S.c, .int .i64 m'.S.e, .bool m'.W.s, .slice m'.W.A m'.W.n m'.W.c, .int .i64 m'.W.e, .bool m'.C.s, .slice m'.C.A m'.C.n m'.C.c, .int .i64 m'.C.e, .bool m'.A.s, .slice m'.A.A m'.A.n m'.A.c, .int .i64 m'.A.e], .int .i64 code]) ∧ Below w.heap.size w w' ∧ IsM R m' ∧ MRows w' w.heap.size w'.heap.size m' := by
  by_cases hn : n ≤ 4096
  · exact RSum_any w A n c ms hL hn R code h
  · rw [sumM_many (by rw [hL.len]; omega)] at h
    injection h with h1 h2
    exact RSum_many w A n c (by omega) R code h1.symm h2.symm
set_option maxHeartbeats 51200000 in
set_option maxRecDepth 100000 in
theorem sums06_walk (w : World) (A : Option Addr) (n c : Nat) (ms : List Mv) (hL : LMs w 0 w.heap.size A n ms) (hn : n * 160 ≤ 140737488351232) (hbig : ∀ j (h : j < ms.length), ∀ x, x < 4 → (ms[j].get x).n ≤ 35184372088832) (hT : Tab w) :
    Calls Tryd.prog 4 #[.slice A n c] w (Yes w) := by
  have HL := Lib.hid hL.len
  have HB := Lib.hid hbig
  clear hbig
  obtain ⟨i0, hi0, hz0, hz1, hz2⟩ := info_parts infoM
  obtain ⟨R, code, hsum⟩ : ∃ R code, sumM ms = (R, code) := ⟨_, _, rfl⟩
  have HS := Lib.hid hsum
  clear hsum
  have g0 := hT.lt
  go_enter Tryd.func4, Tryd.ntmps4
  go_wp2
  go_loopw [2, 3] (fun ev iv wr => ∃ i : Nat, iv = .int .i64 i ∧ ev = .bool false ∧ i ≤ n ∧ i ≤ 40 ∧ Below w.heap.size w wr) (fun _ iv _ => n - (intOf iv).toNat)
  case atStart => exact ⟨0, rfl, rfl, Nat.zero_le _, by decide, Below.refl _ _⟩
  case round =>
    obtain ⟨i, rfl, rfl, hi1, hi40, hb⟩ := hrel
    have hLr := hL.below hb (Nat.le_refl _)
    have lw := hb.size
    by_cases hlt : i < n
    · skip
      by_cases hlt40 : i < 40
      · skip
        have hi2 : i < ms.length := by rw [HL.out]; exact hlt
        obtain ⟨b, off, hA, h1, h2, hc⟩ := hLr.row (by omega)
        have hci := hc i hi2
        have hri := hLr.rows i hi2
        obtain ⟨d, hd⟩ : ∃ d, ms[i] = d := ⟨_, rfl⟩
        rw [hd] at hci hri
        have HD := Lib.hid hd
        clear hd hc
        subst hA
        have hd2 : MRows wr 0 wr.heap.size d := hri.more (Nat.le_refl _) lw
        obtain ⟨g, hg⟩ : ∃ g, greatM d = g := ⟨_, rfl⟩
        have HG := Lib.hid hg
        clear hg hri hLr
        obtain ⟨k0, k1, k2, k3, k4, k5, k6, k7, k8, k9, k10, k11⟩ := hci
        have hwr : IntKind.i64.wrap ((i : Int) + 1) = ((i + 1 : Nat) : Int) := by rw [IntKind.wrap_i64]; omega
        go_wp2_with fail
        refine (RGreat_any wr d hd2 g HG.out).mono ?_
        rintro e w3 ⟨rfl, hB⟩
        clear k0 k1 k2 k3 k4 k5 k6 k7 k8 k9 k10 k11 hd2
        have hb3 := hb.trans (hB.mono lw)
        clear hB
        cases g
        · go_wp2
          go_roundw
          case rel => exact ⟨i + 1, by first | rfl | (congr 1; omega) | go_num, rfl, by omega, by omega, hb3⟩
          case measure => first | (simp [intOf]; done) | (simp [intOf]; omega)
        · go_wp2
          go_ret
          exact ⟨rfl, hb3⟩
      · skip
        have h40 : 40 < n := by omega
        by_cases h4096 : n ≤ 4096
        · go_wp2
          go_ret
          exact ⟨rfl, hb⟩
        · skip
          obtain ⟨wo, hwo⟩ : ∃ W : World, W = wr := ⟨_, rfl⟩
          subst hwo
          clear hLr
          go_wp2
          go_loopw [4, 5] (fun ov iv ww => ∃ (i : Nat) (os : List Mv), iv = .int .i64 i ∧ i ≤ n ∧ OwnM ww w.heap.size ov i os ∧ Below w.heap.size w ww ∧ Hid (Twins (ms.take i) os)) (fun _ iv _ => n - (intOf iv).toNat)
          case atStart => exact ⟨0, [], rfl, Nat.zero_le _, OwnM.nil_ _ _, hb, Lib.hid trivial⟩
          case round =>
            clear hb lw
            obtain ⟨i, os, rfl, hi1, hO, hb, hTw⟩ := hrel
            have hLr := hL.below hb (Nat.le_refl _)
            have lw := hb.size
            obtain ⟨Ao, co, rfl, hcap, hcm⟩ := hO.shape
            by_cases hlt : i < n
            · skip
              have hi2 : i < ms.length := by rw [HL.out]; exact hlt
              obtain ⟨b, off, hA, h1, h2, hc⟩ := hLr.row (by omega)
              have hci := hc i hi2
              have hri := hLr.rows i hi2
              obtain ⟨d, hd⟩ : ∃ d, ms[i] = d := ⟨_, rfl⟩
              rw [hd] at hci hri
              have HD := Lib.hid hd
              clear hd hc
              subst hA
              have hd2 : MRows wr 0 wr.heap.size d := hri.more (Nat.le_refl _) lw
              have hnb : ∀ x, x < 4 → (d.get x).n ≤ 35184372088832 := by
                have := HB.out i hi2
                rw [HD.out] at this
                exact this
              clear hri hLr
              obtain ⟨k0, k1, k2, k3, k4, k5, k6, k7, k8, k9, k10, k11⟩ := hci
              have hwr : IntKind.i64.wrap ((i : Int) + 1) = ((i + 1 : Nat) : Int) := by rw [IntKind.wrap_i64]; omega
              go_wp2_with fail
              refine (RTwinM_big wr d hd2 hnb).mono ?_
              rintro e w3 ⟨u, rfl, htu, hB, Ru⟩
              clear k0 k1 k2 k3 k4 k5 k6 k7 k8 k9 k10 k11 hd2 hnb
              replace htu := Lib.hid htu
              have l3 := hB.size
              have hOlt : ∀ k, (Value.slice Ao i co).ownBlock = some k → k < wr.heap.size := fun k hk => (hO.own.lt k hk).2
              have hO3 := hO.on hB
              have hb3 := hb.trans (hB.mono lw)
              clear hB hO hb
              generalize hw4 : w3.alloc (.cells #[.bool u.S.s, .slice u.S.A u.S.n u.S.c, .int .i64 u.S.e, .bool u.W.s, .slice u.W.A u.W.n u.W.c, .int .i64 u.W.e, .bool u.C.s, .slice u.C.A u.C.n u.C.c, .int .i64 u.C.e, .bool u.A.s, .slice u.A.A u.A.n u.A.c, .int .i64 u.A.e] 39) = w4
              have hB4 : Below w3.heap.size w3 w4 := by rw [← hw4]; exact (Below.refl _ _).alloc (Nat.le_refl _) _
              have hraw := raw_oneM w3 u hw4
              have l4 : w3.heap.size < w4.heap.size := by rw [← hw4]; simp
              have hO4 := hO3.on hB4
              have hb4 := hb3.trans (hB4.mono (by omega))
              have Ru4 : MRows w4 wr.heap.size w3.heap.size u := Ru.below hB4 (Nat.le_refl _)
              clear hO3 hb3 hB4 Ru
              go_wp2_with (first
                | (at_builtin; refine wpList_append_raw _ rfl (.tmp 41) (.tmp 47) 36 rfl w.heap.size 39 i0 _ 12 160 Tryd.underlying36 hi0 hz0 hz1 hz2 rfl (by decide) _ _ _ rfl hO4.own _ _ _ 1 1 (cells12 u) rfl hraw (cells12_one u) (by unfold maxLen; omega) (by omega) (by omega) ?_))
              intro A3 c3 w5 hown3 hg3 hob
              have hoff : u.off (Value.slice Ao i co).ownBlock := rows_off Ru4 fun k hk => .inl (hOlt k hk)
              have hO5 := hO4.push (Ru4.more (Nat.zero_le _) (by omega)) hoff hown3 hg3 hob
              have hb5 := hb4.grown hg3 (by omega) (fun q hq => (hO4.own.lt q hq).1)
              clear hO4 hb4 hown3 hg3 hob hoff hraw hOlt
              have hTw2 : Hid (Twins (ms.take (i + 1)) (os ++ [u])) := Lib.hid (twins_take hTw.out hi2 (by rw [HD.out]; exact htu.out))
              try clear hw4
              go_wp2
              go_roundw
              case rel => exact ⟨i + 1, _, by first | rfl | (congr 1; omega) | go_num, by omega, hO5, hb5, hTw2⟩
              case measure => first | (simp [intOf]; done) | (simp [intOf]; omega)
            · skip
              have hin : i = n := by omega
              subst hin
              have hTw2 : Hid (Twins ms os) := Lib.hid (by have := hTw.out; rw [List.take_of_length_le (by rw [HL.out]; exact Nat.le_refl _)] at this; exact this)
              have HLo : Hid (os.length = i) := Lib.hid hO.len
              have hLo := hO.lms
              have tT := hT.below hb hT.lt
              clear hTw hO
              obtain ⟨w2, hw2e⟩ : ∃ W : World, W = wr := ⟨_, rfl⟩
              subst hw2e
              obtain ⟨B, hBe⟩ : ∃ B, B = w2.heap.size := ⟨_, rfl⟩
              have lB1 : B ≤ w2.heap.size := by omega
              have lB2 : w2.heap.size ≤ B := by omega
              rw [← hBe] at hLo
              clear hBe
              go_wp2_with fail
              refine (MSum_all w2 _ i co os (hLo.more (Nat.le_refl _) lB1) tT R code (hTw2.out.sum.trans HS.out)).mono ?_
              rintro e w3 ⟨x, rfl, hB, hx, Rx⟩
              replace hx := Lib.hid hx
              have l3 := hB.size
              replace hLo := hLo.below hB lB1
              replace hLr := hLr.below hB lw
              replace hb := hb.trans (hB.mono lw)
              clear hB
              obtain ⟨w4, hw4, hMx, hB4, l4⟩ := alloc_m w3 x
              replace hLo := hLo.below hB4 (by omega)
              replace hLr := hLr.below hB4 (by omega)
              replace hb := hb.trans (hB4.mono (by omega))
              replace Rx : MRows w4 w2.heap.size w3.heap.size x := Rx.below hB4 (Nat.le_refl _)
              clear hB4
              go_wp2_with fail
              try clear hw4
              refine (RSum_all w4 _ i c ms (hLr.more (Nat.le_refl _) (by omega)) R code HS.out).mono ?_
              rintro e w5 ⟨y, rfl, hB, hy, Ry⟩
              replace hy := Lib.hid hy
              have l5 := hB.size
              replace hLo := hLo.below hB (by omega)
              replace hLr := hLr.below hB (by omega)
              replace hb := hb.trans (hB.mono (by omega))
              replace Rx := Rx.below hB (by omega)
              replace hMx := box_on hMx hB (by omega)
              clear hB
              obtain ⟨w6, hw6, hMy, hB6, l6⟩ := alloc_m w5 y
              replace hLo := hLo.below hB6 (by omega)
              replace hLr := hLr.below hB6 (by omega)
              replace hb := hb.trans (hB6.mono (by omega))
              replace Rx := Rx.below hB6 (by omega)
              replace Ry : MRows w6 w4.heap.size w5.heap.size y := Ry.below hB6 (Nat.le_refl _)
              replace hMx := box_on hMx hB6 (by omega)
              clear hB6
              obtain ⟨⟨k0, k1, k2, k3, k4, k5, k6, k7, k8, k9, k10, k11⟩, kf⟩ := MBox.cells hMx
              obtain ⟨⟨y0, y1, y2, y3, y4, y5, y6, y7, y8, y9, y10, y11⟩, yf⟩ := MBox.cells hMy
              go_wp2_with fail
              try clear hw6
              refine (RSame_any w6 x y (Rx.more (Nat.zero_le _) (by omega)) (Ry.more (Nat.zero_le _) (by omega)) true (hx.out.same hy.out)).mono ?_
              rintro e w7 ⟨rfl, hB⟩
              clear k0 k1 k2 k3 k4 k5 k6 k7 k8 k9 k10 k11 kf y0 y1 y2 y3 y4 y5 y6 y7 y8 y9 y10 y11 yf hMy Ry
              have l7 := hB.size
              replace hLo := hLo.below hB (by omega)
              replace hLr := hLr.below hB (by omega)
              replace hb := hb.trans (hB.mono (by omega))
              replace Rx := Rx.below hB (by omega)
              replace hMx := box_on hMx hB (by omega)
              clear hB
              obtain ⟨⟨k0, k1, k2, k3, k4, k5, k6, k7, k8, k9, k10, k11⟩, kf⟩ := MBox.cells hMx
              go_wp2_with fail
              refine (spoilM_any w7 x w2.heap.size w3.heap.size Rx (isM_n Rx hx.out (sumM_codes HS.out)) (by omega) (by omega)).mono ?_
              rintro e w8 ⟨rfl, hB, _⟩
              clear k0 k1 k2 k3 k4 k5 k6 k7 k8 k9 k10 k11 kf hMx Rx
              have l8 := hB.size
              replace hLo := hLo.below hB lB1
              replace hLr := hLr.below hB (by omega)
              replace hb := hb.trans (hB.mono (by omega))
              clear hB
              go_wp2
              go_loopw [2, 11] (fun ev iv ww => ∃ j : Nat, iv = .int .i64 j ∧ ev = .bool false ∧ j ≤ i ∧ Below w8.heap.size w8 ww) (fun _ iv _ => i - (intOf iv).toNat)
              case atStart => exact ⟨0, rfl, rfl, Nat.zero_le _, Below.refl _ _⟩
              case round =>
                obtain ⟨j, rfl, rfl, hj1, hbw⟩ := hrel
                have lw8 := hbw.size
                have hLow := hLo.below hbw (by omega)
                have hLrw := hLr.below hbw (by omega)
                have hb9 := hb.trans (hbw.mono (by omega))
                by_cases hlt : j < i
                · skip
                  have hi2p : j < ms.length := by rw [HL.out]; exact hlt
                  obtain ⟨bp, offp, hAp, h1p, h2p, hcp⟩ := hLrw.row (by omega)
                  have hcip := hcp j hi2p
                  have hrip := hLrw.rows j hi2p
                  obtain ⟨dp, hdp⟩ : ∃ d, ms[j] = d := ⟨_, rfl⟩
                  rw [hdp] at hcip hrip
                  have HDp := Lib.hid hdp
                  clear hdp hcp
                  subst hAp
                  have hi2q : j < os.length := by rw [HLo.out]; exact hlt
                  obtain ⟨bq, offq, hAq, h1q, h2q, hcq⟩ := hLow.row (by omega)
                  have hciq := hcq j hi2q
                  have hriq := hLow.rows j hi2q
                  obtain ⟨dq, hdq⟩ : ∃ d, os[j] = d := ⟨_, rfl⟩
                  rw [hdq] at hciq hriq
                  have HDq := Lib.hid hdq
                  clear hdq hcq
                  subst hAq
                  have hsm : sameM dq dp = true := by
                    have := twin_same (hTw2.out.get j hi2p hi2q)
                    rw [HDp.out, HDq.out] at this
                    exact this
                  have HSM := Lib.hid hsm
                  have hwr : IntKind.i64.wrap ((j : Int) + 1) = ((j + 1 : Nat) : Int) := by rw [IntKind.wrap_i64]; omega
                  have lbp : bp < wr.heap.size := by omega
                  have lbq : bq < wr.heap.size := by omega
                  clear hLow hLrw hsm
                  go_wp2_with fail
                  refine region_E (Keeps wr) [] (m := 10) (L := #[false, false, false, false, false, false, false, false, false, false]) (by kernel_rfl) (by rfl) (by rfl) ?_
                  have kp_ : Keeps wr wr.drew := fun _ _ => rfl
                  have rp2 : MRows wr.drew 0 wr.drew.heap.size dp := (rows_rng hrip (w' := wr.drew) (fun _ _ _ => rfl)).more (Nat.le_refl _) (by show _ ≤ wr.heap.size; omega)
                  have rq2 : MRows wr.drew 0 wr.drew.heap.size dq := (rows_rng hriq (w' := wr.drew) (fun _ _ _ => rfl)).more (Nat.le_refl _) (by show _ ≤ wr.heap.size; omega)
                  have b_ : Below wr.heap.size wr wr.drew := (Below.refl _ _).drew
                  have l9 : wr.heap.size ≤ wr.drew.heap.size := Nat.le_refl _
                  clear hrip hriq
                  generalize wr.drew = w9 at *
                  refine pureE (i := 0) (L := #[true, false, false, false, false, false, false, false, false, false]) (v := ?_) rfl (by rfl) (by kernel_rfl) (by kernel_rfl) (by kernel_rfl) (fun _ _ _ h => h) (by rfl) ?hy1 ?rest1
                  case hy1 => intro w; go_simp; (try with_reducible rfl)
                  try simp only [Act.put, List.setIfInBounds_toArray, List.set_cons_zero, List.set_cons_succ]
                  refine pureE (i := 1) (L := #[true, true, false, false, false, false, false, false, false, false]) (v := ?_) rfl (by rfl) (by kernel_rfl) (by kernel_rfl) (by kernel_rfl) (fun _ _ _ h => h) (by rfl) ?hy2 ?rest2
                  case hy2 => intro w; go_simp; (try with_reducible rfl)
                  try simp only [Act.put, List.setIfInBounds_toArray, List.set_cons_zero, List.set_cons_succ]
                  refine pureE (i := 2) (L := #[true, true, true, false, false, false, false, false, false, false]) (v := ?_) rfl (by rfl) (by kernel_rfl) (by kernel_rfl) (by kernel_rfl) (fun _ _ _ h => h) (by rfl) ?hy3 ?rest3
                  case hy3 => intro w; go_simp; (try with_reducible rfl)
                  try simp only [Act.put, List.setIfInBounds_toArray, List.set_cons_zero, List.set_cons_succ]
                  refine readE (i := 3) (L := #[true, true, true, true, false, false, false, false, false, false]) (v := .agg #[.bool dq.S.s, .slice dq.S.A dq.S.n dq.S.c, .int .i64 dq.S.e, .bool dq.W.s, .slice dq.W.A dq.W.n dq.W.c, .int .i64 dq.W.e, .bool dq.C.s, .slice dq.C.A dq.C.n dq.C.c, .int .i64 dq.C.e, .bool dq.A.s, .slice dq.A.A dq.A.n dq.A.c, .int .i64 dq.A.e]) rfl (by rfl) (by kernel_rfl) (by kernel_rfl) (by kernel_rfl) (fun _ _ _ h => h) (by assumption) (by rfl) ?ya_1_ ?za_1_
                  case ya_1_ =>
                    intro w' h1
                    obtain ⟨k0, k1, k2, k3, k4, k5, k6, k7, k8, k9, k10, k11⟩ := hciq.blk (h1 _ lbq)
                    go_simp
                  try simp only [Act.put, List.setIfInBounds_toArray, List.set_cons_zero, List.set_cons_succ]
                  refine pureE (i := 4) (L := #[true, true, true, true, true, false, false, false, false, false]) (v := ?_) rfl (by rfl) (by kernel_rfl) (by kernel_rfl) (by kernel_rfl) (fun _ _ _ h => h) (by rfl) ?hy5 ?rest5
                  case hy5 => intro w; go_simp; (try with_reducible rfl)
                  try simp only [Act.put, List.setIfInBounds_toArray, List.set_cons_zero, List.set_cons_succ]
                  refine pureE (i := 5) (L := #[true, true, true, true, true, true, false, false, false, false]) (v := ?_) rfl (by rfl) (by kernel_rfl) (by kernel_rfl) (by kernel_rfl) (fun _ _ _ h => h) (by rfl) ?hy6 ?rest6
                  case hy6 => intro w; go_simp; (try with_reducible rfl)
                  try simp only [Act.put, List.setIfInBounds_toArray, List.set_cons_zero, List.set_cons_succ]
                  refine pureE (i := 6) (L := #[true, true, true, true, true, true, true, false, false, false]) (v := ?_) rfl (by rfl) (by kernel_rfl) (by kernel_rfl) (by kernel_rfl) (fun _ _ _ h => h) (by rfl) ?hy7 ?rest7
                  case hy7 => intro w; go_simp; (try with_reducible rfl)
                  try simp only [Act.put, List.setIfInBounds_toArray, List.set_cons_zero, List.set_cons_succ]
                  refine readE (i := 7) (L := #[true, true, true, true, true, true, true, true, false, false]) (v := .agg #[.bool dp.S.s, .slice dp.S.A dp.S.n dp.S.c, .int .i64 dp.S.e, .bool dp.W.s, .slice dp.W.A dp.W.n dp.W.c, .int .i64 dp.W.e, .bool dp.C.s, .slice dp.C.A dp.C.n dp.C.c, .int .i64 dp.C.e, .bool dp.A.s, .slice dp.A.A dp.A.n dp.A.c, .int .i64 dp.A.e]) rfl (by rfl) (by kernel_rfl) (by kernel_rfl) (by kernel_rfl) (fun _ _ _ h => h) (by assumption) (by rfl) ?yb_1_ ?zb_1_
                  case yb_1_ =>
                    intro w' h1
                    obtain ⟨k0, k1, k2, k3, k4, k5, k6, k7, k8, k9, k10, k11⟩ := hcip.blk (h1 _ lbp)
                    go_simp
                  try simp only [Act.put, List.setIfInBounds_toArray, List.set_cons_zero, List.set_cons_succ]
                  refine stepK (i := 8) (L := #[true, true, true, true, true, true, true, true, true, false]) rfl (by rfl) (by kernel_rfl) (by rfl) (fun K hK => ?_)
                  go_simp
                  go_at_call 32
                  refine (RSame_any w9 dq dp rq2 rp2 true HSM.out).mono ?_
                  rintro e' w10 ⟨rfl, hB⟩
                  replace kp_ := Keeps.on kp_ l9 hB
                  replace b_ := b_.trans (hB.mono l9)
                  clear hB rq2 rp2
                  refine hK _ _ ⟨fun _ _ => kp_, ?_⟩
                  clear hK K
                  try simp only [Act.put, List.setIfInBounds_toArray, List.set_cons_zero, List.set_cons_succ]
                  refine pureE (i := 9) (L := #[true, true, true, true, true, true, true, true, true, true]) (v := ?_) rfl (by rfl) (by kernel_rfl) (by kernel_rfl) (by kernel_rfl) (fun _ _ _ h => h) (by rfl) ?hy10 ?rest10
                  case hy10 => intro w; go_simp; (try with_reducible rfl)
                  try simp only [Act.put, List.setIfInBounds_toArray, List.set_cons_zero, List.set_cons_succ]
                  refine doneE (by kernel_rfl) ?_ _
                  have hbw2 := hbw.trans (b_.mono lw8)
                  clear b_ kp_
                  go_wp2
                  go_roundw
                  case rel => exact ⟨j + 1, by first | rfl | (congr 1; omega) | go_num, rfl, by omega, hbw2⟩
                  case measure => first | (simp [intOf]; done) | (simp [intOf]; omega)
                · skip
                  go_wp2
                  go_ret
                  exact ⟨rfl, hb9⟩
    · skip
      have h40 : ¬ 40 < n := by omega
      obtain ⟨wo, hwo⟩ : ∃ W : World, W = wr := ⟨_, rfl⟩
      subst hwo
      clear hLr
      go_wp2
      go_loopw [4, 5] (fun ov iv ww => ∃ (i : Nat) (os : List Mv), iv = .int .i64 i ∧ i ≤ n ∧ OwnM ww w.heap.size ov i os ∧ Below w.heap.size w ww ∧ Hid (Twins (ms.take i) os)) (fun _ iv _ => n - (intOf iv).toNat)
      case atStart => exact ⟨0, [], rfl, Nat.zero_le _, OwnM.nil_ _ _, hb, Lib.hid trivial⟩
      case round =>
        clear hb lw
        obtain ⟨i, os, rfl, hi1, hO, hb, hTw⟩ := hrel
        have hLr := hL.below hb (Nat.le_refl _)
        have lw := hb.size
        obtain ⟨Ao, co, rfl, hcap, hcm⟩ := hO.shape
        by_cases hlt : i < n
        · skip
          have hi2 : i < ms.length := by rw [HL.out]; exact hlt
          obtain ⟨b, off, hA, h1, h2, hc⟩ := hLr.row (by omega)
          have hci := hc i hi2
          have hri := hLr.rows i hi2
          obtain ⟨d, hd⟩ : ∃ d, ms[i] = d := ⟨_, rfl⟩
          rw [hd] at hci hri
          have HD := Lib.hid hd
          clear hd hc
          subst hA
          have hd2 : MRows wr 0 wr.heap.size d := hri.more (Nat.le_refl _) lw
          have hnb : ∀ x, x < 4 → (d.get x).n ≤ 35184372088832 := by
            have := HB.out i hi2
            rw [HD.out] at this
            exact this
          clear hri hLr
          obtain ⟨k0, k1, k2, k3, k4, k5, k6, k7, k8, k9, k10, k11⟩ := hci
          have hwr : IntKind.i64.wrap ((i : Int) + 1) = ((i + 1 : Nat) : Int) := by rw [IntKind.wrap_i64]; omega
          go_wp2_with fail
          refine (RTwinM_big wr d hd2 hnb).mono ?_
          rintro e w3 ⟨u, rfl, htu, hB, Ru⟩
          clear k0 k1 k2 k3 k4 k5 k6 k7 k8 k9 k10 k11 hd2 hnb
          replace htu := Lib.hid htu
          have l3 := hB.size
          have hOlt : ∀ k, (Value.slice Ao i co).ownBlock = some k → k < wr.heap.size := fun k hk => (hO.own.lt k hk).2
          have hO3 := hO.on hB
          have hb3 := hb.trans (hB.mono lw)
          clear hB hO hb
          generalize hw4 : w3.alloc (.cells #[.bool u.S.s, .slice u.S.A u.S.n u.S.c, .int .i64 u.S.e, .bool u.W.s, .slice u.W.A u.W.n u.W.c, .int .i64 u.W.e, .bool u.C.s, .slice u.C.A u.C.n u.C.c, .int .i64 u.C.e, .bool u.A.s, .slice u.A.A u.A.n u.A.c, .int .i64 u.A.e] 39) = w4
          have hB4 : Below w3.heap.size w3 w4 := by rw [← hw4]; exact (Below.refl _ _).alloc (Nat.le_refl _) _
          have hraw := raw_oneM w3 u hw4
          have l4 : w3.heap.size < w4.heap.size := by rw [← hw4]; simp
          have hO4 := hO3.on hB4
          have hb4 := hb3.trans (hB4.mono (by omega))
          have Ru4 : MRows w4 wr.heap.size w3.heap.size u := Ru.below hB4 (Nat.le_refl _)
          clear hO3 hb3 hB4 Ru
          go_wp2_with (first
            | (at_builtin; refine wpList_append_raw _ rfl (.tmp 41) (.tmp 47) 36 rfl w.heap.size 39 i0 _ 12 160 Tryd.underlying36 hi0 hz0 hz1 hz2 rfl (by decide) _ _ _ rfl hO4.own _ _ _ 1 1 (cells12 u) rfl hraw (cells12_one u) (by unfold maxLen; omega) (by omega) (by omega) ?_))
          intro A3 c3 w5 hown3 hg3 hob
          have hoff : u.off (Value.slice Ao i co).ownBlock := rows_off Ru4 fun k hk => .inl (hOlt k hk)
          have hO5 := hO4.push (Ru4.more (Nat.zero_le _) (by omega)) hoff hown3 hg3 hob
          have hb5 := hb4.grown hg3 (by omega) (fun q hq => (hO4.own.lt q hq).1)
          clear hO4 hb4 hown3 hg3 hob hoff hraw hOlt
          have hTw2 : Hid (Twins (ms.take (i + 1)) (os ++ [u])) := Lib.hid (twins_take hTw.out hi2 (by rw [HD.out]; exact htu.out))
          try clear hw4
          go_wp2
          go_roundw
          case rel => exact ⟨i + 1, _, by first | rfl | (congr 1; omega) | go_num, by omega, hO5, hb5, hTw2⟩
          case measure => first | (simp [intOf]; done) | (simp [intOf]; omega)
        · skip
          have hin : i = n := by omega
          subst hin
          have hTw2 : Hid (Twins ms os) := Lib.hid (by have := hTw.out; rw [List.take_of_length_le (by rw [HL.out]; exact Nat.le_refl _)] at this; exact this)
          have HLo : Hid (os.length = i) := Lib.hid hO.len
          have hLo := hO.lms
          have tT := hT.below hb hT.lt
          clear hTw hO
          obtain ⟨w2, hw2e⟩ : ∃ W : World, W = wr := ⟨_, rfl⟩
          subst hw2e
          obtain ⟨B, hBe⟩ : ∃ B, B = w2.heap.size := ⟨_, rfl⟩
          have lB1 : B ≤ w2.heap.size := by omega
          have lB2 : w2.heap.size ≤ B := by omega
          rw [← hBe] at hLo
          clear hBe
          go_wp2_with fail
          refine (MSum_all w2 _ i co os (hLo.more (Nat.le_refl _) lB1) tT R code (hTw2.out.sum.trans HS.out)).mono ?_
          rintro e w3 ⟨x, rfl, hB, hx, Rx⟩
          replace hx := Lib.hid hx
          have l3 := hB.size
          replace hLo := hLo.below hB lB1
          replace hLr := hLr.below hB lw
          replace hb := hb.trans (hB.mono lw)
          clear hB
          obtain ⟨w4, hw4, hMx, hB4, l4⟩ := alloc_m w3 x
          replace hLo := hLo.below hB4 (by omega)
          replace hLr := hLr.below hB4 (by omega)
          replace hb := hb.trans (hB4.mono (by omega))
          replace Rx : MRows w4 w2.heap.size w3.heap.size x := Rx.below hB4 (Nat.le_refl _)
          clear hB4
          go_wp2_with fail
          try clear hw4
          refine (RSum_all w4 _ i c ms (hLr.more (Nat.le_refl _) (by omega)) R code HS.out).mono ?_
          rintro e w5 ⟨y, rfl, hB, hy, Ry⟩
          replace hy := Lib.hid hy
          have l5 := hB.size
          replace hLo := hLo.below hB (by omega)
          replace hLr := hLr.below hB (by omega)
          replace hb := hb.trans (hB.mono (by omega))
          replace Rx := Rx.below hB (by omega)
          replace hMx := box_on hMx hB (by omega)
          clear hB
          obtain ⟨w6, hw6, hMy, hB6, l6⟩ := alloc_m w5 y
          replace hLo := hLo.below hB6 (by omega)
          replace hLr := hLr.below hB6 (by omega)
          replace hb := hb.trans (hB6.mono (by omega))
          replace Rx := Rx.below hB6 (by omega)
          replace Ry : MRows w6 w4.heap.size w5.heap.size y := Ry.below hB6 (Nat.le_refl _)
          replace hMx := box_on hMx hB6 (by omega)
          clear hB6
          obtain ⟨⟨k0, k1, k2, k3, k4, k5, k6, k7, k8, k9, k10, k11⟩, kf⟩ := MBox.cells hMx
          obtain ⟨⟨y0, y1, y2, y3, y4, y5, y6, y7, y8, y9, y10, y11⟩, yf⟩ := MBox.cells hMy
          go_wp2_with fail
          try clear hw6
          refine (RSame_any w6 x y (Rx.more (Nat.zero_le _) (by omega)) (Ry.more (Nat.zero_le _) (by omega)) true (hx.out.same hy.out)).mono ?_
          rintro e w7 ⟨rfl, hB⟩
          clear k0 k1 k2 k3 k4 k5 k6 k7 k8 k9 k10 k11 kf y0 y1 y2 y3 y4 y5 y6 y7 y8 y9 y10 y11 yf hMy Ry
          have l7 := hB.size
          replace hLo := hLo.below hB (by omega)
          replace hLr := hLr.below hB (by omega)
          replace hb := hb.trans (hB.mono (by omega))
          replace Rx := Rx.below hB (by omega)
          replace hMx := box_on hMx hB (by omega)
          clear hB
          obtain ⟨⟨k0, k1, k2, k3, k4, k5, k6, k7, k8, k9, k10, k11⟩, kf⟩ := MBox.cells hMx
          go_wp2_with fail
          refine (spoilM_any w7 x w2.heap.size w3.heap.size Rx (isM_n Rx hx.out (sumM_codes HS.out)) (by omega) (by omega)).mono ?_
          rintro e w8 ⟨rfl, hB, _⟩
          clear k0 k1 k2 k3 k4 k5 k6 k7 k8 k9 k10 k11 kf hMx Rx
          have l8 := hB.size
          replace hLo := hLo.below hB lB1
          replace hLr := hLr.below hB (by omega)
          replace hb := hb.trans (hB.mono (by omega))
          clear hB
          go_wp2
          go_loopw [2, 11] (fun ev iv ww => ∃ j : Nat, iv = .int .i64 j ∧ ev = .bool false ∧ j ≤ i ∧ Below w8.heap.size w8 ww) (fun _ iv _ => i - (intOf iv).toNat)
          case atStart => exact ⟨0, rfl, rfl, Nat.zero_le _, Below.refl _ _⟩
          case round =>
            obtain ⟨j, rfl, rfl, hj1, hbw⟩ := hrel
            have lw8 := hbw.size
            have hLow := hLo.below hbw (by omega)
            have hLrw := hLr.below hbw (by omega)
            have hb9 := hb.trans (hbw.mono (by omega))
            by_cases hlt : j < i
            · skip
              have hi2p : j < ms.length := by rw [HL.out]; exact hlt
              obtain ⟨bp, offp, hAp, h1p, h2p, hcp⟩ := hLrw.row (by omega)
              have hcip := hcp j hi2p
              have hrip := hLrw.rows j hi2p
              obtain ⟨dp, hdp⟩ : ∃ d, ms[j] = d := ⟨_, rfl⟩
              rw [hdp] at hcip hrip
              have HDp := Lib.hid hdp
              clear hdp hcp
              subst hAp
              have hi2q : j < os.length := by rw [HLo.out]; exact hlt
              obtain ⟨bq, offq, hAq, h1q, h2q, hcq⟩ := hLow.row (by omega)
              have hciq := hcq j hi2q
              have hriq := hLow.rows j hi2q
              obtain ⟨dq, hdq⟩ : ∃ d, os[j] = d := ⟨_, rfl⟩
              rw [hdq] at hciq hriq
              have HDq := Lib.hid hdq
              clear hdq hcq
              subst hAq
              have hsm : sameM dq dp = true := by
                have := twin_same (hTw2.out.get j hi2p hi2q)
                rw [HDp.out, HDq.out] at this
                exact this
              have HSM := Lib.hid hsm
              have hwr : IntKind.i64.wrap ((j : Int) + 1) = ((j + 1 : Nat) : Int) := by rw [IntKind.wrap_i64]; omega
              have lbp : bp < wr.heap.size := by omega
              have lbq : bq < wr.heap.size := by omega
              clear hLow hLrw hsm
              go_wp2_with fail
              refine region_E (Keeps wr) [] (m := 10) (L := #[false, false, false, false, false, false, false, false, false, false]) (by kernel_rfl) (by rfl) (by rfl) ?_
              have kp_ : Keeps wr wr.drew := fun _ _ => rfl
              have rp2 : MRows wr.drew 0 wr.drew.heap.size dp := (rows_rng hrip (w' := wr.drew) (fun _ _ _ => rfl)).more (Nat.le_refl _) (by show _ ≤ wr.heap.size; omega)
              have rq2 : MRows wr.drew 0 wr.drew.heap.size dq := (rows_rng hriq (w' := wr.drew) (fun _ _ _ => rfl)).more (Nat.le_refl _) (by show _ ≤ wr.heap.size; omega)
              have b_ : Below wr.heap.size wr wr.drew := (Below.refl _ _).drew
              have l9 : wr.heap.size ≤ wr.drew.heap.size := Nat.le_refl _
              clear hrip hriq
              generalize wr.drew = w9 at *
              refine pureE (i := 0) (L := #[true, false, false, false, false, false, false, false, false, false]) (v := ?_) rfl (by rfl) (by kernel_rfl) (by kernel_rfl) (by kernel_rfl) (fun _ _ _ h => h) (by rfl) ?hy11 ?rest11
              case hy11 => intro w; go_simp; (try with_reducible rfl)
              try simp only [Act.put, List.setIfInBounds_toArray, List.set_cons_zero, List.set_cons_succ]
              refine pureE (i := 1) (L := #[true, true, false, false, false, false, false, false, false, false]) (v := ?_) rfl (by rfl) (by kernel_rfl) (by kernel_rfl) (by kernel_rfl) (fun _ _ _ h => h) (by rfl) ?hy12 ?rest12
              case hy12 => intro w; go_simp; (try with_reducible rfl)
              try simp only [Act.put, List.setIfInBounds_toArray, List.set_cons_zero, List.set_cons_succ]
              refine pureE (i := 2) (L := #[true, true, true, false, false, false, false, false, false, false]) (v := ?_) rfl (by rfl) (by kernel_rfl) (by kernel_rfl) (by kernel_rfl) (fun _ _ _ h => h) (by rfl) ?hy13 ?rest13
              case hy13 => intro w; go_simp; (try with_reducible rfl)
              try simp only [Act.put, List.setIfInBounds_toArray, List.set_cons_zero, List.set_cons_succ]
              refine readE (i := 3) (L := #[true, true, true, true, false, false, false, false, false, false]) (v := .agg #[.bool dq.S.s, .slice dq.S.A dq.S.n dq.S.c, .int .i64 dq.S.e, .bool dq.W.s, .slice dq.W.A dq.W.n dq.W.c, .int .i64 dq.W.e, .bool dq.C.s, .slice dq.C.A dq.C.n dq.C.c, .int .i64 dq.C.e, .bool dq.A.s, .slice dq.A.A dq.A.n dq.A.c, .int .i64 dq.A.e]) rfl (by rfl) (by kernel_rfl) (by kernel_rfl) (by kernel_rfl) (fun _ _ _ h => h) (by assumption) (by rfl) ?ya_2_ ?za_2_
              case ya_2_ =>
                intro w' h1
                obtain ⟨k0, k1, k2, k3, k4, k5, k6, k7, k8, k9, k10, k11⟩ := hciq.blk (h1 _ lbq)
                go_simp
              try simp only [Act.put, List.setIfInBounds_toArray, List.set_cons_zero, List.set_cons_succ]
              refine pureE (i := 4) (L := #[true, true, true, true, true, false, false, false, false, false]) (v := ?_) rfl (by rfl) (by kernel_rfl) (by kernel_rfl) (by kernel_rfl) (fun _ _ _ h => h) (by rfl) ?hy15 ?rest15
              case hy15 => intro w; go_simp; (try with_reducible rfl)
              try simp only [Act.put, List.setIfInBounds_toArray, List.set_cons_zero, List.set_cons_succ]
              refine pureE (i := 5) (L := #[true, true, true, true, true, true, false, false, false, false]) (v := ?_) rfl (by rfl) (by kernel_rfl) (by kernel_rfl) (by kernel_rfl) (fun _ _ _ h => h) (by rfl) ?hy16 ?rest16
              case hy16 => intro w; go_simp; (try with_reducible rfl)
              try simp only [Act.put, List.setIfInBounds_toArray, List.set_cons_zero, List.set_cons_succ]
              refine pureE (i := 6) (L := #[true, true, true, true, true, true, true, false, false, false]) (v := ?_) rfl (by rfl) (by kernel_rfl) (by kernel_rfl) (by kernel_rfl) (fun _ _ _ h => h) (by rfl) ?hy17 ?rest17
              case hy17 => intro w; go_simp; (try with_reducible rfl)
              try simp only [Act.put, List.setIfInBounds_toArray, List.set_cons_zero, List.set_cons_succ]
              refine readE (i := 7) (L := #[true, true, true, true, true, true, true, true, false, false]) (v := .agg #[.bool dp.S.s, .slice dp.S.A dp.S.n dp.S.c, .int .i64 dp.S.e, .bool dp.W.s, .slice dp.W.A dp.W.n dp.W.c, .int .i64 dp.W.e, .bool dp.C.s, .slice dp.C.A dp.C.n dp.C.c, .int .i64 dp.C.e, .bool dp.A.s, .slice dp.A.A dp.A.n dp.A.c, .int .i64 dp.A.e]) rfl (by rfl) (by kernel_rfl) (by kernel_rfl) (by kernel_rfl) (fun _ _ _ h => h) (by assumption) (by rfl) ?yb_2_ ?zb_2_
              case yb_2_ =>
                intro w' h1
                obtain ⟨k0, k1, k2, k3, k4, k5, k6, k7, k8, k9, k10, k11⟩ := hcip.blk (h1 _ lbp)
                go_simp
              try simp only [Act.put, List.setIfInBounds_toArray, List.set_cons_zero, List.set_cons_succ]
              refine stepK (i := 8) (L := #[true, true, true, true, true, true, true, true, true, false]) rfl (by rfl) (by kernel_rfl) (by rfl) (fun K hK => ?_)
              go_simp
              go_at_call 32
              refine (RSame_any w9 dq dp rq2 rp2 true HSM.out).mono ?_
              rintro e' w10 ⟨rfl, hB⟩
              replace kp_ := Keeps.on kp_ l9 hB
              replace b_ := b_.trans (hB.mono l9)
              clear hB rq2 rp2
              refine hK _ _ ⟨fun _ _ => kp_, ?_⟩
              clear hK K
              try simp only [Act.put, List.setIfInBounds_toArray, List.set_cons_zero, List.set_cons_succ]
              refine pureE (i := 9) (L := #[true, true, true, true, true, true, true, true, true, true]) (v := ?_) rfl (by rfl) (by kernel_rfl) (by kernel_rfl) (by kernel_rfl) (fun _ _ _ h => h) (by rfl) ?hy20 ?rest20
              case hy20 => intro w; go_simp; (try with_reducible rfl)
              try simp only [Act.put, List.setIfInBounds_toArray, List.set_cons_zero, List.set_cons_succ]
              refine doneE (by kernel_rfl) ?_ _
              have hbw2 := hbw.trans (b_.mono lw8)
              clear b_ kp_
              go_wp2
              go_roundw
              case rel => exact ⟨j + 1, by first | rfl | (congr 1; omega) | go_num, rfl, by omega, hbw2⟩
              case measure => first | (simp [intOf]; done) | (simp [intOf]; omega)
            · skip
              go_wp2
              go_ret
              exact ⟨rfl, hb9⟩
end Ma
end Go.Proofs.YtlbkepiflhchdaaDoor

namespace Go.Proofs.YtlbkepiflhchdaaDoor
open Go.ChangeShapes Go.WideShapes Go.ChangeAt Go.RowKit

set_option maxRecDepth 100000 in
theorem massSums_lifted (os : Os) (started : os.Started) (H : Type) (enc : TypeId × Value → H) :
    ReturnsInHanded {} Tryd.checked os 4 .any (fun w args => (Rows.massSumsSpec.pre enc Tryd.prog Tryd.f4 [] false w args ∧ laidMetH Tryd.prog Dy.laidT w) ∧ sizedMet enc Tryd.prog Tryd.f4 (OpenSpec.ofChange Rows.massSumsSpec) false w args)
      (Rows.massSumsSpec.post enc Tryd.prog Tryd.f4 false true false false) := by
  refine returnsInHanded_of_change_and (C := Tryd.checked) (X := fun w _ => laidMetH Tryd.prog Dy.laidT w) (fun _ _ _ hh h => h.of_heap hh) Dy.ownKnob_ started (by kernel_rfl) Tryd.func4
    (ChangeSpec.witness_shaped (enc := enc) (C := Tryd.checked) (os := os) (X := fun w _ => laidMetH Tryd.prog Dy.laidT w) false (World.doorLaid Tryd.prog 400 os) #[.slice none 0 0] 8 rfl (Dy.door_shaped os _) (by kernel_rfl) (by kernel_rfl) (by kernel_rfl) (Dy.door_met os _)) ?_
  intro W base args ds gs before hval0 hW _ hsz hL _
  have hval : ∀ (j : Nat) t v, Tryd.f4.params[j]? = some t → args[j]? = some v → Value.okWide Tryd.prog W .any base t v := hval0
  have hW' := hW
  obtain ⟨p, q, hA0, hV, rfl, hfz, hnd⟩ := hW
  have hlt := hW'.lt
  have hA : DataW.TrodAll enc Tryd.prog W 0 (fun _ => true) true Tryd.f4.params.toList args.toList ds p := hA0
  rw [Tryd.params4] at hA hval
  obtain ⟨v0, d0, rfl, rfl, h0⟩ := trodAll_one hA
  obtain ⟨rfl, rfl⟩ := trodVars_none hV
  rw [Tryd.params4] at hsz
  have hwt : ∀ q ∈ d0.weights Tryd.prog 36, q ≤ reachBytes := fun q hq => of_decide_eq_true (List.all_eq_true.1 hsz q (List.mem_append_left _ hq))
  obtain ⟨A0, n0, c0, ms0, rfl, hc0, hm0, hx0, hz0⟩ := masses_open_sized Tryd.underlying36 Tryd.underlying39 rfl rfl (by kernel_rfl) Tryd.underlying24 (by kernel_rfl) (by kernel_rfl) Tryd.underlying4 Tryd.underlying22 Tryd.underlying52 (by kernel_rfl) Tryd.underlying3 (hval 0 36 v0 rfl rfl) h0 (fun b off hm => hfz b off (by simp [hm])) (fun x hm => hlt x (by simp [hm]))
  have b1 : Tryd.prog.bytesOf 39 = 160 := by kernel_rfl
  have b2 : Tryd.prog.bytesOf 52 = 4 := by kernel_rfl
  obtain ⟨s1, s2⟩ := hz0 reachBytes hwt
  rw [b1] at s1
  exact (Ma.sums06_walk W A0 n0 c0 ms0 hx0 s1 (fun j h x hx => by have := s2 j h x hx; rw [b2] at this; unfold reachBytes at this; omega) (Dy.tab_of_laid hL)).mono fun e W' ⟨he, hb⟩ => ⟨_, he, law_post hW' rfl Tryd.laidOut (by kernel_rfl) (tb := 4) (by kernel_rfl) Tryd.underlying4 rfl rfl rfl hb⟩

theorem massSums_row : Rows.MassSumsSaid :=
  OpenClaim.holds_of_wide 4 Tryd.f4 rfl rfl rfl rfl rfl rfl rfl ⟨rfl, rfl, rfl, rfl, rfl⟩ rfl rfl rfl rfl rfl (by kernel_rfl) Tryd.func4 (by kernel_rfl)
    (of_decide_eq_true (by kernel_rfl)) (by unfold Func.isWrapper; first | (rw [if_pos (by decide +kernel)]; kernel_rfl) | (rw [if_neg (by decide +kernel)]; exact ⟨rfl, rfl⟩))
    (fun os started H enc _ => massSums_lifted os started H enc)
theorem massSums_holds : Rows.MassSumsCardSaid :=
  Claim7.holds_tied_plain_at .later [] [.data] true Rows.massSumsCard.stood.harness false
    massSums_row (fun _ h => by cases h) (by kernel_rfl) (fun _ h => by cases h) massSums_row_tie rfl ⟨rfl, rfl⟩ (by kernel_rfl) rfl
    (fun f fn hf hfn => by
      obtain rfl : f = 4 := Option.some.inj ((show Tryd.prog.funcNamed "headcount/headcountlaw06.MassSums" = some 4 by kernel_rfl).symm.trans hf) |>.symm
      obtain rfl : fn = Tryd.f4 := (Option.some.inj (Tryd.func4.symm.trans hfn)).symm
      exact ⟨by kernel_rfl, fun j t ht => by
        rw [Tryd.params4] at ht
        have hm : t ∈ [36] := by simpa using Array.mem_of_getElem? ht
        have hall : ([36].all fun u => !Tryd.prog.wantsStandIn u) = true := by kernel_rfl
        exact (show Tryd.prog.wantsStandIn t = false by simpa using List.all_eq_true.1 hall t hm)⟩)
    (by kernel_rfl)
#print axioms massSums_holds
end Go.Proofs.YtlbkepiflhchdaaDoor
