/- ChooseBegins: the walk. -/
import Derived.Test.YtpjomdkcckamkaaChRound
namespace Go.Proofs.Ytpjomdkcckamkaa
open Go.RowKit Go.Sort Go.Shelf
namespace De
theorem chs_one {own cap : Int} {xs : List D} {ds : List Int} (hm : mayC own cap xs = true) (h0 : 0 < (chs xs ds).length) : oneR own cap xs (ds[0]?.getD 0) = ((chs xs ds)[0]?.getD (0, 0), 0) := by
  cases ds with
  | nil => simp [chs] at h0
  | cons d ds =>
    have hne : xs ≠ [] := fun e => by
      rw [e, chs_nil] at h0
      simp at h0
    simp [oneR, hm, hne, chs]
theorem some_code {own cap : Int} {xs : List D} {ds : List Int} (h : ds.length ≤ 64) : someC own cap xs ds = if mayC own cap xs = true then 0 else 8 := by
  unfold someC
  rw [if_neg (by omega : ¬ 64 < ds.length)]

set_option maxHeartbeats 3200000 in
set_option maxRecDepth 100000 in
theorem chooseBegins_any (w : World) (ow ca : Int) (A0 : Option Addr) (n0 c0 : Nat) (xs : List (Int × Int)) (hX : Descs w 0 w.heap.size A0 n0 xs) (hc0 : n0 ≤ c0) (B : Option Addr) (m cB : Nat) (ds : List Int) (hD : Ints w 0 w.heap.size .u64 B m ds) (hcB : m ≤ cB) (kk : Int) :
    Calls Try.prog 17 #[.agg #[.int .i64 ow, .int .i64 ca, .slice A0 n0 c0], .slice B m cB, .int .i64 kk] w fun e w' => e = .returned (.bool true) ∧ Below w.heap.size w w' := by
  have hLX := Lib.hid hX.len
  have hLD := Lib.hid hD.len
  have hbx := hX.big
  have hbd := hD.big
  obtain ⟨u, hu⟩ : ∃ u : World, w.alloc (.cells #[.int .i64 ow, .int .i64 ca, .slice A0 n0 c0] 43) = u := ⟨_, rfl⟩
  have hbu : Below w.heap.size w u := by rw [← hu]; exact (Below.refl _ w).alloc (Nat.le_refl _) _
  have hsu : w.heap.size + 1 ≤ u.heap.size := by rw [← hu]; simp
  have hC : u.heap[w.heap.size]? = some (.cells #[.int .i64 ow, .int .i64 ca, .slice A0 n0 c0] 43 (0, 0)) := by rw [← hu]; exact heap_newg _ _ _ rfl
  have hal := aliveH_p u
  have hHU := Lib.hid hu
  clear hu
  go_enter Try.func17, Try.ntmps17
  go_wp2_with fail
  rw [hHU.out]
  refine hal.mono ?_
  rintro e w1 ⟨rfl, hb, hp1⟩
  have hs1 := hb.size
  have C := Below.heapOf hb (by omega) hC
  have hc := hbu.trans (hb.mono (by omega))
  have X := hX.below hc (Nat.le_refl _)
  have E := hD.below hc (Nat.le_refl _)
  clear hb hX hC hbu hal hHU hD
  obtain ⟨⟨k1, k2, k3⟩, _⟩ := cells3 C
  by_cases hm64 : m ≤ 64
  · have g64 : decide ((64 : Int) < m) = false := by simp; omega
    by_cases hk0 : kk < 0
    · have g0 : decide (kk < 0) = true := by simpa using hk0
      go_wp2
      go_ret
      exact ⟨rfl, hc⟩
    · have g0 : decide (kk < 0) = false := by simpa using hk0
      by_cases hkm : (m : Int) < kk
      · have g1 : decide ((m : Int) < kk) = true := by simpa using hkm
        go_wp2
        go_ret
        exact ⟨rfl, hc⟩
      · have g1 : decide ((m : Int) < kk) = false := by simpa using hkm
        obtain ⟨k, rfl⟩ : ∃ k : Nat, kk = k := ⟨kk.toNat, by omega⟩
        have hkm' : k ≤ m := by omega
        obtain ⟨r, hr⟩ : ∃ r, someC ow ca xs ds = r := ⟨_, rfl⟩
        have hr2 : someC ow ca xs (ds.take k) = r := by
          rw [some_code (by rw [List.length_take, hLD.out]; omega), ← some_code (by rw [hLD.out]; exact hm64), hr]
        have HR := Lib.hid hr
        have HR2 := Lib.hid hr2
        clear hr hr2
        go_wp2_with fail
        refine (Some_any _ ow ca A0 n0 c0 xs (X.more (by omega) (by omega)) hc0 B m cB ds (E.more (by omega) (by omega)) r HR.out).mono ?_
        rintro e w2 ⟨A2, n2, c2, r2, rfl, hc2, hb, hr2, hr2', L⟩
        have hs2 := hb.size
        have C := Below.heapOf hb (by omega) C
        have hc := hc.trans (hb.mono (by omega))
        have X := X.below hb (by omega)
        have E := E.below hb (by omega)
        clear hb k1 k2 k3
        obtain ⟨⟨k1, k2, k3⟩, _⟩ := cells3 C
        have mixed : Try.prog.follows .mixedOrders = true := by kernel_rfl
        have q1 : k ≤ cB := by omega
        have Xd : Descs w2.drew 0 w2.drew.heap.size A0 n0 xs := (X.drewN 1).more (Nat.le_refl _) (by show _ ≤ w2.heap.size; omega)
        have Ed : Ints w2.drew 0 w2.drew.heap.size .u64 B k (ds.take k) := (((E.take_ hkm').drewN 1).more (Nat.le_refl _) (by show _ ≤ w2.heap.size; omega))
        have hsd : w2.heap.size ≤ w2.drew.heap.size := Nat.le_refl _
        have HXd := Lib.hid Xd
        have HEd := Lib.hid Ed
        clear Xd Ed
        go_wp2_with fail
        go_region_held3 (fun w' => w'.cell? ⟨w.heap.size, 0, none⟩ = some (.int .i64 ow) ∧ w'.cell? ⟨w.heap.size, 1, none⟩ = some (.int .i64 ca) ∧ w'.cell? ⟨w.heap.size, 2, none⟩ = some (.slice A0 n0 c0))
          (first | go_keep | (go_split_ands; exact ⟨s1, s2, s3⟩) | fail)
          (first
            | (go_at_call 45; refine Calls.mono (Some_any _ ow ca A0 n0 c0 xs HXd.out hc0 B k cB (ds.take k) HEd.out r HR2.out) ?_; rintro e w3 ⟨A3, n3, c3, r3, rfl, hc3, hb3, hr3, hr3', M⟩; have s1 := Below.keepCell hb3 (show w.heap.size < w2.drew.heap.size by omega) k1; have s2 := Below.keepCell hb3 (show w.heap.size < w2.drew.heap.size by omega) k2; have s3 := Below.keepCell hb3 (show w.heap.size < w2.drew.heap.size by omega) k3)
            | (go_at_call 45; fail))
        have hs3 := hb3.size
        have hb3' : Below w2.heap.size w2 w3 := ((Below.refl _ w2).drew).trans (hb3.mono (by omega))
        have C := Below.heapOf hb3' (by omega) C
        have hc := hc.trans (hb3'.mono (by omega))
        have X := X.below hb3' (by omega)
        have E := E.below hb3' (by omega)
        have L := L.below hb3' (by omega)
        clear hb3 hb3' k1 k2 k3 s1 s2 s3 HXd HEd
        obtain ⟨⟨k1, k2, k3⟩, _⟩ := cells3 C
        by_cases hz : r = 0
        · subst hz
          rw [someL, if_pos HR.out] at L
          rw [someL, if_pos HR2.out, chs_take] at M
          have hM := (some_zero HR.out).1
          have hLL := Lib.hid L.len
          have hML := Lib.hid M.len
          have hone := fun h => chs_one (xs := xs) (ds := ds) hM h
          have hn32 : n3 ≤ n2 := by
            rw [← hML.out, ← hLL.out, List.length_take]
            omega
          have hn32' : decide ((n2 : Int) < n3) = false := by simp; omega
          have hsm : Hid (Sm ((chs xs ds).take n3) ((chs xs ds).take k) = true) := by
            have e : (chs xs ds).take n3 = (chs xs ds).take k := by
              rw [← hML.out, List.length_take, ← List.take_take, List.take_length]
            rw [Hid, e]
            exact Sm_refl _
          have hL3 := L.take_ (m := n3) hn32
          have HON := Lib.hid hone
          have hlsz := E.big
          have q2 : n3 ≤ c2 := by omega
          clear hM hone
          go_wp2_with fail
          refine (Same_b _ _ _ _ _ A2 A3 n3 c2 n3 c3 _ _ hL3 M true hsm.out).mono ?_
          rintro e w4 ⟨rfl, hb⟩
          have hs4 := hb.size
          have C := Below.heapOf hb (by omega) C
          have hc := hc.trans (hb.mono (by omega))
          have X := X.below hb (by omega)
          have E := E.below hb (by omega)
          have L := L.below hb (by omega)
          clear hb k1 k2 k3 hL3 M
          obtain ⟨⟨k1, k2, k3⟩, _⟩ := cells3 C
          by_cases h0 : n2 = 0
          · subst h0
            go_wp2
            go_ret
            exact ⟨rfl, hc⟩
          · have h0' : ((n2 : Int) == 0) = false := by simp; omega
            have hmm : 0 < m := by
              have := hLL.out
              rw [chs_len, hLD.out] at this
              omega
            have hon := HON.out (by rw [hLL.out]; omega)
            obtain ⟨db, doff, rfl, hdb1, hdb2, hcd⟩ := E.row hmm
            have g0 := (hcd 0 hmm).1
            rw [Nat.add_zero] at g0
            obtain ⟨lb, loff, rfl, hlb1, hlb2, hcl⟩ := L.row (by omega)
            obtain ⟨⟨f1, _⟩, f2, _⟩ := hcl 0 (by omega)
            have hdm : ds[0]?.getD 0 ∈ ds := by
              rw [List.getElem?_eq_getElem (by rw [hLD.out]; exact hmm)]
              exact List.getElem_mem _
            have hdw := E.wf _ hdm
            have hd0 : (0 : Int) ≤ ds[0]?.getD 0 := by simpa [IntKind.min, IntKind.signed] using hdw.1
            have hd1 : ds[0]?.getD 0 ≤ IntKind.u64.max := hdw.2
            generalize ds[0]?.getD 0 = d at g0 hon hd0 hd1
            generalize (chs xs ds)[0]?.getD (0, 0) = x at hon f1 f2
            obtain ⟨x1, x2⟩ := x
            have HONE := Lib.hid hon
            simp only [Nat.zero_mul, Nat.add_zero] at f1 f2
            clear hcd hcl hdm hdw hon
            go_wp2_with fail
            have hdb : db < w4.heap.size := by omega
            have hlb : lb < w4.heap.size := by omega
            go_region_held3 (fun w' => (w'.cell? ⟨w.heap.size, 0, none⟩ = some (.int .i64 ow) ∧ w'.cell? ⟨w.heap.size, 1, none⟩ = some (.int .i64 ca) ∧ w'.cell? ⟨w.heap.size, 2, none⟩ = some (.slice A0 n0 c0)) ∧ w'.cell? ⟨db, doff, none⟩ = some (.int .u64 d))
              (first | go_keep | (go_split_ands; exact ⟨⟨s1, s2, s3⟩, s4⟩) | (go_split_ands; exact ⟨⟨(World.cell?_alloc_lt _ _ _ (show w.heap.size < _ by first | omega | (simp; omega))).trans s1, (World.cell?_alloc_lt _ _ _ (show w.heap.size < _ by first | omega | (simp; omega))).trans s2, (World.cell?_alloc_lt _ _ _ (show w.heap.size < _ by first | omega | (simp; omega))).trans s3⟩, (World.cell?_alloc_lt _ _ _ (show db < _ by first | omega | (simp; omega))).trans s4⟩) | (go_split_ands; exact ⟨⟨(World.cell?_setCell_other _ _ _ _ (fun e => by injection e with e1; omega)).trans ((World.cell?_setCell_other _ _ _ _ (fun e => by injection e with e1; omega)).trans s1), (World.cell?_setCell_other _ _ _ _ (fun e => by injection e with e1; omega)).trans ((World.cell?_setCell_other _ _ _ _ (fun e => by injection e with e1; omega)).trans s2), (World.cell?_setCell_other _ _ _ _ (fun e => by injection e with e1; omega)).trans ((World.cell?_setCell_other _ _ _ _ (fun e => by injection e with e1; omega)).trans s3)⟩, (World.cell?_setCell_other _ _ _ _ (fun e => by injection e with e1; omega)).trans ((World.cell?_setCell_other _ _ _ _ (fun e => by injection e with e1; omega)).trans s4)⟩) | fail)
              (first
                | (go_at_call 44; refine Calls.mono (One_any _ ow ca A0 n0 c0 xs ?_ hc0 d hd0 hd1 x1 x2 0 HONE.out) ?_; exact (X.below (B := w4.heap.size) (by repeat (first | exact Below.refl _ _ | assumption | (refine Below.drew ?_) | (refine Below.alloc ?_ (by first | omega | (simp; done) | (simp; omega)) _))) (by first | omega | (simp; done) | (simp; omega))).more (Nat.zero_le _) (by first | omega | (simp; done) | (simp; omega)); rintro e w5 ⟨rfl, hb5, hp5⟩; have hb6 : Below w4.heap.size w4 w5 := Below.trans (by repeat (first | exact Below.refl _ _ | assumption | (refine Below.drew ?_) | (refine Below.alloc ?_ (by first | omega | (simp; done) | (simp; omega)) _))) (hb5.mono (by first | omega | (simp; done) | (simp; omega))); have s1 := Below.keepCell hb6 (show w.heap.size < w4.heap.size by omega) k1; have s2 := Below.keepCell hb6 (show w.heap.size < w4.heap.size by omega) k2; have s3 := Below.keepCell hb6 (show w.heap.size < w4.heap.size by omega) k3; have s4 := Below.keepCell hb6 hdb g0; have hs5 := hb6.size; (try have hG := cells2 (Below.heapOf hb5 (by simp) (heap_newg w4.drew (.cells #[.int .i64 0, .int .i64 0] 29) w4.heap.size rfl))); (try obtain ⟨⟨z1, z2⟩, z3, z4⟩ := hG))
                | (go_at_call 44; fail))
            all_goals have hql := fun W => eqlD W x1 x2 x1 x2
            all_goals rw [show (x1 == x1 && x2 == x2) = true by simp] at hql
            all_goals have hgd := guardD
            · have G := cells2 (heap_newg w5 (.cells #[.int .i64 x1, .int .i64 x2] 29) _ rfl)
              obtain ⟨⟨z1, z2⟩, _⟩ := G
              have f3 : (w5.alloc (.cells #[.int .i64 x1, .int .i64 x2] 29)).cell? ⟨lb, loff, none⟩ = some (.int .i64 x1) := (World.cell?_alloc_lt _ _ _ (show lb < w5.heap.size by omega)).trans (Below.keepCell hb6 hlb f1)
              have f4 : (w5.alloc (.cells #[.int .i64 x1, .int .i64 x2] 29)).cell? ⟨lb, loff + 1, none⟩ = some (.int .i64 x2) := (World.cell?_alloc_lt _ _ _ (show lb < w5.heap.size by omega)).trans (Below.keepCell hb6 hlb f2)
              have hcf := (hc.trans (hb6.mono (by omega))).alloc (by omega) (.cells #[.int .i64 x1, .int .i64 x2] 29)
              generalize w5.alloc (.cells #[.int .i64 x1, .int .i64 x2] 29) = WW at z1 z2 f3 f4 hcf ⊢
              clear s1 s2 s3 s4 f1 f2 g0 k1 k2 k3 hb5 hb6
              go_wp2
              go_quiet (fail)
              go_wp2
              go_ret
              exact ⟨rfl, by first | exact below_drewN hcf _ | exact hcf⟩
            · have hG0 := Below.heapOf hb5 (by simp) (heap_newg w4.drew (.cells #[.int .i64 0, .int .i64 0] 29) w4.heap.size rfl)
              have G := cells2 (heap_set2 hG0 (.int .i64 x1) (.int .i64 x2))
              obtain ⟨⟨y1, y2⟩, _⟩ := G
              have f3 : ((w5.setCell ⟨w4.heap.size, 0, none⟩ (.int .i64 x1)).setCell ⟨w4.heap.size, 1, none⟩ (.int .i64 x2)).cell? ⟨lb, loff, none⟩ = some (.int .i64 x1) := (World.cell?_setCell_other _ _ _ _ (fun e => by injection e with e1; omega)).trans ((World.cell?_setCell_other _ _ _ _ (fun e => by injection e with e1; omega)).trans (Below.keepCell hb6 hlb f1))
              have f4 : ((w5.setCell ⟨w4.heap.size, 0, none⟩ (.int .i64 x1)).setCell ⟨w4.heap.size, 1, none⟩ (.int .i64 x2)).cell? ⟨lb, loff + 1, none⟩ = some (.int .i64 x2) := (World.cell?_setCell_other _ _ _ _ (fun e => by injection e with e1; omega)).trans ((World.cell?_setCell_other _ _ _ _ (fun e => by injection e with e1; omega)).trans (Below.keepCell hb6 hlb f2))
              have hcf := ((hc.trans (hb6.mono (by omega))).setCell (p := ⟨w4.heap.size, 0, none⟩) (by simp; omega) (.int .i64 x1)).setCell (p := ⟨w4.heap.size, 1, none⟩) (by simp; omega) (.int .i64 x2)
              generalize (w5.setCell ⟨w4.heap.size, 0, none⟩ (.int .i64 x1)).setCell ⟨w4.heap.size, 1, none⟩ (.int .i64 x2) = WW at y1 y2 f3 f4 hcf ⊢
              clear s1 s2 s3 s4 f1 f2 g0 k1 k2 k3 hb5 hb6 z1 z2 z3 z4 hG0
              go_wp2
              go_quiet (fail)
              go_wp2
              go_ret
              exact ⟨rfl, by first | exact below_drewN hcf _ | exact hcf⟩
        · have hz2 : (r != 0) = true := by simpa using hz
          have hz3 : (r == r) = true := by simp
          rw [someL, if_neg (by rw [HR2.out]; exact hz)] at M
          obtain rfl : n3 = 0 := by rw [← M.len]; rfl
          go_wp2
          go_ret
          exact ⟨rfl, hc⟩
  · have g64 : decide ((64 : Int) < m) = true := by simp; omega
    go_wp2
    go_ret
    exact ⟨rfl, hc⟩
theorem chooseBegins_row (w : World) (ow ca : Int) (_ : Rng (ow, ca)) (A0 : Option Addr) (n0 c0 : Nat) (xs : List (Int × Int)) (hX : Descs w 0 w.heap.size A0 n0 xs) (hc0 : n0 ≤ c0) (B : Option Addr) (m cB : Nat) (ds : List Int) (hD : Ints w 0 w.heap.size .u64 B m ds) (hcB : m ≤ cB) (kk : Int) (_ : (Lit.int .i64 kk).wf = true) :
    Calls Try.prog 17 #[.agg #[.int .i64 ow, .int .i64 ca, .slice A0 n0 c0], .slice B m cB, .int .i64 kk] w fun e w' => e = .returned (.bool true) ∧ Below w.heap.size w w' :=
  chooseBegins_any w ow ca A0 n0 c0 xs hX hc0 B m cB ds hD hcB kk
end De
end Go.Proofs.Ytpjomdkcckamkaa
