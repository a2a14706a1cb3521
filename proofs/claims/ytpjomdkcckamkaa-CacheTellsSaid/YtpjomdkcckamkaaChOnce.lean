/- ChooseOnce: the walk. -/
import Derived.Test.YtpjomdkcckamkaaChBegins
namespace Go.Proofs.Ytpjomdkcckamkaa
open Go.RowKit Go.Sort Go.Shelf
namespace De
theorem mayC_apt {own cap : Int} {xs : List D} (h : mayC own cap xs = true) : Apt xs := by
  have h1 := ((mayC_iff _ _ _).1 h).bst
  have h2 := (best_is (others own xs)).apart
  rwa [h1] at h2
theorem apt_ne {l : List D} (h : Apt l) {i k : Nat} (hi : i < l.length) (hk : k < i) : ((l[i]?.getD (0, 0)).1 == (l[k]?.getD (0, 0)).1) = false := by
  rw [List.getElem?_eq_getElem hi, List.getElem?_eq_getElem (by omega)]
  simp only [Option.getD_some, beq_eq_false_iff_ne]
  unfold Apt at h
  rw [List.pairwise_iff_getElem] at h
  exact (h k i (by omega) hi hk).symm
theorem gr_drew {a b : World} {q : Nat} (h : b = a.drewN q) : Below a.heap.size a b := by rw [h]; exact below_of_drewN _ _ _

set_option maxHeartbeats 3200000 in
set_option maxRecDepth 100000 in
theorem chooseOnce_any (w : World) (ow ca : Int) (A0 : Option Addr) (n0 c0 : Nat) (xs : List (Int × Int)) (hX : Descs w 0 w.heap.size A0 n0 xs) (hc0 : n0 ≤ c0) (B : Option Addr) (m cB : Nat) (ds : List Int) (hD : Ints w 0 w.heap.size .u64 B m ds) :
    Calls Try.prog 16 #[.agg #[.int .i64 ow, .int .i64 ca, .slice A0 n0 c0], .slice B m cB] w fun e w' => e = .returned (.bool true) ∧ Below w.heap.size w w' := by
  have hLX := Lib.hid hX.len
  have hLD := Lib.hid hD.len
  have hbx := hX.big
  have hbd := hD.big
  have hwd := Lib.hid hD.wf
  obtain ⟨u, hu⟩ : ∃ u : World, w.alloc (.cells #[.int .i64 ow, .int .i64 ca, .slice A0 n0 c0] 43) = u := ⟨_, rfl⟩
  have hbu : Below w.heap.size w u := by rw [← hu]; exact (Below.refl _ w).alloc (Nat.le_refl _) _
  have hsu : w.heap.size + 1 ≤ u.heap.size := by rw [← hu]; simp
  have hC : u.heap[w.heap.size]? = some (.cells #[.int .i64 ow, .int .i64 ca, .slice A0 n0 c0] 43 (0, 0)) := by rw [← hu]; exact heap_newg _ _ _ rfl
  have hal := aliveH_p u
  have hHU := Lib.hid hu
  have mixed : Try.prog.follows .mixedOrders = true := by kernel_rfl
  clear hu
  go_enter Try.func16, Try.ntmps16
  go_wp2_with fail
  rw [hHU.out]
  refine hal.mono ?_
  rintro e w1 ⟨rfl, hb, hp1⟩
  have hs1 := hb.size
  have C := Below.heapOf hb (by omega) hC
  have hc := hbu.trans (hb.mono (by omega))
  have X := hX.below hc (Nat.le_refl _)
  have E := hD.below hc (Nat.le_refl _)
  clear hb hX hC hbu hal hHU hD
  obtain ⟨⟨k1, k2, k3⟩, _⟩ := cells3 C
  by_cases hm64 : m ≤ 64
  · have g64 : decide ((64 : Int) < m) = false := by simp; omega
    obtain ⟨r, hr⟩ : ∃ r, someC ow ca xs ds = r := ⟨_, rfl⟩
    have HR := Lib.hid hr
    clear hr
    go_wp2_with fail
    refine (Some_any _ ow ca A0 n0 c0 xs (X.more (by omega) (by omega)) hc0 B m cB ds (E.more (by omega) (by omega)) r HR.out).mono ?_
    rintro e w2 ⟨A2, n2, c2, r2, rfl, hc2, hb, hr2, hr2', L⟩
    have hs2 := hb.size
    have C := Below.heapOf hb (by omega) C
    have hc := hc.trans (hb.mono (by omega))
    have X := X.below hb (by omega)
    have E := E.below hb (by omega)
    clear hb k1 k2 k3
    obtain ⟨⟨k1, k2, k3⟩, _⟩ := cells3 C
    by_cases hz : r = 0
    · subst hz
      rw [someL, if_pos HR.out] at L
      have hM := (some_zero HR.out).1
      have hA := mayC_apt hM
      have hAc := Lib.hid (chs_apt ds xs hA)
      have h6 : n0 ≤ 6 := by rw [← hLX.out]; exact (may_six ((mayC_iff _ _ _).1 hM)).1
      have hLL := Lib.hid L.len
      have hmn : min (m : Int) n0 = n2 := by
        have := hLL.out
        rw [chs_len, hLD.out, hLX.out] at this
        omega
      have hne : ((n2 : Int) != n2) = false := by simp
      have hn2 : n2 ≤ n0 ∧ n2 ≤ m := by omega
      obtain ⟨es, d1, d2, d3, d4⟩ := drw_chs ds xs hA (fun d hd => by
        have := (hwd.out d hd).1
        simpa [IntKind.min, IntKind.signed] using this)
      rw [hLL.out] at d3
      rw [hLX.out] at d4
      have hdc : Hid (drawsC ow ca xs (chs xs ds) = 0) := by rw [Hid, drawsC, if_pos hM, d1]; rfl
      have hdl : Hid (drawsL ow ca xs (chs xs ds) = es) := by rw [Hid, drawsL, if_pos hM, d1]; rfl
      have hsc : Hid (someC ow ca xs es = 0) := by rw [Hid, someC, if_pos hM, if_neg (by omega)]
      have hsl : Hid (someL ow ca xs es = chs xs ds) := by rw [Hid, someL, if_pos hsc.out, d2]
      have HD4 := Lib.hid d4
      have HEL := Lib.hid d3
      clear hM hA d1 d2 d3 d4
      go_wp2_with fail
      go_loopw [8] (fun iv wr => ∃ i q : Nat, iv = .int .i64 i ∧ i ≤ n2 ∧ wr = w2.drewN q) (fun iv _ => n2 - (intOf iv).toNat)
      case atStart => exact ⟨0, 0, rfl, Nat.zero_le _, rfl⟩
      case round =>
        obtain ⟨i, q, rfl, hi, rfl⟩ := hrel
        by_cases hlt : i < n2
        · have hiN : (i : Int) < n2 := by omega
          have hi0 : (0 : Int) ≤ i := by omega
          go_wp2_with fail
          go_loopw [9] (fun kv wr => ∃ k q : Nat, kv = .int .i64 k ∧ k ≤ i ∧ wr = w2.drewN q) (fun kv _ => i - (intOf kv).toNat)
          case atStart => exact ⟨0, q, rfl, Nat.zero_le _, rfl⟩
          case round =>
            obtain ⟨k, q', rfl, hk, rfl⟩ := hrel
            by_cases hki : k < i
            · obtain ⟨lb, loff, rfl, hlb1, hlb2, hcl⟩ := L.row (by omega)
              obtain ⟨⟨f1, _⟩, f2, _⟩ := hcl i hlt
              obtain ⟨⟨f3, _⟩, f4, _⟩ := hcl k (by omega)
              have hid := apt_ne hAc.out (by rw [hLL.out]; exact hlt) hki
              generalize (chs xs ds)[i]?.getD (0, 0) = x at f1 f2 hid
              generalize (chs xs ds)[k]?.getD (0, 0) = y at f3 f4 hid
              have hkN : (k : Int) < n2 := by omega
              have hk0 : (0 : Int) ≤ k := by omega
              clear hcl
              go_wp2
              go_quiet (fail)
              go_wp2
              go_roundw
              case rel => exact ⟨k + 1, _, by go_num, by omega, by first | rfl | exact World.drewN_drewN _ _ _⟩
              case measure => simp [intOf]; omega
            · obtain rfl : k = i := by omega
              go_wp2
              go_roundw
              case rel => exact ⟨k + 1, q', by go_num, by omega, rfl⟩
              case measure => simp [intOf]; omega
        · obtain rfl : i = n2 := by omega
          obtain ⟨w3, hw3⟩ : ∃ w3, w2.drewN q = w3 := ⟨_, rfl⟩
          have hs3 : w2.heap.size ≤ w3.heap.size := by rw [← hw3]; exact Nat.le_refl _
          have hs3' : w3.heap.size ≤ w2.heap.size := by rw [← hw3]; exact Nat.le_refl _
          have C : w3.heap[w.heap.size]? = some (.cells #[.int .i64 ow, .int .i64 ca, .slice A0 n0 c0] 43 (0, 0)) := by rw [← hw3]; exact C
          have hc : Below w.heap.size w w3 := by rw [← hw3]; exact below_drewN hc q
          have X : Descs w3 0 w.heap.size A0 n0 xs := by rw [← hw3]; exact X.drewN q
          have E : Ints w3 0 w.heap.size .u64 B m ds := by rw [← hw3]; exact E.drewN q
          have L : Descs w3 r2 (r2 + 1) A2 i (chs xs ds) := by rw [← hw3]; exact L.drewN q
          rw [hw3]
          clear hw3 k1 k2 k3
          obtain ⟨⟨k1, k2, k3⟩, _⟩ := cells3 C
          go_wp2_with fail
          refine (Draws_any _ ow ca A0 n0 c0 xs (X.more (by omega) (by omega)) hc0 A2 i c2 _ (L.more (by omega) (by omega)) 0 hdc.out).mono ?_
          rintro e w4 ⟨A4, n4, c4, rfl, hc4, hb, hp4, I⟩
          rw [hdl.out] at I
          obtain rfl : n4 = i := by rw [← I.len]; exact HEL.out
          have hs4 := hb.size
          have C := Below.heapOf hb (by omega) C
          have hc := hc.trans (hb.mono (by omega))
          have X := X.below hb (by omega)
          have E := E.below hb (by omega)
          have L := L.below hb (by omega)
          clear hb k1 k2 k3
          obtain ⟨⟨k1, k2, k3⟩, _⟩ := cells3 C
          go_wp2_with fail
          refine (Some_any _ ow ca A0 n0 c0 xs (X.more (by omega) (by omega)) hc0 A4 n4 c4 es (I.more (by omega) (by omega)) 0 hsc.out).mono ?_
          rintro e w5 ⟨A5, n5, c5, r5, rfl, hc5, hb, hr5, hr5', M⟩
          rw [hsl.out] at M
          have hs5 := hb.size
          have C := Below.heapOf hb (by omega) C
          have hc := hc.trans (hb.mono (by omega))
          have E := E.below hb (by omega)
          have L := L.below hb (by omega)
          have I := I.below hb (by omega)
          clear hb k1 k2 k3 X
          go_wp2_with fail
          refine (Same_b _ _ _ _ _ A5 A2 n5 c5 n4 c2 _ _ M L true (Sm_refl _)).mono ?_
          rintro e w6 ⟨rfl, hb⟩
          have hs6 := hb.size
          have C := Below.heapOf hb (by omega) C
          have hc := hc.trans (hb.mono (by omega))
          have E := E.below hb (by omega)
          have I := I.below hb (by omega)
          clear hb M L
          obtain ⟨⟨k1, k2, k3⟩, _⟩ := cells3 C
          have hne4 : ((n4 : Int) != n4) = false := by simp
          go_wp2_with fail
          go_loopw [14] (fun iv wr => ∃ j q : Nat, iv = .int .i64 j ∧ j ≤ n4 ∧ wr = w6.drewN q) (fun iv _ => n4 - (intOf iv).toNat)
          case atStart => exact ⟨0, 0, rfl, Nat.zero_le _, rfl⟩
          case round =>
            obtain ⟨j, q', rfl, hj, rfl⟩ := hrel
            by_cases hjn : j < n4
            · obtain ⟨eb, eoff, rfl, he1, he2, hce⟩ := I.row (by omega)
              obtain ⟨db, doff, rfl, hd1, hd2, hcd⟩ := E.row (by omega)
              have f1 := (hce j hjn).1
              have f2 := (hcd j (by omega)).1
              obtain ⟨y0, y1, y2⟩ := HD4.out j (by rw [HEL.out]; exact hjn)
              generalize es[j]?.getD 0 = x at f1 y0 y1 y2
              generalize ds[j]?.getD 0 = d at f2 y1
              have z1 : decide (d < x) = false := by simpa using y1
              have z2 : decide ((n0 : Int) - j ≤ x) = false := by simpa using y2
              have z3 : IntKind.i64.wrap ((n0 : Int) - j) = (n0 : Int) - j := IntWalk.i64_in _ (by omega)
              have z4 : (0 : Int) ≤ (n0 : Int) - j := by omega
              have hjN : (j : Int) < n4 := by omega
              have hj0 : (0 : Int) ≤ j := by omega
              have hjm : (j : Int) < m := by omega
              clear hce hcd
              go_wp2
              go_quiet (fail)
              go_wp2
              go_roundw
              case rel => exact ⟨j + 1, _, by go_num, by omega, by first | rfl | exact World.drewN_drewN _ _ _⟩
              case measure => simp [intOf]; omega
            · go_wp2
              go_ret
              exact ⟨rfl, below_drewN hc _⟩
    · have hz2 : (r != 0) = true := by simpa using hz
      rw [someL, if_neg (by rw [HR.out]; exact hz)] at L
      obtain rfl : n2 = 0 := by rw [← L.len]; rfl
      go_wp2
      go_ret
      exact ⟨rfl, hc⟩
  · have g64 : decide ((64 : Int) < m) = true := by simp; omega
    go_wp2
    go_ret
    exact ⟨rfl, hc⟩
theorem chooseOnce_row (w : World) (ow ca : Int) (_ : Rng (ow, ca)) (A0 : Option Addr) (n0 c0 : Nat) (xs : List (Int × Int)) (hX : Descs w 0 w.heap.size A0 n0 xs) (hc0 : n0 ≤ c0) (B : Option Addr) (m cB : Nat) (ds : List Int) (hD : Ints w 0 w.heap.size .u64 B m ds) (_ : m ≤ cB) :
    Calls Try.prog 16 #[.agg #[.int .i64 ow, .int .i64 ca, .slice A0 n0 c0], .slice B m cB] w fun e w' => e = .returned (.bool true) ∧ Below w.heap.size w w' :=
  chooseOnce_any w ow ca A0 n0 c0 xs hX hc0 B m cB ds hD
end De
end Go.Proofs.Ytpjomdkcckamkaa
