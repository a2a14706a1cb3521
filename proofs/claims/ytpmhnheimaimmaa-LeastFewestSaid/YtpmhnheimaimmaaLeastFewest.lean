/- The statement LeastFewest by a walk. -/
import Derived.Test.YtpmhnheimaimmaaLeastOrder
namespace Go.Proofs.Ytpmhnheimaimmaa
open Go.RowKit
namespace Least

/-- headcountlaw18.has. -/
theorem has_any (w : World) (lo hi : Nat) (A : Option Addr) (n c : Nat) (xs : List Int) (h : Ints w lo hi .u32 A n xs) (t : Int) (r : Bool) (hr : decide (t ∈ xs) = r) :
    Calls Try.prog 17 #[.slice A n c, .int .u32 t] w fun e w' => e = .returned (.bool r) ∧ w' = w := by
  have Hl := Lib.hid h.len
  have hbig := h.big
  have Hr := Lib.hid hr
  clear hr
  go_enter Try.func17, Try.ntmps17
  go_wp2
  go_loopw [5] (fun i wr => ∃ k : Nat, i = .int .i64 k ∧ k ≤ n ∧ Hid (t ∉ xs.take k) ∧ wr = w) (fun i _ => n - (intOf i).toNat)
  case atStart => exact ⟨0, rfl, by omega, by simp [Hid], rfl⟩
  case round =>
    obtain ⟨k, rfl, hk, hno, rfl⟩ := hrel
    by_cases hlt : k < n
    · obtain ⟨b, off, rfl, hcell⟩ := below_get h (by omega)
      have g1 : wr.cell? ⟨b, off + k, none⟩ = some (.int .u32 (xs[k]?.getD 0)) := hcell _ (by omega)
      clear hcell
      by_cases hx : xs[k]?.getD 0 = t
      · have hb : (xs[k]?.getD 0 == t) = true := by simp [hx]
        have Hf : Hid (r = true) := by
          rw [Hid, ← Hr.out]
          have hl := Hl.out
          have hg : xs[k]? = some xs[k] := List.getElem?_eq_getElem (by omega)
          rw [hg] at hx
          exact decide_eq_true (hx ▸ List.getElem_mem _)
        clear hx
        go_wp2
        go_ret
        exact ⟨ret_bool (by rw [Hf.out]), by trivial⟩
      · have hb : (xs[k]?.getD 0 == t) = false := by simp [hx]
        have HX := Lib.hid hx
        clear hx
        go_wp2
        go_roundw
        case rel =>
          refine ⟨k + 1, by go_num, by omega, ?_, by trivial⟩
          have h1 := hno.out
          have h2 := HX.out
          have hl := Hl.out
          rw [Hid, take_snoc xs k (by omega)]
          intro hm
          rcases List.mem_append.1 hm with hm | hm
          · exact h1 hm
          · exact h2 (List.mem_singleton.1 hm).symm
        case measure => simp [intOf]; omega
    · have Hf : Hid (r = false) := by
        rw [Hid, ← Hr.out]
        have h1 := hno.out
        have hl := Hl.out
        rw [List.take_of_length_le (by omega)] at h1
        exact decide_eq_false h1
      go_wp2
      go_ret
      exact ⟨ret_bool (by rw [Hf.out]), by trivial⟩

theorem own_ge {base : Nat} {e : TypeId} {size n : Nat} {v : Value} {xs : List Value} {w : World} (h : w.ownsRow base e size v n xs) : ∀ q, v.ownBlock = some q → base ≤ q := fun q hq => by
  rcases h.2 with ⟨hv, _⟩ | ⟨g, cap, cur, hv, hb, _⟩
  · rw [hv] at hq
    cases hq
  · rw [hv] at hq
    cases hq
    exact hb

theorem Fewest_long (w : World) (lo hi lo' hi' : Nat) (A : Option Addr) (n c : Nat) (xs : List Int) (h : Ints w lo hi .u32 A n xs) (B : Option Addr) (m d : Nat) (ys : List Int) (h2 : Ints w lo' hi' .u32 B m ys)
    (hl : 70 < n ∨ 70 < m) :
    Calls Try.prog 5 #[.slice A n c, .slice B m d] w fun e w' => e = .returned (.bool true) ∧ Below w.heap.size w w' := by
  have hbig := h.big
  have hbig2 := h2.big
  by_cases h1 : 70 < n
  · clear hl
    go_enter Try.func5, Try.ntmps5
    go_wp2_with fail
    refine (alive_any _).mono ?_
    rintro e w' ⟨rfl, hb⟩
    go_wp2
    go_ret
    exact ⟨rfl, hb⟩
  · have h3 := hl.resolve_left h1
    clear hl
    go_enter Try.func5, Try.ntmps5
    go_wp2_with fail
    refine (alive_any _).mono ?_
    rintro e w' ⟨rfl, hb⟩
    go_wp2
    go_ret
    exact ⟨rfl, hb⟩

/-- A list may not be. -/
theorem Fewest_bad (w : World) (lo hi lo' hi' : Nat) (A : Option Addr) (n c : Nat) (xs : List Int) (h : Ints w lo hi .u32 A n xs) (B : Option Addr) (m d : Nat) (ys : List Int) (h2 : Ints w lo' hi' .u32 B m ys)
    (hhi : hi ≤ w.heap.size) (hhi' : hi' ≤ w.heap.size) (hn : n ≤ 70) (hm : m ≤ 70) (code : Int) (hcode : (if checkCode xs = 0 then checkCode ys else checkCode xs) = code) (h0 : code ≠ 0) :
    Calls Try.prog 5 #[.slice A n c, .slice B m d] w fun e w' => e = .returned (.bool true) ∧ Below w.heap.size w w' := by
  have hbig := h.big
  have hbig2 := h2.big
  have hd : (code != 0) = true := by simpa using h0
  have HE := Lib.hid hcode
  have H0 := Lib.hid h0
  clear hcode h0
  go_enter Try.func5, Try.ntmps5
  go_wp2_with fail
  refine (alive_any _).mono ?_
  rintro e w1 ⟨rfl, hb⟩
  go_wp2_with fail
  refine (Join_bad _ _ _ _ _ _ _ _ xs (h.below hb hhi) _ _ _ ys (h2.below hb hhi') (Nat.le_trans hhi hb.size) (Nat.le_trans hhi' hb.size) code HE.out H0.out).mono ?_
  rintro e w2 ⟨rfl, hb2⟩
  go_wp2_with fail
  go_ret
  exact ⟨rfl, hb.trans (hb2.mono hb.size)⟩

set_option maxHeartbeats 1600000 in
/-- Both may be. -/
theorem Fewest_ok (w : World) (lo hi lo' hi' : Nat) (A : Option Addr) (n c : Nat) (xs : List Int) (h : Ints w lo hi .u32 A n xs) (B : Option Addr) (m d : Nat) (ys : List Int) (h2 : Ints w lo' hi' .u32 B m ys)
    (hh1 : hi ≤ w.heap.size) (hh2 : hi' ≤ w.heap.size) (hn : n ≤ 70) (hm : m ≤ 70) (hnc : n ≤ c) (hmd : m ≤ d) (e1 : checkCode xs = 0) (e2 : checkCode ys = 0) :
    Calls Try.prog 5 #[.slice A n c, .slice B m d] w fun e w' => e = .returned (.bool true) ∧ Below w.heap.size w w' := by
  have hbig := h.big
  have hbig2 := h2.big
  obtain ⟨i0, hi0, hz0, hz1, hz2⟩ := info_parts Try.info35
  have E1 := Lib.hid e1
  have E2 := Lib.hid e2
  obtain ⟨l, hl⟩ : ∃ l, joinN 8 xs ys = l := ⟨_, rfl⟩
  have Hl := Lib.hid hl
  have Cl : Hid (checkCode l = 0) := by rw [Hid, ← hl]; exact join_code e1 e2
  have l8 : l.length ≤ 8 := (checkCode_ok Cl.out).1
  have HM : Hid (∀ t, t ∈ l → t ∈ xs ∨ t ∈ ys) := fun t ht => by
    rw [← hl, joinN_all xs ys 8 (checkCode_ok e1).2 (checkCode_ok e2).2] at ht
    exact (all_mem xs ys t).1 (List.mem_of_mem_take ht)
  have HO : Hid (∀ t, t ∈ xs ++ ys → t ∉ l → l.length = 8 ∧ l[(7 : Nat)]?.getD 0 < t) := fun t ht hn => by
    rw [← hl] at hn ⊢
    exact join_out e1 e2 t (List.mem_append.1 ht) hn
  clear hl e1 e2
  go_enter Try.func5, Try.ntmps5
  go_wp2_with fail
  refine (alive_any _).mono ?_
  rintro e w1 ⟨rfl, hb⟩
  have hx := h.below hb hh1
  have hy := h2.below hb hh2
  have g1 := Nat.le_trans hh1 hb.size
  have g2 := Nat.le_trans hh2 hb.size
  clear h h2 hh1 hh2
  go_wp2_with fail
  refine (Join_kept _ _ _ _ _ _ _ _ xs hx _ _ _ ys hy hnc hmd E1.out E2.out g1 g2 l Hl.out).mono ?_
  rintro e w2 ⟨A1, n1, c1, rfl, hc1, b2, i1⟩
  have HL := Lib.hid i1.len
  have hn8 : n1 ≤ 8 := by rw [← i1.len]; exact l8
  clear l8
  have hx := hx.below b2 g1
  have hy := hy.below b2 g2
  have hb := hb.trans (b2.mono hb.size)
  have g1 := Nat.le_trans g1 b2.size
  have g2 := Nat.le_trans g2 b2.size
  clear b2
  go_wp2_with fail
  refine (Check_any _ _ _ _ _ _ l i1 0 Cl.out).mono ?_
  rintro e w3 ⟨rfl, m3, hw3⟩
  have hx := hx.drewN m3
  have hy := hy.drewN m3
  have i1 : Ints (w2.drewN m3) 0 (w2.drewN m3).heap.size .u32 A1 _ l := i1.drewN m3
  have g1 : hi ≤ (w2.drewN m3).heap.size := g1
  have g2 : hi' ≤ (w2.drewN m3).heap.size := g2
  have hb := below_drewN hb m3
  rw [← hw3] at hx hy i1 g1 g2 hb
  clear hw3
  go_wp2
  go_loopw [8] (fun i wr => ∃ k : Nat, i = .int .i64 k ∧ k ≤ n1 ∧ wr = w3) (fun i _ => n1 - (intOf i).toNat)
  case atStart => exact ⟨0, rfl, by omega, rfl⟩
  case round =>
    obtain ⟨k, rfl, hk, rfl⟩ := hrel
    by_cases hlt : k < n1
    · obtain ⟨b, off, rfl, hcell⟩ := below_get i1 (by omega)
      have g3 : wr.cell? ⟨b, off + k, none⟩ = some (.int .u32 (l[k]?.getD 0)) := hcell _ (by omega)
      have hm : l[k]?.getD 0 ∈ l := by rw [List.getElem?_eq_getElem (by rw [HL.out]; exact hlt)]; exact List.getElem_mem _
      clear hcell
      obtain ⟨t, ht⟩ : ∃ t, l[k]?.getD 0 = t := ⟨_, rfl⟩
      rw [ht] at g3 hm
      have HT := HM.out t hm
      clear ht hm
      by_cases ha : t ∈ xs
      · go_wp2_with fail
        refine (has_any _ _ _ _ _ _ _ hx t true (by simpa using ha)).mono ?_
        rintro e w4 ⟨rfl, rfl⟩
        go_wp2_with fail
        go_roundw
        case rel => exact ⟨k + 1, by go_num, by omega, by trivial⟩
        case measure => simp [intOf]; omega
      · have hc := HT.resolve_left ha
        go_wp2_with fail
        refine (has_any _ _ _ _ _ _ _ hx t false (by simpa using ha)).mono ?_
        rintro e w4 ⟨rfl, rfl⟩
        go_wp2_with fail
        refine (has_any _ _ _ _ _ _ _ hy t true (by simpa using hc)).mono ?_
        rintro e w4 ⟨rfl, rfl⟩
        go_wp2_with fail
        go_roundw
        case rel => exact ⟨k + 1, by go_num, by omega, by trivial⟩
        case measure => simp [intOf]; omega
    · go_wp2_with (first
        | (at_builtin; refine wpList_append_raw _ rfl (.tmp 66) (.tmp 67) 22 rfl wr.heap.size 35 i0 (.int .u32 0) 1 4 Try.underlying22 hi0 hz0 hz1 hz2 rfl (by decide) _ _ _ rfl (own_empty wr wr.heap.size _ 1 (Nat.le_refl _)) _ _ _ n _ _ rfl (hx.alloc g1 _).raw ?h1 ?h2 ?h3 ?h4 ?_))
      case h1 => exact ints_oneCell _ _
      case h2 => unfold maxLen; omega
      case h3 => omega
      case h4 => simp
      intro A2 c2 w4 hown hgrow _
      try simp only [Nat.zero_add, List.nil_append] at hown
      have hb4 : Below wr.heap.size wr w4 := ((Below.refl _ wr).alloc (Nat.le_refl _) _).grown hgrow (by simp) (fun q hq => by simp [Value.ownBlock] at hq; omega)
      clear hgrow
      go_wp2_with (first
        | (at_builtin; refine wpList_append_raw _ rfl (.tmp 68) (.tmp 69) 22 rfl wr.heap.size 35 i0 (.int .u32 0) 1 4 Try.underlying22 hi0 hz0 hz1 hz2 rfl (by decide) _ _ _ rfl hown _ _ _ m _ _ rfl (hy.below hb4 g2).raw ?k1 ?k2 ?k3 ?k4 ?_))
      case k1 => exact ints_oneCell _ _
      case k2 => unfold maxLen; omega
      case k3 => omega
      case k4 => exact hb4.size
      intro A3 c3 w5 hown5 hgrow5 _
      have hb5 : Below wr.heap.size wr w5 := hb4.grown hgrow5 hb4.size (own_ge hown)
      have hw5 : ∀ y ∈ xs ++ ys, IntKind.u32.min ≤ y ∧ y ≤ IntKind.u32.max := fun y hy' => by
        rcases List.mem_append.1 hy' with h' | h'
        · exact hx.wf y h'
        · exact hy.wf y h'
      rw [← List.map_append] at hown5
      have i5 : Ints w5 0 w5.heap.size .u32 A3 (n + m) (xs ++ ys) := (Ints.of_own hown5 hw5 (by omega)).more (Nat.zero_le _) (Nat.le_refl _)
      have i1 := (i1.below hb5 (Nat.le_refl _)).more (Nat.le_refl _) hb5.size
      have hb := hb.trans (hb5.mono hb.size)
      obtain ⟨zs, hzs⟩ : ∃ zs, xs ++ ys = zs := ⟨_, rfl⟩
      rw [hzs] at HO i5
      clear hown hown5 hgrow5 hb4 hb5 hw5 hzs hx hy g1 g2
      go_wp2
      go_loopw [10] (fun i wr => ∃ k : Nat, i = .int .i64 k ∧ k ≤ n + m ∧ ∃ q, wr = w5.drewN q) (fun i _ => n + m - (intOf i).toNat)
      case atStart => exact ⟨0, rfl, by omega, 0, rfl⟩
      case round =>
        obtain ⟨j, rfl, hj, q, hq⟩ := hrel
        have i5 := i5.drewN q
        have i1 : Ints (w5.drewN q) 0 (w5.drewN q).heap.size .u32 A1 _ l := i1.drewN q
        have hb := below_drewN hb q
        rw [← hq] at i5 i1 hb
        have HQ := Lib.hid hq
        clear hq
        by_cases hlt : j < n + m
        · obtain ⟨b, off, rfl, hcell⟩ := below_get i5 (by omega)
          have g3 : wr.cell? ⟨b, off + j, none⟩ = some (.int .u32 (zs[j]?.getD 0)) := hcell _ (by omega)
          have hm : zs[j]?.getD 0 ∈ zs := by rw [List.getElem?_eq_getElem (by rw [i5.len]; exact hlt)]; exact List.getElem_mem _
          clear hcell
          obtain ⟨t, ht⟩ : ∃ t, zs[j]?.getD 0 = t := ⟨_, rfl⟩
          rw [ht] at g3 hm
          have HT := HO.out t hm
          clear ht hm
          by_cases ha : t ∈ l
          · go_wp2_with fail
            go_quiet (first | (go_at_call 17; refine Calls.quiet_of_same (has_any _ _ _ _ _ _ _ (i1.drewN _) t true ?_); simpa using ha))
            go_wp2
            go_roundw
            case rel => exact ⟨j + 1, by go_num, by omega, q + nq, by rw [HQ.out]; simp⟩
            case measure => simp [intOf]; omega
          · obtain ⟨hl8, hlt7⟩ := HT ha
            obtain rfl : n1 = 8 := by rw [← HL.out]; exact hl8
            obtain ⟨b1, off1, rfl, hcell1⟩ := below_get i1 (by omega)
            have g4 : wr.cell? ⟨b1, off1 + 7, none⟩ = some (.int .u32 (l[(7 : Nat)]?.getD 0)) := hcell1 7 (by omega)
            have hd : decide (t < l[(7 : Nat)]?.getD 0) = false := decide_eq_false (by omega)
            obtain ⟨l7, hl7⟩ : ∃ x, l[(7 : Nat)]?.getD 0 = x := ⟨_, rfl⟩
            rw [hl7] at g4 hd hlt7
            clear hcell1 hl8 hl7
            go_wp2_with fail
            go_quiet (first | (go_at_call 17; refine Calls.quiet_of_same (has_any _ _ _ _ _ _ _ (i1.drewN _) t false ?_); simpa using ha))
            go_wp2
            go_roundw
            case rel => exact ⟨j + 1, by go_num, by omega, q + nq, by rw [HQ.out]; simp⟩
            case measure => simp [intOf]; omega
        · obtain ⟨g, hg⟩ : ∃ g, guessR l = g := ⟨_, rfl⟩
          have HG := Lib.hid hg
          clear hg
          go_wp2_with fail
          refine (Guess_any _ _ _ _ _ _ l i1 0 g Cl.out HG.out).mono ?_
          rintro e w6 ⟨rfl, m6, rfl⟩
          have hv : ∀ x ∈ l, 0 ≤ x ∧ x ≤ 4294967295 := fun x hx' => by
            have := i1.wf x hx'
            simpa [IntKind.min, IntKind.max, IntKind.signed, IntKind.bits] using this
          have hgs : guessS l = g := by
            have := HG.out
            rw [guessR, if_pos Cl.out] at this
            exact this
          by_cases h8 : n1 = 8
          · subst h8
            obtain ⟨b1, off1, rfl, hcell1⟩ := below_get i1 (by omega)
            have g4 : wr.cell? ⟨b1, off1 + 7, none⟩ = some (.int .u32 (l[(7 : Nat)]?.getD 0)) := hcell1 7 (by omega)
            have h7 := seventh Cl.out (by have := HL.out; omega) (fun x hx' => (hv x hx').1)
            have hg7 : 7 ≤ g := by
              have := guess_many Cl.out hv
              rw [hgs, HL.out] at this
              omega
            clear hcell1 hgs hv
            go_wp2
            go_ret
            exact ⟨rfl, below_drewN hb _⟩
          · have hg7 : g = (n1 : Int) := by
              rw [← hgs, guessS, if_pos (by have := HL.out; omega), HL.out]
            subst hg7
            have h9 : n1 ≤ 7 := by omega
            clear hgs hv
            go_wp2
            go_ret
            exact ⟨rfl, below_drewN hb _⟩
end Least
end Go.Proofs.Ytpmhnheimaimmaa
