/- The reference's caches: copies, whether two are the same; draws that are the same: walks. -/
import Derived.Test.YtpjomdkcckamkaaCaRef2
import Derived.Test.YtpjomdkcckamkaaDeTells
namespace Go.Proofs.Ytpjomdkcckamkaa
open Go.RowKit Go.Sort Go.Shelf
namespace De

set_option maxHeartbeats 800000 in
/-- headcountref08.Same. -/
theorem SameCR_any (w : World) (o1 p1 o2 p2 : Int) (lo hi lo' hi' : Nat) (A A' : Option Addr) (n c n' c' : Nat) (xs ys : List (Int × Int)) (hX : Descs w lo hi A n xs) (hY : Descs w lo' hi' A' n' ys) (hhi : hi ≤ w.heap.size) (hhi' : hi' ≤ w.heap.size) (r : Bool) (hr : sameC o1 p1 xs o2 p2 ys = r) :
    Calls Try.prog 42 #[.agg #[.int .i64 o1, .int .i64 p1, .slice A n c], .agg #[.int .i64 o2, .int .i64 p2, .slice A' n' c']] w fun e w' => e = .returned (.bool r) ∧ Below w.heap.size w w' := by
  have HR := Lib.hid hr
  have fin := ((Below.refl w.heap.size w).alloc (Nat.le_refl _) (.cells #[.int .i64 o1, .int .i64 p1, .slice A n c] 43)).alloc (by simp) (.cells #[.int .i64 o2, .int .i64 p2, .slice A' n' c'] 43)
  have hX2 := (hX.alloc hhi (.cells #[.int .i64 o1, .int .i64 p1, .slice A n c] 43)).alloc (by simp; omega) (.cells #[.int .i64 o2, .int .i64 p2, .slice A' n' c'] 43)
  have hY2 := (hY.alloc hhi' (.cells #[.int .i64 o1, .int .i64 p1, .slice A n c] 43)).alloc (by simp; omega) (.cells #[.int .i64 o2, .int .i64 p2, .slice A' n' c'] 43)
  clear hr
  by_cases h1 : o1 = o2
  · subst h1
    by_cases h2 : p1 = p2
    · subst h2
      have hs : Sm xs ys = r := by rw [← HR.out]; simp [sameC]
      have HS := Lib.hid hs
      clear hs
      go_enter Try.func42, Try.ntmps42
      go_wp2_with fail
      refine (SameRb _ _ _ _ _ A A' n c n' c' xs ys hX2 hY2 r HS.out).mono ?_
      rintro e w1 ⟨rfl, hb⟩
      have hf := fin.trans (hb.mono (by simp; omega))
      clear hb
      go_wp2
      go_ret
      exact ⟨rfl, hf⟩
    · have e : r = false := by rw [← HR.out]; simp [sameC, h2]
      subst e
      have h2' : (p1 == p2) = false := by simpa using h2
      go_enter Try.func42, Try.ntmps42
      go_wp2
      go_ret
      exact ⟨rfl, fin⟩
  · have e : r = false := by rw [← HR.out]; simp [sameC, h1]
    subst e
    have h1' : (o1 == o2) = false := by simpa using h1
    go_enter Try.func42, Try.ntmps42
    go_wp2
    go_ret
    exact ⟨rfl, fin⟩


set_option maxHeartbeats 800000 in
/-- headcountref08.Twin. -/
theorem TwinCR_any (w : World) (own cap : Int) (lo hi : Nat) (A : Option Addr) (n c : Nat) (xs : List (Int × Int)) (hX : Descs w lo hi A n xs) (hhi : hi ≤ w.heap.size) (hn : n ≤ 1000000) :
    Calls Try.prog 37 #[.agg #[.int .i64 own, .int .i64 cap, .slice A n c]] w fun e w' => ∃ A' c', e = .returned (.agg #[.int .i64 own, .int .i64 cap, .slice A' n c']) ∧ n ≤ c' ∧ Below w.heap.size w w' ∧ w.heap.size < w'.heap.size ∧ Descs w' (w.heap.size + 2) w'.heap.size A' n xs := by
  obtain ⟨i0, hi0, hz0, hz1, hz2⟩ := info_parts Try.info29
  have hxw := Lib.hid hX.wf
  have hbig := hX.big
  have hX2 := (hX.alloc hhi (.cells #[.int .i64 own, .int .i64 cap, .slice A n c] 43)).alloc (by simp; omega) (.cells #[.int .i64 0, .int .i64 0, .slice none 0 0] 43)
  go_enter Try.func37, Try.ntmps37
  go_wp2_with (first
    | (at_builtin; refine wpList_append_raw _ rfl (.tmp 3) (.tmp 5) 22 rfl (w.heap.size + 1 + 1) 29 i0 _ 2 16 Try.underlying22 hi0 hz0 hz1 hz2 rfl (by decide) _ _ _ rfl (own_new (heap_newg _ _ _ (by simp)) (by simp)) _ _ _ n _ _ rfl (hX2.alloc (by simp; omega) _).raw (flatD_one _) (by unfold maxLen; omega) (by omega) (by simp) ?_))
  intro A2 c2 w1 hown1 hgrow1 _
  have hb1 : Below ((w.alloc (.cells #[.int .i64 own, .int .i64 cap, .slice A n c] 43)).alloc (.cells #[.int .i64 0, .int .i64 0, .slice none 0 0] 43)).heap.size ((w.alloc (.cells #[.int .i64 own, .int .i64 cap, .slice A n c] 43)).alloc (.cells #[.int .i64 0, .int .i64 0, .slice none 0 0] 43)) w1 := ((Below.refl _ _).alloc (Nat.le_refl _) _).grown hgrow1 (by simp) (fun q hq => by simp [Value.ownBlock] at hq; simp; omega)
  have hc2 := own_cap hown1
  clear hgrow1
  (try simp at hown1)
  have hD := Descs.of_own hown1 hxw.out hbig
  obtain ⟨⟨k1, k2, k3⟩, hk, hs1, hbb⟩ := box33 hb1
  have hkf : w1.frozen? ⟨w.heap.size, 2, none⟩ = false := (hb1.frozen (p := ⟨w.heap.size, 2, none⟩) (by simp; omega)).trans (by simp [go_sem])
  obtain ⟨⟨p1, p2, p3⟩, p4, p5, p6⟩ := cells3 hk
  clear hb1 hown1 hk
  go_wp2
  refine bodyPost_ret (v := .agg #[.int .i64 own, .int .i64 cap, .slice A2 n c2]) (by simp [results, Try.results37, go_sem, p1, p2, p3]) rfl ⟨A2, c2, rfl, hc2, ?_, ?_, ?_⟩
  · repeat (refine Below.setCell ?_ (by simp; try omega) _)
    exact hbb
  · simp [World.setCell]
    omega
  · refine Descs.more (lo := w.heap.size + 2) (hi := w1.heap.size) ?_ (Nat.le_refl _) (by simp [World.setCell])
    repeat (refine Descs.far ?_ (by simp; try omega) _)
    exact hD

def SmI (a b : List Int) : Bool := a == b
theorem SmI_refl (a : List Int) : SmI a a = true := beq_self_eq_true _
theorem SmI_len {a b : List Int} (h : a.length ≠ b.length) : SmI a b = false := by
  unfold SmI
  rw [beq_eq_false_iff_ne]
  exact fun e => h (by rw [e])
theorem SmI_at {a b : List Int} {k : Nat} (h : a[k]?.getD 0 ≠ b[k]?.getD 0) : SmI a b = false := by
  unfold SmI
  rw [beq_eq_false_iff_ne]
  exact fun e => h (by rw [e])
theorem take_nextI {a b : List Int} {k : Nat} (h1 : k < a.length) (h2 : k < b.length) (h : a.take k = b.take k) (he : a[k]?.getD 0 = b[k]?.getD 0) : a.take (k + 1) = b.take (k + 1) := by
  rw [List.take_succ_eq_append_getElem h1, List.take_succ_eq_append_getElem h2, h]
  rw [List.getElem?_eq_getElem h1, List.getElem?_eq_getElem h2] at he
  simp only [Option.getD_some] at he
  rw [he]


set_option maxHeartbeats 800000 in
/-- headcountref09.SameDraws. -/
theorem SameDraws_any (w : World) (lo hi lo' hi' : Nat) (A A' : Option Addr) (n c n' c' : Nat) (xs ys : List Int) (hX : Ints w lo hi .u64 A n xs) (hY : Ints w lo' hi' .u64 A' n' ys) (r : Bool) (hr : SmI xs ys = r) :
    Calls Try.prog 53 #[.slice A n c, .slice A' n' c'] w fun e w' => e = .returned (.bool r) ∧ ∃ m, w' = w.drewN m := by
  have HR := Lib.hid hr
  have HX := Lib.hid hX.len
  have HY := Lib.hid hY.len
  have hbx := hX.big
  have hby := hY.big
  clear hr
  by_cases hnn : n = n'
  · subst hnn
    go_enter Try.func53, Try.ntmps53
    go_wp2
    go_loopw [5] (fun iv wr => ∃ k : Nat, iv = .int .i64 k ∧ k ≤ n ∧ Hid (xs.take k = ys.take k) ∧ ∃ m, wr = w.drewN m) (fun iv _ => n - (intOf iv).toNat)
    case atStart => exact ⟨0, rfl, Nat.zero_le _, rfl, 0, rfl⟩
    case round =>
      obtain ⟨k, rfl, hk, htk, m, rfl⟩ := hrel
      by_cases hlt : k < n
      · obtain ⟨b, off, rfl, _, _, hc⟩ := hX.row (by omega)
        obtain ⟨b', off', rfl, _, _, hc'⟩ := hY.row (by omega)
        have g1 := (hc k hlt).1
        have g2 := (hc' k hlt).1
        have hk0 : (0 : Int) ≤ k := by omega
        have hkn : (k : Int) < n := by omega
        have hnx : Hid (xs[k]?.getD 0 = ys[k]?.getD 0 → xs.take (k + 1) = ys.take (k + 1)) := fun he => take_nextI (by rw [HX.out]; exact hlt) (by rw [HY.out]; exact hlt) htk.out he
        have hno : Hid (xs[k]?.getD 0 ≠ ys[k]?.getD 0 → SmI xs ys = false) := fun he => SmI_at he
        clear hc hc'
        generalize xs[k]?.getD 0 = x at g1 hnx hno
        generalize ys[k]?.getD 0 = y at g2 hnx hno
        by_cases he : x = y
        · subst he
          have hn2 := Lib.hid (hnx.out rfl)
          have hne : (x != x) = false := by simp
          go_wp2
          go_quiet (fail)
          go_wp2
          go_roundw
          case rel => exact ⟨k + 1, by go_num, by omega, hn2, _, rfl⟩
          case measure => simp [intOf]; omega
        · have e2 : r = false := by rw [← HR.out]; exact hno.out he
          subst e2
          have hne : (x != y) = true := by simpa using he
          go_wp2
          go_quiet (fail)
          go_wp2
          go_ret
          exact ⟨rfl, _, World.drewN_drewN _ _ _⟩
      · obtain rfl : k = n := by omega
        have e2 : r = true := by
          rw [← HR.out]
          have := htk.out
          rw [List.take_of_length_le (by rw [HX.out]; exact Nat.le_refl _), List.take_of_length_le (by rw [HY.out]; exact Nat.le_refl _)] at this
          rw [this]
          exact SmI_refl _
        subst e2
        go_wp2
        go_ret
        exact ⟨rfl, m, rfl⟩
  · have e2 : r = false := by rw [← HR.out]; exact SmI_len (by rw [HX.out, HY.out]; exact hnn)
    subst e2
    have hne : ((n : Int) != n') = true := by simpa using (show ¬ (n : Int) = n' by omega)
    have hne2 : (n != n') = true := by simpa using hnn
    go_enter Try.func53, Try.ntmps53
    go_wp2
    go_ret
    exact ⟨rfl, 0, rfl⟩

end De
end Go.Proofs.Ytpjomdkcckamkaa
