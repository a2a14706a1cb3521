/- Dyads: copies; the reference's: whether they are great, the same, copies: walks. -/
import Derived.Test.YtlbkepiflhchdaaDoorPaWalks1
namespace Go.Proofs.YtlbkepiflhchdaaDoor
open Go.RowKit
namespace Pa
/-- The cells of a box of three behind a callee. -/
theorem boxP3 {w : World} {g : Nat} {x y z : Value} {t : TypeId} (h : w.heap[g]? = some (.cells #[x, y, z] t (0, 0))) :
    (w.cell? ⟨g, 0, none⟩ = some x ∧ w.cell? ⟨g, 1, none⟩ = some y ∧ w.cell? ⟨g, 2, none⟩ = some z) ∧ (w.frozen? ⟨g, 0, none⟩ = false ∧ w.frozen? ⟨g, 1, none⟩ = false ∧ w.frozen? ⟨g, 2, none⟩ = false) :=
  ⟨⟨cell_of_row w g 0 _ t _ h, cell_of_row w g 1 _ t _ h, cell_of_row w g 2 _ t _ h⟩, frozen_of_row w g 0 _ t h, frozen_of_row w g 1 _ t h, frozen_of_row w g 2 _ t h⟩
theorem heapKeep {base g : Nat} {w w' : World} {x} (hb : Below base w w') (hg : g < base) (h : w.heap[g]? = some x) : w'.heap[g]? = some x := (hb.block _ hg).trans h
theorem heapAll {g : Nat} {w : World} {x} (o) (h : w.heap[g]? = some x) : (w.alloc o).heap[g]? = some x := (Below.heap_alloc _ _ _ (lt_of_heapP h)).trans h
theorem ints_far {w : World} {lo hi : Nat} {k : IntKind} {A : Option Addr} {n : Nat} {xs : List Int} (h : Ints w lo hi k A n xs) {p : Addr} (hp : p.block < lo ∨ hi ≤ p.block) (u : Value) : Ints (w.setCell p u) lo hi k A n xs :=
  ⟨h.len, h.wf, h.big, fun hn => by
    obtain ⟨b, off, e, h1, h2, hc⟩ := h.row hn
    exact ⟨b, off, e, h1, h2, fun j hj => ⟨(World.cell?_setCell_other w p _ u (fun e => by subst e; simp at hp; omega)).trans (hc j hj).1, (World.frozen?_setCell ..).trans (hc j hj).2⟩⟩⟩

set_option maxHeartbeats 1600000 in
/-- dyad.Twin. -/
theorem dyadTwin_any (w : World) (s : Bool) (A : Option Addr) (n c : Nat) (xs : List Int) (e : Int) (hX : Ints w 0 w.heap.size .u32 A n xs) (hn : n ≤ 1000000) :
    Calls Tryd.prog 87 #[.agg #[.bool s, .slice A n c, .int .i64 e]] w fun r w' => ∃ A' c', r = .returned (.agg #[.bool s, .slice A' n c', .int .i64 e]) ∧ n ≤ c' ∧ Below w.heap.size w w' ∧ w.heap.size < w'.heap.size ∧ Ints w' (w.heap.size + 2) w'.heap.size .u32 A' n xs := by
  have hxw := Lib.hid hX.wf
  have hbig := hX.big
  have hX2 := (hX.alloc (Nat.le_refl _) (.cells #[.bool s, .slice A n c, .int .i64 e] 24)).alloc (by simp) (.cells #[.bool false, .slice none 0 0, .int .i64 0] 24)
  go_enter Tryd.func87, Tryd.ntmps87
  go_wp2_with fail
  refine (Clone_any _ _ _ A n c xs hX2 (by simp; omega) hn).mono ?_
  rintro e w1 ⟨A2, c2, rfl, hc2, hb1, hown1⟩
  (try simp at hown1)
  have hD := Ints.of_own hown1 hxw.out hbig
  have hs1 := hb1.size
  simp at hs1
  have G1 := heapKeep hb1 (by simp; omega) (heapAll (.cells #[.bool false, .slice none 0 0, .int .i64 0] 24) (heap_newP w (.cells #[.bool s, .slice A n c, .int .i64 e] 24) _ rfl))
  have G2 := heapKeep hb1 (by simp) (heap_newP (w.alloc (.cells #[.bool s, .slice A n c, .int .i64 e] 24)) (.cells #[.bool false, .slice none 0 0, .int .i64 0] 24) (w.heap.size + 1) (by simp))
  obtain ⟨⟨k1, k2, k3⟩, k4, k5, k6⟩ := boxP3 G1
  obtain ⟨⟨p1, p2, p3⟩, p4, p5, p6⟩ := boxP3 G2
  have hbb := (((Below.refl w.heap.size w).alloc (Nat.le_refl _) (.cells #[.bool s, .slice A n c, .int .i64 e] 24)).alloc (by simp) (.cells #[.bool false, .slice none 0 0, .int .i64 0] 24)).trans (hb1.mono (by simp; omega))
  clear hb1 hown1 G1 G2
  go_wp2
  refine bodyPost_ret (v := .agg #[.bool s, .slice A2 n c2, .int .i64 e]) (by simp [results, Tryd.results87, go_sem, p1, p2, p3]) rfl ⟨A2, c2, rfl, hc2, ?_, ?_, ?_⟩
  · repeat (refine Below.setCell ?_ (by simp; try omega) _)
    exact hbb
  · simp [World.setCell]
    omega
  · refine Ints.more (lo := w.heap.size + 2) (hi := w1.heap.size) ?_ (Nat.le_refl _) (by simp [World.setCell])
    repeat (refine ints_far ?_ (by simp; try omega) _)
    exact hD

theorem own_emptyg (w : World) (g base : Nat) (e : TypeId) (size : Nat) (hg : g = w.heap.size) (h : base ≤ w.heap.size) : (w.alloc (.cells #[] e)).ownsRow base e size (.slice (some ⟨g, 0, none⟩) 0 0) 0 [] := by
  subst hg
  exact own_empty w base e size h
set_option maxHeartbeats 1600000 in
/-- headcountref02.Twin. -/
theorem rTwin_any (w : World) (s : Bool) (A : Option Addr) (n c : Nat) (xs : List Int) (e : Int) (hX : Ints w 0 w.heap.size .u32 A n xs) (hn : n ≤ 1000000) :
    Calls Tryd.prog 19 #[.agg #[.bool s, .slice A n c, .int .i64 e]] w fun r w' => ∃ A' c', r = .returned (.agg #[.bool s, .slice A' n c', .int .i64 e]) ∧ n ≤ c' ∧ Below w.heap.size w w' ∧ w.heap.size < w'.heap.size ∧ Ints w' (w.heap.size + 2) w'.heap.size .u32 A' n xs := by
  have hxw := Lib.hid hX.wf
  have hbig := hX.big
  have hX2 := (hX.alloc (Nat.le_refl _) (.cells #[.bool s, .slice A n c, .int .i64 e] 24)).alloc (by simp) (.cells #[.bool false, .slice none 0 0, .int .i64 0] 24)
  obtain ⟨i0, hi0, hz0, hz1, hz2⟩ := info_parts infoU32
  go_enter Tryd.func19, Tryd.ntmps19
  go_wp2_with (first
    | (at_builtin; refine wpList_append_raw _ rfl (.tmp 3) (.tmp 5) 22 rfl (w.heap.size + 1 + 1) 52 i0 _ 1 4 Tryd.underlying22 hi0 hz0 hz1 hz2 rfl (by decide) _ _ _ rfl (own_emptyg _ _ _ _ 1 (by simp) (by simp)) _ _ _ n _ _ rfl (hX2.alloc (by simp; omega) _).raw ?c1 ?c2 ?c3 ?c4 ?_))
  case c1 => exact u32_one _
  case c2 => unfold maxLen; omega
  case c3 => omega
  case c4 => simp
  intro A2 c2 w1 hown1 hgrow1 _
  have hb1 : Below ((w.alloc (.cells #[.bool s, .slice A n c, .int .i64 e] 24)).alloc (.cells #[.bool false, .slice none 0 0, .int .i64 0] 24)).heap.size ((w.alloc (.cells #[.bool s, .slice A n c, .int .i64 e] 24)).alloc (.cells #[.bool false, .slice none 0 0, .int .i64 0] 24)) w1 := ((Below.refl _ _).alloc (Nat.le_refl _) _).grown hgrow1 (by simp) (fun q hq => by simp [Value.ownBlock] at hq; simp; omega)
  have hc2 := own_cap hown1
  clear hgrow1
  (try simp at hown1)
  have hD := Ints.of_own hown1 hxw.out hbig
  have hs1 := hb1.size
  simp at hs1
  have G1 := heapKeep hb1 (by simp; omega) (heapAll (.cells #[.bool false, .slice none 0 0, .int .i64 0] 24) (heap_newP w (.cells #[.bool s, .slice A n c, .int .i64 e] 24) _ rfl))
  have G2 := heapKeep hb1 (by simp) (heap_newP (w.alloc (.cells #[.bool s, .slice A n c, .int .i64 e] 24)) (.cells #[.bool false, .slice none 0 0, .int .i64 0] 24) (w.heap.size + 1) (by simp))
  obtain ⟨⟨k1, k2, k3⟩, k4, k5, k6⟩ := boxP3 G1
  obtain ⟨⟨p1, p2, p3⟩, p4, p5, p6⟩ := boxP3 G2
  have hbb := (((Below.refl w.heap.size w).alloc (Nat.le_refl _) (.cells #[.bool s, .slice A n c, .int .i64 e] 24)).alloc (by simp) (.cells #[.bool false, .slice none 0 0, .int .i64 0] 24)).trans (hb1.mono (by simp; omega))
  clear hb1 hown1 G1 G2
  go_wp2
  refine bodyPost_ret (v := .agg #[.bool s, .slice A2 n c2, .int .i64 e]) (by simp [results, Tryd.results19, go_sem, p1, p2, p3]) rfl ⟨A2, c2, rfl, hc2, ?_, ?_, ?_⟩
  · repeat (refine Below.setCell ?_ (by simp; try omega) _)
    exact hbb
  · simp [World.setCell]
    omega
  · refine Ints.more (lo := w.heap.size + 2) (hi := w1.heap.size) ?_ (Nat.le_refl _) (by simp [World.setCell])
    repeat (refine ints_far ?_ (by simp; try omega) _)
    exact hD

set_option maxHeartbeats 800000 in
/-- headcountref01.Same. -/
theorem r1Same_any (w : World) (lo hi lo' hi' : Nat) (A A' : Option Addr) (n c n' c' : Nat) (xs ys : List Int) (hX : Ints w lo hi .u32 A n xs) (hY : Ints w lo' hi' .u32 A' n' ys) (r : Bool) (hr : Sm xs ys = r) :
    Calls Tryd.prog 72 #[.slice A n c, .slice A' n' c'] w fun e w' => e = .returned (.bool r) ∧ ∃ m, w' = w.drewN m := by
  have HR := Lib.hid hr
  have HX := Lib.hid hX.len
  have HY := Lib.hid hY.len
  have hbx := hX.big
  have hby := hY.big
  clear hr
  by_cases hnn : n = n'
  · subst hnn
    go_enter Tryd.func72, Tryd.ntmps72
    go_wp2
    go_loopw [5] (fun iv wr => ∃ k : Nat, iv = .int .i64 k ∧ k ≤ n ∧ Hid (xs.take k = ys.take k) ∧ ∃ m, wr = w.drewN m) (fun iv _ => n - (intOf iv).toNat)
    case atStart => exact ⟨0, rfl, Nat.zero_le _, rfl, 0, rfl⟩
    case round =>
      obtain ⟨k, rfl, hk, htk, m, rfl⟩ := hrel
      by_cases hlt : k < n
      · obtain ⟨b, off, rfl, _, _, hc⟩ := hX.row (by omega)
        obtain ⟨b', off', rfl, _, _, hc'⟩ := hY.row (by omega)
        have g1 := (hc k hlt).1
        have g2 := (hc' k hlt).1
        have hk0 : (0 : Int) ≤ k := by omega
        have hkn : (k : Int) < n := by omega
        have hnx : Hid (xs[k]?.getD 0 = ys[k]?.getD 0 → xs.take (k + 1) = ys.take (k + 1)) := fun he => take_next (by rw [HX.out]; exact hlt) (by rw [HY.out]; exact hlt) htk.out he
        have hno : Hid (xs[k]?.getD 0 ≠ ys[k]?.getD 0 → Sm xs ys = false) := fun he => Sm_at he
        clear hc hc'
        generalize xs[k]?.getD 0 = x at g1 hnx hno
        generalize ys[k]?.getD 0 = y at g2 hnx hno
        by_cases he : x = y
        · subst he
          have hn2 := Lib.hid (hnx.out rfl)
          have hne : (x != x) = false := by simp
          go_wp2
          go_quiet (fail)
          go_wp2
          go_roundw
          case rel => exact ⟨k + 1, by go_num, by omega, hn2, _, rfl⟩
          case measure => simp [intOf]; omega
        · have e2 : r = false := by rw [← HR.out]; exact hno.out he
          subst e2
          have hne : (x != y) = true := by simpa using he
          go_wp2
          go_quiet (fail)
          go_wp2
          go_ret
          exact ⟨rfl, _, drewN_add ..⟩
      · obtain rfl : k = n := by omega
        have e2 : r = true := by
          rw [← HR.out]
          have := htk.out
          rw [List.take_of_length_le (by rw [HX.out]; exact Nat.le_refl _), List.take_of_length_le (by rw [HY.out]; exact Nat.le_refl _)] at this
          rw [this]
          exact Sm_refl _
        subst e2
        go_wp2
        go_ret
        exact ⟨rfl, m, rfl⟩
  · have e2 : r = false := by rw [← HR.out]; exact Sm_len (by rw [HX.out, HY.out]; exact hnn)
    subst e2
    have hne : ((n : Int) != n') = true := by simpa using (show ¬ (n : Int) = n' by omega)
    have hne2 : (n != n') = true := by simpa using hnn
    go_enter Tryd.func72, Tryd.ntmps72
    go_wp2
    go_ret
    exact ⟨rfl, 0, rfl⟩

set_option maxHeartbeats 1600000 in
/-- headcountref02.Same. -/
theorem rSame_any (w : World) (s s' : Bool) (A A' : Option Addr) (n c n' c' : Nat) (xs ys : List Int) (e e' : Int) (hX : Ints w 0 w.heap.size .u32 A n xs) (hY : Ints w 0 w.heap.size .u32 A' n' ys) (r : Bool) (hr : Dy.same ⟨s, xs, e⟩ ⟨s', ys, e'⟩ = r) :
    Calls Tryd.prog 26 #[.agg #[.bool s, .slice A n c, .int .i64 e], .agg #[.bool s', .slice A' n' c', .int .i64 e']] w fun e w' => e = .returned (.bool r) ∧ Below w.heap.size w w' := by
  have fin := ((Below.refl w.heap.size w).alloc (Nat.le_refl _) (.cells #[.bool s, .slice A n c, .int .i64 e] 24)).alloc (by simp) (.cells #[.bool s', .slice A' n' c', .int .i64 e'] 24)
  have hX2 := (hX.alloc (Nat.le_refl _) (.cells #[.bool s, .slice A n c, .int .i64 e] 24)).alloc (by simp) (.cells #[.bool s', .slice A' n' c', .int .i64 e'] 24)
  have hY2 := (hY.alloc (Nat.le_refl _) (.cells #[.bool s, .slice A n c, .int .i64 e] 24)).alloc (by simp) (.cells #[.bool s', .slice A' n' c', .int .i64 e'] 24)
  have HR := Lib.hid hr
  clear hr
  by_cases h1 : s = s'
  · subst h1
    have h1' : (s == s) = true := by simp
    by_cases h2 : e = e'
    · subst h2
      have h2' : (e == e) = true := by simp
      have hs : Hid (Sm xs ys = r) := by rw [Hid, ← HR.out]; simp [Dy.same]
      go_enter Tryd.func26, Tryd.ntmps26
      go_wp2_with fail
      refine (r1Same_any _ _ _ _ _ A A' n c n' c' xs ys hX2 hY2 r hs.out).mono ?_
      rintro e w1 ⟨rfl, m, rfl⟩
      go_wp2
      go_ret
      exact ⟨rfl, below_drewN fin m⟩
    · have h2' : (e == e') = false := by simpa using h2
      have e2 : r = false := by rw [← HR.out]; simp [Dy.same, h2]
      subst e2
      go_enter Tryd.func26, Tryd.ntmps26
      go_wp2
      go_ret
      exact ⟨rfl, fin⟩
  · have h1' : (s == s') = false := by simpa using h1
    have e2 : r = false := by rw [← HR.out]; simp [Dy.same, h1]
    subst e2
    go_enter Tryd.func26, Tryd.ntmps26
    go_wp2
    go_ret
    exact ⟨rfl, fin⟩

/-- Is a dyad greater than statements go through? -/
def Dy.great (a : Dy) : Bool := decide (42 < a.limbs.length) || decide (1100 < a.exp)
set_option maxHeartbeats 800000 in
/-- headcountref02.Great. -/
theorem rGreat_any (w : World) (s : Bool) (A : Option Addr) (n c : Nat) (xs : List Int) (e : Int) (hl : xs.length = n) (r : Bool) (hr : Dy.great ⟨s, xs, e⟩ = r) :
    Calls Tryd.prog 18 #[.agg #[.bool s, .slice A n c, .int .i64 e]] w fun q w' => q = .returned (.bool r) ∧ Below w.heap.size w w' := by
  have HR := Lib.hid hr
  have HL := Lib.hid hl
  have fin := (Below.refl w.heap.size w).alloc (Nat.le_refl _) (.cells #[.bool s, .slice A n c, .int .i64 e] 24)
  clear hr hl
  by_cases h1 : 42 < n
  · have e2 : r = true := by rw [← HR.out, Dy.great]; simp; left; rw [HL.out]; exact h1
    subst e2
    have h1' : decide ((42 : Int) < n) = true := by simp; omega
    go_enter Tryd.func18, Tryd.ntmps18
    go_wp2
    go_ret
    exact ⟨rfl, fin⟩
  · have h1' : decide ((42 : Int) < n) = false := by simp; omega
    have e2 : Hid (decide ((1100 : Int) < e) = r) := by rw [Hid, ← HR.out, Dy.great]; simp [HL.out, h1]
    go_enter Tryd.func18, Tryd.ntmps18
    go_wp2
    go_ret
    exact ⟨by rw [← e2.out]; rfl, fin⟩
end Pa
end Go.Proofs.YtlbkepiflhchdaaDoor
