/- A node's tags, and whose a tag is, by walks. -/
import Derived.Test.YtpmhnheimaimmaaLeastSort
import Derived.Test.YtpmhnheimaimmaaLeastWalks7
namespace Go.Proofs.Ytpmhnheimaimmaa
open Go.RowKit
namespace Least

theorem own_below {base : Nat} {e : TypeId} {size n : Nat} {v : Value} {xs : List Value} {w w' : World} (h : w.ownsRow base e size v n xs) (hb : Below w.heap.size w w') : w'.ownsRow base e size v n xs := by
  refine ⟨h.1, ?_⟩
  rcases h.2 with hn | ⟨q, cap, cur, hv, hg, hh, rest⟩
  · exact .inl hn
  · exact .inr ⟨q, cap, cur, hv, hg, (hb.block q (Array.getElem?_eq_some_iff.1 hh).1).trans hh, rest⟩

/-- A node's numbers, not stirred yet. -/
def tagNo (e nd j : Nat) : BitVec 32 := BitVec.ofNat 32 ((e * 8 + nd) * 4 + j)
def tagOf (e nd j : Nat) : Int := U (stirS (tagNo e nd j))
theorem tagNo_u (e nd j : Nat) (he : e ≤ 65535) (hn : nd < 8) (hj : j < 4) : U (tagNo e nd j) = ((e : Int) * 8 + nd) * 4 + j := by
  unfold U tagNo
  rw [BitVec.toNat_ofNat, Nat.mod_eq_of_lt (by omega)]
  omega
theorem stir_inj {x y : BitVec 32} (h : stirS x = stirS y) : x = y := by rw [← still_stir x, h, still_stir y]
theorem tagOf_inj {e nd j e' nd' j' : Nat} (he : e ≤ 65535) (hn : nd < 8) (hj : j < 4) (he' : e' ≤ 65535) (hn' : nd' < 8) (hj' : j' < 4) (h : tagOf e nd j = tagOf e' nd' j') : e = e' ∧ nd = nd' ∧ j = j' := by
  have h1 := stir_inj (U_inj h)
  have h2 := tagNo_u e nd j he hn hj
  rw [h1, tagNo_u e' nd' j' he' hn' hj'] at h2
  omega

set_option maxHeartbeats 1600000 in
theorem Tags_bad (w : World) (e nd : Int) (hb : e < 0 ∨ 65535 < e ∨ nd < 0 ∨ 8 ≤ nd) :
    Calls Try.prog 18 #[.int .i64 e, .int .i64 nd] w fun r w' => r = .returned (.tuple #[.slice none 0 0, .int .i64 2]) ∧ w' = w := by
  by_cases h1 : e < 0
  · clear hb
    go_enter Try.func18, Try.ntmps18
    go_wp2
    go_ret2
    exact ⟨rfl, rfl⟩
  · by_cases h2 : 65535 < e
    · clear hb
      go_enter Try.func18, Try.ntmps18
      go_wp2
      go_ret2
      exact ⟨rfl, rfl⟩
    · by_cases h3 : nd < 0
      · clear hb
        go_enter Try.func18, Try.ntmps18
        go_wp2
        go_ret2
        exact ⟨rfl, rfl⟩
      · have h4 : 8 ≤ nd := by omega
        clear hb
        go_enter Try.func18, Try.ntmps18
        go_wp2
        go_ret2
        exact ⟨rfl, rfl⟩

set_option maxHeartbeats 1600000 in
theorem Tags_ok (w : World) (e nd : Nat) (he : e ≤ 65535) (hn : nd < 8) :
    Calls Try.prog 18 #[.int .i64 e, .int .i64 nd] w fun r w' => ∃ g c f, r = .returned (.tuple #[.slice (some ⟨g, 0, none⟩) 4 c, .int .i64 0]) ∧ 4 ≤ c ∧ w.heap.size ≤ g ∧ g < w'.heap.size ∧ Below w.heap.size w w' ∧ RowAt w' g 4 f ∧ SameRow (tagOf e nd) f 4 ∧ UpTo f 4 := by
  obtain ⟨i0, hi0, hz0, hz1, hz2⟩ := info_parts Try.info35
  have hnu := fun j => tagNo_u e nd j he hn
  have he' : (e : Int) ≤ 65535 := by omega
  have hn' : (nd : Int) < 8 := by omega
  go_enter Try.func18, Try.ntmps18
  go_wp2
  go_loopw [4, 21] (fun v i wr => ∃ k : Nat, i = .int .i64 k ∧ k ≤ 4 ∧ wr.ownsRow w.heap.size 35 1 v k (((List.range k).map (tagOf e nd)).map (Value.int .u32)) ∧ Below w.heap.size w wr) (fun _ i _ => 4 - (intOf i).toNat)
  case atStart => exact ⟨0, rfl, by omega, ⟨rfl, .inl ⟨rfl, rfl⟩⟩, Below.refl _ _⟩
  case round =>
    obtain ⟨k, rfl, hk, hown, hnx⟩ := hrel
    by_cases hlt : k < 4
    · have hu := hnu k hlt
      go_wp2_with fail
      refine (Stir_at _ (tagNo e nd k) _ (tagOf e nd k) hu rfl).mono ?_
      rintro r w1 ⟨rfl, hb1⟩
      have hown1 := own_below hown hb1
      have hnx1 : Below w.heap.size w w1 := hnx.trans (hb1.mono hnx.size)
      clear hown hnx hb1
      go_wp2_with (first
        | (at_builtin; refine wpList_append_raw _ rfl (.tmp 24) (.tmp 34) 22 rfl w.heap.size 35 i0 (.int .u32 0) 1 4 Try.underlying22 hi0 hz0 hz1 hz2 rfl (by decide) _ _ _ rfl (hown1.alloc _) _ _ _ 1 1 [.int .u32 (tagOf e nd k)] rfl (raw_one _ _ _ _) ?c1 ?c2 ?c3 ?c4 ?_))
      case c1 => first | rfl | (intro u hu; simp at hu; subst hu; rfl)
      case c2 => unfold maxLen; omega
      case c3 => omega
      case c4 => have := hnx1.size; simp; omega
      intro A2 c2 w2 hown2 hgrow2 _
      have hnx2 : Below w.heap.size w w2 := (hnx1.alloc hnx1.size _).grown hgrow2 (by have := hnx1.size; simp; omega) (fun q hq => (hown1.lt q hq).1)
      have hown2 : w2.ownsRow w.heap.size 35 1 (.slice A2 (k + 1) c2) (k + 1) (((List.range (k + 1)).map (tagOf e nd)).map (Value.int .u32)) := by simpa [List.range_succ] using hown2
      clear hgrow2 hown1
      go_wp2
      go_roundw
      case rel => exact ⟨k + 1, by go_num, by omega, hown2, hnx2⟩
      case measure => simp [intOf]; omega
    · obtain rfl : k = 4 := by omega
      obtain ⟨A, c, rfl, hc, _⟩ := own_shape hown
      obtain ⟨g, rfl, hg, hgs, _⟩ := Writable.of_own hown (by decide)
      have hI := Ints.of_own hown (by
        intro x hx
        obtain ⟨j, _, rfl⟩ := List.mem_map.1 hx
        have h1 := U_lo (stirS (tagNo e nd j))
        have h2 := U_hi (stirS (tagNo e nd j))
        unfold tagOf
        simpa [IntKind.min, IntKind.max, IntKind.signed, IntKind.bits] using And.intro h1 h2) (by decide)
      have hrow : RowAt wr g 4 (tagOf e nd) := fun j hj => by
        obtain ⟨b, off, e1, _, _, hcell⟩ := hI.row (by decide)
        cases e1
        have := hcell j hj
        rw [Nat.zero_add] at this
        simpa [hj] using this
      have hinj : ∀ p q, p < 4 → q < 4 → tagOf e nd p = tagOf e nd q → p = q := fun p q hp hq h => (tagOf_inj he hn hp he hn hq h).2.2
      clear hI hown
      go_wp2_with fail
      refine (Sort4 _ g c _ hrow hinj).mono ?_
      rintro r w1 ⟨rfl, ht, f, hr, hs, hu⟩
      go_wp2_with fail
      go_ret2
      exact ⟨g, c, f, rfl, hc, hg, by rw [ht.size]; exact hgs, hnx.trans (ht.below hg hg), hr, hs, hu⟩

theorem results_tmp4 {fn : Func} {t u v x : Tmp} (h : fn.results = #[.tmp t, .tmp u, .tmp v, .tmp x]) (tmps : Array Value) (P : Program) (w : World) :
    (results fn tmps).run P w = .ok (.tuple #[tmps.getD t undef, tmps.getD u undef, tmps.getD v undef, tmps.getD x undef]) w := by
  simp [results, h]

theorem int_u32 (x : BitVec 32) : IntKind.i64.wrap (U x) = U x := by
  have h1 := U_lo x
  have h2 := U_hi x
  simp only [IntKind.wrap_i64]
  omega

/-- least.Whose. -/
theorem Whose_in (w : World) (x : BitVec 32) (h : U (stillS x) / 4 / 8 ≤ 65535) :
    Calls Try.prog 24 #[.int .u32 (U x)] w fun r w' => r = .returned (.tuple #[.int .i64 (U (stillS x) / 4 / 8), .int .i64 (U (stillS x) / 4 % 8), .int .i64 (U (stillS x) % 4), .int .i64 0]) ∧ Below w.heap.size w w' := by
  have hu := int_u32 (stillS x)
  have h0 := U_lo (stillS x)
  have h1 := U_hi (stillS x)
  go_enter Try.func24, Try.ntmps24
  go_wp2_with fail
  refine (Still_any _ x).mono ?_
  rintro r w1 ⟨rfl, hb⟩
  go_wp2_with fail
  refine bodyPost_ret (results_tmp4 rfl _ _ _) rfl ?_
  exact ⟨rfl, hb⟩
theorem Whose_out (w : World) (x : BitVec 32) (h : 65535 < U (stillS x) / 4 / 8) :
    Calls Try.prog 24 #[.int .u32 (U x)] w fun r w' => r = .returned (.tuple #[.int .i64 0, .int .i64 0, .int .i64 0, .int .i64 6]) ∧ Below w.heap.size w w' := by
  have hu := int_u32 (stillS x)
  have h0 := U_lo (stillS x)
  have h1 := U_hi (stillS x)
  go_enter Try.func24, Try.ntmps24
  go_wp2_with fail
  refine (Still_any _ x).mono ?_
  rintro r w1 ⟨rfl, hb⟩
  go_wp2_with fail
  refine bodyPost_ret (results_tmp4 rfl _ _ _) rfl ?_
  exact ⟨rfl, hb⟩
/-- Whose a node's tag is. -/
theorem Whose_tag (w : World) (e nd j : Nat) (t : Int) (ht : tagOf e nd j = t) (he : e ≤ 65535) (hn : nd < 8) (hj : j < 4) :
    Calls Try.prog 24 #[.int .u32 t] w fun r w' => r = .returned (.tuple #[.int .i64 e, .int .i64 nd, .int .i64 j, .int .i64 0]) ∧ Below w.heap.size w w' := by
  subst ht
  have h := tagNo_u e nd j he hn hj
  have hs : stillS (stirS (tagNo e nd j)) = tagNo e nd j := still_stir _
  have d1 : U (stillS (stirS (tagNo e nd j))) % 4 = (j : Int) := by rw [hs]; omega
  have d2 : U (stillS (stirS (tagNo e nd j))) / 4 / 8 = (e : Int) := by rw [hs]; omega
  have d3 : U (stillS (stirS (tagNo e nd j))) / 4 % 8 = (nd : Int) := by rw [hs]; omega
  refine (Whose_in w (stirS (tagNo e nd j)) (by rw [d2]; omega)).mono ?_
  rintro r w' ⟨rfl, hb⟩
  exact ⟨by rw [d1, d2, d3], hb⟩

/-- What a row holds, as a list. -/
def rowL (f : Nat → Int) : List Int := (List.range 4).map f
theorem row_ints {w : World} {g : Nat} {f : Nat → Int} (h : RowAt w g 4 f) (hg : g < w.heap.size) (hu : ∀ k, k < 4 → 0 ≤ f k ∧ f k ≤ 4294967295) : Ints w 0 w.heap.size .u32 (some ⟨g, 0, none⟩) 4 (rowL f) := by
  refine ⟨by simp [rowL], fun x hx => ?_, by decide, fun _ => ⟨g, 0, rfl, Nat.zero_le _, hg, fun j hj => ?_⟩⟩
  · obtain ⟨k, hk, rfl⟩ := List.mem_map.1 hx
    simpa [IntKind.min, IntKind.max, IntKind.signed, IntKind.bits] using hu k (by simpa using hk)
  · rw [Nat.zero_add]
    simpa [rowL, hj] using h j hj
theorem row_rises {f : Nat → Int} (h : UpTo f 4) : (rowL f).Pairwise (· < ·) := by
  have h1 := h 0 1 (by decide) (by decide)
  have h2 := h 1 2 (by decide) (by decide)
  have h3 := h 2 3 (by decide) (by decide)
  simp [rowL, List.range, List.range.loop]
  omega
theorem row_u {e nd : Nat} {f : Nat → Int} (h : SameRow (tagOf e nd) f 4) (k : Nat) (hk : k < 4) : ∃ j, j < 4 ∧ tagOf e nd j = f k := (h.1 (f k)).1 ⟨k, hk, rfl⟩
theorem row_le {e nd : Nat} {f : Nat → Int} (h : SameRow (tagOf e nd) f 4) (k : Nat) (hk : k < 4) : 0 ≤ f k ∧ f k ≤ 4294967295 := by
  obtain ⟨j, _, e⟩ := row_u h k hk
  rw [← e]
  exact ⟨U_lo _, U_hi _⟩
end Least
end Go.Proofs.Ytpmhnheimaimmaa
