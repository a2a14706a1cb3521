/- Dyads: whether two are the same, copies: walks. -/
import Derived.Test.YtlbkepiflhchdaaDoorPaBase
namespace Go.Proofs.YtlbkepiflhchdaaDoor
open Go.RowKit
namespace Pa
theorem below_keep {B : Nat} {w w' : World} (h : Below B w w') {b o : Nat} {v : Value} (hb : b < B) (hc : w.cell? ⟨b, o, none⟩ = some v) : w'.cell? ⟨b, o, none⟩ = some v := (h.cell (p := ⟨b, o, none⟩) hb).trans hc
theorem infoU32 : (Tryd.prog.info? 52).map (fun i => (i.zero, i.size, i.bytes)) = some (some (.int .u32 0), 1, 4) := by kernel_rfl
theorem u32_one (xs : List Int) : ∀ u ∈ xs.map (Value.int .u32), u.oneCell' = true := fun u hu => by
  obtain ⟨x, _, rfl⟩ := List.mem_map.1 hu
  rfl

/-- limb.Same. -/
theorem limbSame_any (w : World) (lo hi lo' hi' : Nat) (A A' : Option Addr) (n c n' c' : Nat) (xs ys : List Int) (hX : Ints w lo hi .u32 A n xs) (hY : Ints w lo' hi' .u32 A' n' ys) (r : Bool) (hr : Sm xs ys = r) :
    Calls Tryd.prog 75 #[.slice A n c, .slice A' n' c'] w fun e w' => e = .returned (.bool r) ∧ ∃ m, w' = w.drewN m := by
  have HR := Lib.hid hr
  clear hr
  go_enter Tryd.func75, Tryd.ntmps75
  go_wp2_with fail
  refine (Equal_any _ lo hi lo' hi' A A' n c n' c' xs ys hX hY r HR.out).mono ?_
  rintro e w1 ⟨rfl, m, rfl⟩
  go_wp2
  go_ret
  exact ⟨rfl, m, rfl⟩

set_option maxHeartbeats 800000 in
/-- slices.Clone. -/
theorem Clone_any (w : World) (lo hi : Nat) (A : Option Addr) (n c : Nat) (xs : List Int) (hX : Ints w lo hi .u32 A n xs) (hhi : hi ≤ w.heap.size) (hn : n ≤ 1000000) :
    Calls Tryd.prog 110 #[.slice A n c] w fun e w' => ∃ A' c', e = .returned (.slice A' n c') ∧ n ≤ c' ∧ Below w.heap.size w w' ∧ w'.ownsRow w.heap.size 52 1 (.slice A' n c') n (xs.map (Value.int .u32)) := by
  obtain ⟨i0, hi0, hz0, hz1, hz2⟩ := info_parts infoU32
  have HL := Lib.hid hX.len
  have hbig := hX.big
  rcases A with _ | a
  · by_cases hn : n = 0
    · subst hn
      have := hX.zero rfl
      subst this
      have hnil := Lib.run_eql_slice_nil (P := Tryd.prog) w 22 52 none 0 c 0 0 Tryd.underlying22
      go_enter Tryd.func110, Tryd.ntmps110
      go_wp2
      go_ret
      exact ⟨none, 0, rfl, Nat.le_refl _, Below.refl _ _, World.ownsRow_nil _ _ _ _⟩
    · obtain ⟨_, _, e, _⟩ := hX.row (by omega)
      cases e
  · have hnil := Lib.run_eql_slice_nil (P := Tryd.prog) w 22 52 (some a) n c 0 0 Tryd.underlying22
    go_enter Tryd.func110, Tryd.ntmps110
    go_wp2_with (first
      | (at_builtin; refine wpList_append_raw _ rfl (.tmp 5) (.tmp 6) 22 rfl w.heap.size 52 i0 _ 1 4 Tryd.underlying22 hi0 hz0 hz1 hz2 rfl (by decide) _ _ _ rfl (own_empty w w.heap.size _ 1 (Nat.le_refl _)) _ _ _ n _ _ rfl (hX.alloc hhi _).raw ?c1 ?c2 ?c3 ?c4 ?_))
    case c1 => exact u32_one _
    case c2 => unfold maxLen; omega
    case c3 => omega
    case c4 => simp
    intro A2 c2 w2 hown2 hgrow2 _
    have hb2 : Below w.heap.size w w2 := ((Below.refl _ w).alloc (Nat.le_refl _) _).grown hgrow2 (by simp) (fun q hq => by simp [Value.ownBlock] at hq; omega)
    have hc2 := own_cap hown2
    clear hgrow2
    go_wp2
    go_ret
    exact ⟨A2, c2, by simp, hc2, hb2, hown2⟩

/-- A dyad's datum: whether it is below 0, its limbs, its exponent. -/
structure Dy where
  neg : Bool
  limbs : List Int
  exp : Int
def Dy.same (a b : Dy) : Bool := a.neg == b.neg && (a.exp == b.exp && Sm a.limbs b.limbs)
theorem Dy.same_refl (a : Dy) : a.same a = true := by simp [Dy.same, Sm_refl]
theorem below_of_drewN {B : Nat} {w w1 : World} (h : Below B w w1) (m : Nat) : Below B w (w1.drewN m) := below_drewN h m

set_option maxHeartbeats 1600000 in
/-- dyad.Same. -/
theorem dyadSame_any (w : World) (s s' : Bool) (A A' : Option Addr) (n c n' c' : Nat) (xs ys : List Int) (e e' : Int) (hX : Ints w 0 w.heap.size .u32 A n xs) (hY : Ints w 0 w.heap.size .u32 A' n' ys) (r : Bool) (hr : Dy.same ⟨s, xs, e⟩ ⟨s', ys, e'⟩ = r) :
    Calls Tryd.prog 36 #[.agg #[.bool s, .slice A n c, .int .i64 e], .agg #[.bool s', .slice A' n' c', .int .i64 e']] w fun e w' => e = .returned (.bool r) ∧ Below w.heap.size w w' := by
  have fin := ((Below.refl w.heap.size w).alloc (Nat.le_refl _) (.cells #[.bool s, .slice A n c, .int .i64 e] 24)).alloc (by simp) (.cells #[.bool s', .slice A' n' c', .int .i64 e'] 24)
  have hX2 := (hX.alloc (Nat.le_refl _) (.cells #[.bool s, .slice A n c, .int .i64 e] 24)).alloc (by simp) (.cells #[.bool s', .slice A' n' c', .int .i64 e'] 24)
  have hY2 := (hY.alloc (Nat.le_refl _) (.cells #[.bool s, .slice A n c, .int .i64 e] 24)).alloc (by simp) (.cells #[.bool s', .slice A' n' c', .int .i64 e'] 24)
  have HR := Lib.hid hr
  clear hr
  by_cases h1 : s = s'
  · subst h1
    have h1' : (s == s) = true := by simp
    by_cases h2 : e = e'
    · subst h2
      have h2' : (e == e) = true := by simp
      have hs : Hid (Sm xs ys = r) := by rw [Hid, ← HR.out]; simp [Dy.same]
      go_enter Tryd.func36, Tryd.ntmps36
      go_wp2_with fail
      refine (limbSame_any _ _ _ _ _ A A' n c n' c' xs ys hX2 hY2 r hs.out).mono ?_
      rintro e w1 ⟨rfl, m, rfl⟩
      go_wp2
      go_ret
      exact ⟨rfl, below_drewN fin m⟩
    · have h2' : (e == e') = false := by simpa using h2
      have e2 : r = false := by rw [← HR.out]; simp [Dy.same, h2]
      subst e2
      go_enter Tryd.func36, Tryd.ntmps36
      go_wp2
      go_ret
      exact ⟨rfl, fin⟩
  · have h1' : (s == s') = false := by simpa using h1
    have e2 : r = false := by rw [← HR.out]; simp [Dy.same, h1]
    subst e2
    go_enter Tryd.func36, Tryd.ntmps36
    go_wp2
    go_ret
    exact ⟨rfl, fin⟩
end Pa
end Go.Proofs.YtlbkepiflhchdaaDoor
