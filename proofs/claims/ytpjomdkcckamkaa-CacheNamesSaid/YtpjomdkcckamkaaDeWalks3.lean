/- Descriptors: checks, copies, whether two lists are the same: walks. -/
import Derived.Test.YtpjomdkcckamkaaDeWalks2
import Derived.Shelf.Abstract
import Derived.Laws.StructEq
namespace Go.Proofs.Ytpjomdkcckamkaa
open Go.RowKit Go.Sort Go.Shelf
namespace De
theorem Descs.exact {w : World} {lo hi : Nat} {A : Option Addr} {n : Nat} {xs : List (Int × Int)} (h : Descs w lo hi A n xs) (hw : hi ≤ w.heap.size) (h0 : 0 < w.heap.size) : ∃ rb, rb < w.heap.size ∧ (0 < n → lo ≤ rb ∧ rb < hi) ∧ Descs w rb (rb + 1) A n xs := by
  by_cases hn : 0 < n
  · obtain ⟨b, off, e, h1, h2, hc⟩ := h.row hn
    exact ⟨b, by omega, fun _ => ⟨h1, h2⟩, h.len, h.wf, h.big, fun _ => ⟨b, off, e, Nat.le_refl _, by omega, hc⟩⟩
  · obtain rfl : n = 0 := by omega
    have := h.zero rfl
    subst this
    exact ⟨0, h0, fun h => absurd h (by omega), Descs.nil_ ..⟩

theorem grown_of_below {B : Nat} {w w' : World} (h : Below B w w') (hB : w.heap.size ≤ B) (row : Option Nat) : w.grownBy w' row := ⟨h.os, h.tape, h.output, h.size, fun i hi _ => h.block i (by omega)⟩
theorem mayNot_pred (base rb : Nat) : PredS 64 #[] base rb none (fun _ (_ : Unit) => True) (fun _ => True) (fun _ x => !may x) (fun _ _ => ()) where
  enters := enters_of Try.func64 (by kernel_rfl) rfl
  row_ _ h := by cases h
  lt _ _ _ h _ := by cases h
  call W s x h1 h2 _ _ _ := (mayNot_any W x.1 x.2 (!may x) (by simp)).mono fun e w' ⟨he, hb⟩ => ⟨he, trivial, grown_of_below hb (Nat.le_refl _) _⟩
  alloc _ _ _ _ := trivial
  set_ _ _ _ _ _ _ := trivial

set_option maxHeartbeats 400000 in
/-- desc.Check. -/
theorem Check_any (w : World) (lo hi : Nat) (A : Option Addr) (n c : Nat) (xs : List (Int × Int)) (hX : Descs w lo hi A n xs) (hhi : hi ≤ w.heap.size) (h0 : 0 < w.heap.size) (r : Int) (hr : check xs = r) :
    Calls Try.prog 24 #[.slice A n c] w fun e w' => e = .returned (.int .i64 r) ∧ Below w.heap.size w w' := by
  have HR := Lib.hid hr
  have HL := Lib.hid hX.len
  have hbig := hX.big
  clear hr
  by_cases h64 : n > 64
  · have e : r = 4 := by rw [← HR.out, check, if_pos (by rw [HL.out]; exact h64)]
    subst e
    go_enter Try.func24, Try.ntmps24
    go_wp2
    go_ret
    exact ⟨rfl, Below.refl _ _⟩
  · obtain ⟨rb, hrb, _, hXe⟩ := hX.exact hhi h0
    have hc0 := ContainsFunc_any (mayNot_pred w.heap.size rb) w trivial (Nat.le_refl _) hrb A n c xs hXe (fun _ _ => trivial)
    by_cases hall : xs.all may = true
    · have e : r = 0 := by rw [← HR.out, check, if_neg (by rw [HL.out]; exact h64), if_pos hall]
      subst e
      have hc := hc0 false (by rw [List.any_eq_not_all_not]; simpa using hall)
      have HC := Lib.hid hc
      clear hc hc0 hall hXe hX
      go_enter Try.func24, Try.ntmps24
      go_wp2_with fail
      refine HC.out.mono ?_
      rintro e w' ⟨rfl, hb⟩
      go_wp2
      go_ret
      exact ⟨rfl, hb⟩
    · have e : r = 8 := by rw [← HR.out, check, if_neg (by rw [HL.out]; exact h64), if_neg hall]
      subst e
      have hc := hc0 true (by rw [List.any_eq_not_all_not]; simpa using hall)
      have HC := Lib.hid hc
      clear hc hc0 hall hXe hX
      go_enter Try.func24, Try.ntmps24
      go_wp2_with fail
      refine HC.out.mono ?_
      rintro e w' ⟨rfl, hb⟩
      go_wp2
      go_ret
      exact ⟨rfl, hb⟩

theorem check_mem {xs : List (Int × Int)} (h : check xs = 0) : xs.length ≤ 64 ∧ xs.all may = true := by
  unfold check at h
  split at h
  · cases h
  · split at h
    · exact ⟨by omega, by assumption⟩
    · cases h

theorem Try.info29 : (Try.prog.info? 29).map (fun i => (i.zero, i.size, i.bytes)) = some (some (.agg #[.int .i64 0, .int .i64 0]), 2, 16) := by kernel_rfl


set_option maxHeartbeats 400000 in
/-- slices.Clone. -/
theorem Clone_any (w : World) (lo hi : Nat) (A : Option Addr) (n c : Nat) (xs : List (Int × Int)) (hX : Descs w lo hi A n xs) (hhi : hi ≤ w.heap.size) (hn : n ≤ 1000000) :
    Calls Try.prog 60 #[.slice A n c] w fun e w' => ∃ A' c', e = .returned (.slice A' n c') ∧ n ≤ c' ∧ Below w.heap.size w w' ∧ w'.ownsRow w.heap.size 29 2 (.slice A' n c') n (flatD xs) := by
  obtain ⟨i0, hi0, hz0, hz1, hz2⟩ := info_parts Try.info29
  have HL := Lib.hid hX.len
  have hbig := hX.big
  rcases A with _ | a
  · by_cases hn : n = 0
    · subst hn
      have := hX.zero rfl
      subst this
      have hnil := Lib.run_eql_slice_nil (P := Try.prog) w 22 29 none 0 c 0 0 Try.underlying22
      go_enter Try.func60, Try.ntmps60
      go_wp2
      go_ret
      exact ⟨none, 0, rfl, Nat.le_refl _, Below.refl _ _, World.ownsRow_nil _ _ _ _⟩
    · obtain ⟨_, _, e, _⟩ := hX.row (by omega)
      cases e
  · have hnil := Lib.run_eql_slice_nil (P := Try.prog) w 22 29 (some a) n c 0 0 Try.underlying22
    go_enter Try.func60, Try.ntmps60
    go_wp2_with (first
      | (at_builtin; refine wpList_append_raw _ rfl (.tmp 5) (.tmp 6) 22 rfl w.heap.size 29 i0 _ 2 16 Try.underlying22 hi0 hz0 hz1 hz2 rfl (by decide) _ _ _ rfl (own_empty w w.heap.size _ 2 (Nat.le_refl _)) _ _ _ n _ _ rfl (hX.alloc hhi _).raw ?c1 ?c2 ?c3 ?c4 ?_))
    case c1 => exact flatD_one _
    case c2 => unfold maxLen; omega
    case c3 => omega
    case c4 => simp
    intro A2 c2 w2 hown2 hgrow2 _
    have hb2 : Below w.heap.size w w2 := ((Below.refl _ w).alloc (Nat.le_refl _) _).grown hgrow2 (by simp) (fun q hq => by simp [Value.ownBlock] at hq; omega)
    have hc2 := own_cap hown2
    clear hgrow2
    go_wp2
    go_ret
    exact ⟨A2, c2, by simp, hc2, hb2, hown2⟩

def Sm (a b : List (Int × Int)) : Bool := a == b
theorem eqlD (w : World) (a b c d : Int) : (binOp .eql 29 (.agg #[.int .i64 a, .int .i64 b]) (.agg #[.int .i64 c, .int .i64 d])).run Try.prog w = .ok (.bool (a == c && b == d)) w := by
  have u3 := Try.underlying3
  have hS : Try.prog.underlying 29 = some (.struct (Try.prog.fieldsOf 29)) := by kernel_rfl
  have hp : Try.prog.stoodInHeld 29 = false := by kernel_rfl
  rw [run_eql_struct, show (10000 : Nat) = 9999 + 1 from rfl, run_equalIn_agg w 9999 29 _ _ hS hp]
  simp only [Program.fieldsOf, Try.underlying29]
  go_simp
  by_cases h1 : a = c <;> by_cases h2 : b = d <;> simp [h1, h2]
theorem neqD (w : World) (a b c d : Int) : (binOp .neq 29 (.agg #[.int .i64 a, .int .i64 b]) (.agg #[.int .i64 c, .int .i64 d])).run Try.prog w = .ok (.bool (!(a == c && b == d))) w := by
  have u3 := Try.underlying3
  have hS : Try.prog.underlying 29 = some (.struct (Try.prog.fieldsOf 29)) := by kernel_rfl
  have hp : Try.prog.stoodInHeld 29 = false := by kernel_rfl
  rw [run_neq_struct, show (10000 : Nat) = 9999 + 1 from rfl, run_equalIn_agg w 9999 29 _ _ hS hp]
  simp only [Program.fieldsOf, Try.underlying29]
  go_simp
  by_cases h1 : a = c <;> by_cases h2 : b = d <;> simp [h1, h2]
theorem guardD : Try.prog.eqGuardType Try.prog.depth 29 = false := by kernel_rfl
theorem take_eq {xs ys : List (Int × Int)} {k : Nat} (h1 : k < xs.length) (h2 : k < ys.length) (h : xs.take k = ys.take k) (he : xs[k]?.getD (0, 0) = ys[k]?.getD (0, 0)) : xs.take (k + 1) = ys.take (k + 1) := by
  rw [List.take_succ_eq_append_getElem h1, List.take_succ_eq_append_getElem h2, h]
  rw [List.getElem?_eq_getElem h1, List.getElem?_eq_getElem h2] at he
  congr 1
  simpa using he
set_option maxHeartbeats 400000 in
/-- slices.Equal. -/
theorem Equal_any (w : World) (lo hi lo' hi' : Nat) (A A' : Option Addr) (n c n' c' : Nat) (xs ys : List (Int × Int)) (hX : Descs w lo hi A n xs) (hY : Descs w lo' hi' A' n' ys) (r : Bool) (hr : Sm xs ys = r) :
    Calls Try.prog 57 #[.slice A n c, .slice A' n' c'] w fun e w' => e = .returned (.bool r) ∧ ∃ m, w' = w.drewN m := by
  have HR := Lib.hid hr
  have HL := Lib.hid hX.len
  have HL' := Lib.hid hY.len
  have hbig := hX.big
  have hbig' := hY.big
  clear hr
  by_cases hn : n = n'
  · subst hn
    have hne : ((n : Int) != (n : Int)) = false := by simp
    go_enter Try.func57, Try.ntmps57
    go_wp2
    go_loopw [5, 13] (fun _ i wr => ∃ k m : Nat, i = .int .i64 k ∧ k ≤ n ∧ Hid (xs.take k = ys.take k) ∧ wr = w.drewN m) (fun _ i _ => n - (intOf i).toNat)
    case atStart => exact ⟨0, 0, rfl, Nat.zero_le _, rfl, rfl⟩
    case round =>
      obtain ⟨k, m, rfl, hk, heq, rfl⟩ := hrel
      by_cases hlt : k < n
      · obtain ⟨b, off, rfl, h1, h2, hc⟩ := hX.row (by omega)
        obtain ⟨b', off', rfl, h1', h2', hc'⟩ := hY.row (by omega)
        obtain ⟨⟨g1, _⟩, g3, _⟩ := hc k hlt
        obtain ⟨⟨f1, _⟩, f3, _⟩ := hc' k hlt
        clear hc hc'
        have hkn : (k : Int) < n := by omega
        have hk0 : (0 : Int) ≤ k := by omega
        generalize hx : xs[k]?.getD (0, 0) = x at g1 g3
        generalize hy : ys[k]?.getD (0, 0) = y at f1 f3
        obtain ⟨x1, x2⟩ := x
        obtain ⟨y1, y2⟩ := y
        have HX := Lib.hid hx
        have HY := Lib.hid hy
        have hneq := fun W => neqD W x1 x2 y1 y2
        have hgd := guardD
        clear hx hy
        by_cases hxy : x1 = y1 ∧ x2 = y2
        · obtain ⟨rfl, rfl⟩ := hxy
          rw [show (!(x1 == x1 && x2 == x2)) = false by simp] at hneq
          go_wp2
          go_quiet (fail)
          go_wp2
          go_roundw
          case rel => exact ⟨k + 1, _, by go_num, by omega, take_eq (by rw [HL.out]; exact hlt) (by rw [HL'.out]; exact hlt) heq.out (by rw [HX.out, HY.out]), rfl⟩
          case measure => simp [intOf]; omega
        · have hf : (!(x1 == y1 && x2 == y2)) = true := by
            by_cases h1 : x1 = y1
            · have h2 : x2 ≠ y2 := fun h => hxy ⟨h1, h⟩
              simp [h2]
            · simp [h1]
          rw [hf] at hneq
          have e : r = false := by
            rw [← HR.out]
            unfold Sm
            rw [beq_eq_false_iff_ne]
            intro h
            have h3 := HX.out
            rw [h, HY.out] at h3
            have h4 := Prod.mk.inj h3
            exact hxy ⟨h4.1.symm, h4.2.symm⟩
          subst e
          go_wp2
          go_quiet (fail)
          go_wp2
          go_ret
          exact ⟨rfl, _, World.drewN_drewN _ _ _⟩
      · obtain rfl : k = n := by omega
        have e : r = true := by
          rw [← HR.out]
          unfold Sm
          have h := heq.out
          rw [List.take_of_length_le (by rw [HL.out]; exact Nat.le_refl _), List.take_of_length_le (by rw [HL'.out]; exact Nat.le_refl _)] at h
          rw [h]
          exact beq_self_eq_true _
        subst e
        clear heq
        go_wp2
        go_ret
        exact ⟨rfl, _, rfl⟩
  · have hne : ((n : Int) != (n' : Int)) = true := by rw [bne_iff_ne]; omega
    have e : r = false := by
      rw [← HR.out]
      unfold Sm
      rw [beq_eq_false_iff_ne]
      intro h
      have h1 := HL.out
      have h2 := HL'.out
      rw [h] at h1
      omega
    subst e
    go_enter Try.func57, Try.ntmps57
    go_wp2
    go_ret
    exact ⟨rfl, 0, rfl⟩
end De
end Go.Proofs.Ytpjomdkcckamkaa
