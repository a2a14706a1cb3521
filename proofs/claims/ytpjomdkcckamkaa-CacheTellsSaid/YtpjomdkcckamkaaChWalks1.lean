/- A list without one of its places: a walk. -/
import Derived.Test.YtpjomdkcckamkaaCaLaw1
import Derived.Test.YtpjomdkcckamkaaCaPure2
import Derived.Test.YtpjomdkcckamkaaRangeSep
import Derived.Test.YtpjomdkcckamkaaChPure
import Derived.StillTailTactics
import Derived.ArgAppend
import Derived.IntWalk
namespace Go.Proofs.Ytpjomdkcckamkaa
open Go.RowKit Go.Sort Go.Shelf
section
variable {P : Program} (w : World)
/-- To append nothing. -/
theorem run_append_none (t ty e : TypeId) (i : TypeInfo) (ht : P.underlying t = some (.slice e)) (hi : P.info? e = some i) (A A' : Option Addr) (n c c' : Nat) (h : n ≤ c) :
    (Builtin.append_ #[t, t] ty #[.slice A n c, .slice A' 0 c']).run P w = .ok (.slice A n c) w := by
  cases A <;> cases A' <;> simp [Builtin.append_, run_underlying ht, sizeOf, typeInfo, hi, Builtin.lenOf, Builtin.firstCells, h, storeCells, loadCells, loadCellsFrom]
theorem wpList_append_none {ops : Array Oper} {rest : List Oper} {o : Oper} {a : Act} {Q : Exit → Act → World → Prop} (hgd : o.guard = none) (s x : Operand) (t : TypeId)
    (ho : o.op = .call { callee := .builtin .append, args := #[s, x], argTypes := #[t, t] }) (e : TypeId) (i : TypeInfo) (ht : P.underlying t = some (.slice e)) (hi : P.info? e = some i)
    (A A' : Option Addr) (n c c' : Nat) (hs : a.eval s = .slice A n c) (hx : a.eval x = .slice A' 0 c') (h : n ≤ c)
    (hK : wpList P ops Q rest (a.put o.dst (.slice A n c)) w) : wpList P ops Q (o :: rest) a w := by
  refine wpList_plain hgd fun K hK' => ?_
  have hr := run_append_none (P := P) w t o.type e i ht hi A A' n c c' h
  unfold Oper.wp execOp
  simp only [ho, resolve, invoke, builtin, Sem.run_bind, Sem.run_pure, Result.andThen_ok, List.map_toArray, List.map_cons, List.map_nil, hs, hx, hr]
  exact hK' _ _ hK
end
namespace De
theorem erase_eq (l : List (Int × Int)) (i : Nat) : l.eraseIdx i = l.take i ++ l.drop (i + 1) := List.eraseIdx_eq_take_drop_succ ..
theorem add_even (b off k : Nat) : (⟨b, off, none⟩ : Addr).add k = ⟨b, off + k, none⟩ := by unfold Addr.add; split <;> simp_all

set_option maxRecDepth 100000 in
set_option maxHeartbeats 800000 in
/-- choose.without. -/
theorem without_any (w : World) (rb : Nat) (A : Option Addr) (n c : Nat) (xs : List (Int × Int)) (hX : Descs w rb (rb + 1) A n xs) (hrb : rb < w.heap.size) (hc : n ≤ c) (i : Nat) (hin : i < n) (hn : n ≤ 1000000) :
    Calls Try.prog 74 #[.slice A n c, .int .i64 i] w fun e w' => ∃ A' c' rb', e = .returned (.slice A' (n - 1) c') ∧ n - 1 ≤ c' ∧ Below w.heap.size w w' ∧ w.grownBy w' none ∧ (rb' = rb ∨ w.heap.size ≤ rb') ∧ rb' < w'.heap.size ∧ Descs w' rb' (rb' + 1) A' (n - 1) (xs.eraseIdx i) := by
  obtain ⟨i0, hi0, hz0, hz1, hz2⟩ := info_parts Try.info29
  obtain ⟨b, off, rfl, hb1, hb2, _⟩ := hX.row (by omega)
  obtain rfl : b = rb := by omega
  have hlen := Lib.hid hX.len
  have hwf := Lib.hid hX.wf
  have hX1 : Descs w.drew b (b + 1) _ n xs := hX.drewN 1
  have hbb : Below w.heap.size w w.drew := (Below.refl _ w).drew
  have hgg : w.grownBy w.drew none := ⟨rfl, rfl, rfl, Nat.le_refl _, fun _ _ _ => rfl⟩
  have hsz : w.drew.heap.size = w.heap.size := rfl
  have hsz1 := Lib.hid hsz
  have hsz2 : w.heap.size ≤ w.drew.heap.size := Nat.le_refl _
  have hsz3 : w.drew.heap.size ≤ w.heap.size := Nat.le_refl _
  clear hsz
  have q1 : i ≤ c := by omega
  have q2 : IntKind.i64.wrap ((i : Int) + 1) = ((i + 1 : Nat) : Int) := by rw [IntWalk.i64_in _ (by omega)]; omega
  have q3 : i + 1 ≤ n := by omega
  have q5 : (0 : Int) ≤ (i : Int) + 1 := by omega
  have q6 : ((i : Int) + 1).toNat = i + 1 := by omega
  have q7 : (i : Int) + 1 ≤ n := by omega
  by_cases hlast : i + 1 < n
  · have q4 : ¬ c = i + 1 := by omega
    have hD1 := (hX1.take_ (m := i) (by omega)).raw
    have hD2 := (hX1.drop_ (k := i + 1) (by omega)).raw
    have hD := Lib.hid hX1
    clear hX hX1
    go_enter Try.func74, Try.ntmps74
    go_wp2
    go_still_tail 8, (by kernel_rfl)
    change wpList _ _ _ _ _ w.drew
    generalize w.drew = w2 at *
    refine wpList_append_grows w2 rfl (.tmp 8) (.tmp 12) 22 rfl 29 i0 _ 2 16 Try.underlying22 hi0 hz0 hz1 hz2 rfl (by decide) (some ⟨b, off, none⟩) i i (flatD (xs.take i)) rfl (fun e => by cases e) hD1.len
      (fun a e j u hu => by cases e; exact hD1.at_ j u hu) (⟨b, off + (i + 1) * 2, none⟩) (n - (i + 1)) (c - (i + 1)) (flatD (xs.drop (i + 1))) rfl hD2.len (fun j u hu => by rw [← add_even]; exact hD2.at_ j u hu) (flatD_one _) (by omega) (by unfold maxLen; omega) (by omega) ?_
    intro v w3 hown hg
    obtain ⟨A', c', rfl, hcc, _⟩ := own_shape hown
    go_wp2
    go_ret
    have hs3 := hg.size
    have e1 : i + (n - (i + 1)) = n - 1 := by omega
    rw [e1] at hown
    have hown2 : w3.ownsRow w2.heap.size 29 2 (.slice A' (n - 1) c') (n - 1) (flatD (xs.eraseIdx i)) := by rw [erase_eq, flatD_append]; exact hown
    have hDf := Descs.of_own hown2 (fun x hx => hwf.out x (List.eraseIdx_subset hx)) (by omega)
    obtain ⟨r', u1, u2, u3⟩ := hDf.exact (Nat.le_refl _) (by omega)
    have u4 := (u2 (by omega)).1
    refine ⟨A', c', r', by show Ending.returned (Value.slice A' (i + (n - (i + 1))) c') = _; rw [e1], by omega, hbb.trans ((Below.grown (Below.refl _ w2) hg (by omega) (fun k e => by cases e))), ?_, .inr (by omega), u1, u3⟩
    exact ⟨hg.os.trans hgg.os, hg.tape.trans hgg.tape, hg.output.trans hgg.output, by omega, fun k hk hn => (hg.block k (by omega) hn).trans (hgg.block k hk hn)⟩
  · have hD1 := hX1.take_ (m := i) (by omega)
    have he : Hid (xs.eraseIdx i = xs.take i) := by
      have := hlen.out
      rw [Hid, erase_eq, List.drop_eq_nil_of_le (by omega), List.append_nil]
    have q8 : n - (i + 1) = 0 := by omega
    have q9 : n - 1 = i := by omega
    rw [q9]
    clear q9 hX hX1
    by_cases hci : c = i + 1
    · have q10 : (i : Int) ≤ (i : Int) + 1 := by omega
      go_enter Try.func74, Try.ntmps74
      go_wp2
      go_still_tail 8, (by kernel_rfl)
      change wpList _ _ _ _ _ w.drew
      generalize w.drew = w2 at *
      refine wpList_append_none w2 rfl (.tmp 8) (.tmp 12) 22 rfl 29 i0 Try.underlying22 hi0 (some ⟨b, off, none⟩) _ i i _ rfl rfl (Nat.le_refl _) ?_
      go_wp2
      go_ret
      exact ⟨_, i, b, rfl, Nat.le_refl _, hbb, hgg, .inl rfl, by omega, by rw [he.out]; exact hD1⟩
    · go_enter Try.func74, Try.ntmps74
      go_wp2
      go_still_tail 8, (by kernel_rfl)
      change wpList _ _ _ _ _ w.drew
      generalize w.drew = w2 at *
      refine wpList_append_none w2 rfl (.tmp 8) (.tmp 12) 22 rfl 29 i0 Try.underlying22 hi0 (some ⟨b, off, none⟩) _ i i _ rfl rfl (Nat.le_refl _) ?_
      go_wp2
      go_ret
      exact ⟨_, i, b, rfl, Nat.le_refl _, hbb, hgg, .inl rfl, by omega, by rw [he.out]; exact hD1⟩
end De
end Go.Proofs.Ytpjomdkcckamkaa
