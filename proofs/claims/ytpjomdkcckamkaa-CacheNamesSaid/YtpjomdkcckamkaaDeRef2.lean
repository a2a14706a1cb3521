/- The reference's first ones of each node: a walk. -/
import Derived.Test.YtpjomdkcckamkaaDeRef1
namespace Go.Proofs.Ytpjomdkcckamkaa
open Go.RowKit Go.Sort Go.Shelf
namespace De
theorem stF_seen : ∀ (l : List (Int × Int)) (s : List Int) (y : Int), y ∈ stF seenS s l ↔ y ∈ s ∨ ∃ d ∈ l, d.1 = y
  | [], s, y => by simp [stF]
  | x :: l, s, y => by
    simp only [stF]
    rw [stF_seen l (seenS s x) y]
    unfold seenS
    by_cases h : x.1 ∈ s
    · rw [if_pos h]
      constructor
      · rintro (h1 | ⟨d, hd, e⟩)
        · exact .inl h1
        · exact .inr ⟨d, List.mem_cons_of_mem _ hd, e⟩
      · rintro (h1 | ⟨d, hd, e⟩)
        · exact .inl h1
        · rcases List.mem_cons.1 hd with rfl | hd
          · exact .inl (e ▸ h)
          · exact .inr ⟨d, hd, e⟩
    · rw [if_neg h]
      constructor
      · rintro (h1 | ⟨d, hd, e⟩)
        · rcases List.mem_cons.1 h1 with rfl | h1
          · exact .inr ⟨x, List.mem_cons_self .., rfl⟩
          · exact .inl h1
        · exact .inr ⟨d, List.mem_cons_of_mem _ hd, e⟩
      · rintro (h1 | ⟨d, hd, e⟩)
        · exact .inl (List.mem_cons_of_mem _ h1)
        · rcases List.mem_cons.1 hd with rfl | hd
          · exact .inl (by rw [← e]; exact List.mem_cons_self ..)
          · exact .inr ⟨d, hd, e⟩
/-- Is one of the first k of the node y? -/
def anyId (xs : List (Int × Int)) (k : Nat) (y : Int) : Bool := (xs.take k).any fun d => d.1 == y
theorem anyId_snoc (xs : List (Int × Int)) {k : Nat} (hk : k < xs.length) (y : Int) : anyId xs (k + 1) y = (anyId xs k y || (xs[k]?.getD (0, 0)).1 == y) := by
  unfold anyId
  rw [List.take_succ_eq_append_getElem hk, List.any_append, List.getElem?_eq_getElem hk]
  simp
theorem firsts_snoc (xs : List (Int × Int)) {k : Nat} (hk : k < xs.length) : firsts [] (xs.take (k + 1)) = firsts [] (xs.take k) ++ if anyId xs k (xs[k]?.getD (0, 0)).1 = true then [] else [xs[k]?.getD (0, 0)] := by
  rw [List.getElem?_eq_getElem hk]
  simp only [Option.getD_some]
  rw [List.take_succ_eq_append_getElem hk, ← delF_seen, ← delF_seen, delF_snoc]
  congr 1
  have : seenP (stF seenS [] (xs.take k)) xs[k] = anyId xs k xs[k].1 := by
    unfold seenP anyId
    rw [Bool.eq_iff_iff, decide_eq_true_iff, stF_seen, List.any_eq_true]
    simp
  rw [this]

set_option maxHeartbeats 1600000 in
/-- headcountref07.Firsts. -/
theorem FirstsR_any (w : World) (lo hi : Nat) (A : Option Addr) (n c : Nat) (xs : List (Int × Int)) (hX : Descs w lo hi A n xs) (hhi : hi ≤ w.heap.size) (hn : n ≤ 1000000) :
    Calls Try.prog 66 #[.slice A n c] w fun e w' => ∃ A' n' c', e = .returned (.slice A' n' c') ∧ n' ≤ c' ∧ n' ≤ n ∧ Below w.heap.size w w' ∧ Descs w' w.heap.size w'.heap.size A' n' (firsts [] xs) := by
  have HL := Lib.hid hX.len
  obtain ⟨i0, hi0, hz0, hz1, hz2⟩ := info_parts Try.info29
  go_enter Try.func66, Try.ntmps66
  go_wp2
  go_loopw [3, 4, 5, 6] (fun v iv _ _ wr => ∃ i m : Nat, iv = .int .i64 i ∧ i ≤ n ∧ m ≤ i ∧ wr.ownsRow w.heap.size 29 2 v m (flatD (firsts [] (xs.take i))) ∧ Below w.heap.size w wr)
    (fun _ iv _ _ _ => n - (intOf iv).toNat)
  case atStart => exact ⟨0, 0, rfl, Nat.zero_le _, Nat.le_refl _, World.ownsRow_nil _ _ _ _, Below.refl _ _⟩
  case round =>
    obtain ⟨i, m, rfl, hi', hm, hown, hnx⟩ := hrel
    obtain ⟨Av, cv, rfl, hcv, _⟩ := own_shape hown
    by_cases hlt : i < n
    · obtain ⟨b, off, rfl, h1, h2, hc⟩ := (hX.below hnx hhi).row (by omega)
      obtain ⟨⟨g1, _⟩, g3, _⟩ := hc i hlt
      have hC := Lib.hid hc
      have hfs := firsts_snoc xs (k := i) (by rw [HL.out]; exact hlt)
      have hrng := hX.at_ i
      clear hc
      generalize hz : xs[i]?.getD (0, 0) = z at g1 g3 hfs hrng
      obtain ⟨z1, z2⟩ := z
      have HZ := Lib.hid hz
      have HFS := Lib.hid hfs
      have hin : (i : Int) < n := by omega
      have hi0' : (0 : Int) ≤ i := by omega
      clear hz hfs
      go_wp2
      go_loopw [5, 6] (fun tv kv ww => ∃ k q : Nat, kv = .int .i64 k ∧ k ≤ i ∧ tv = .bool (anyId xs k z1) ∧ ww = wr.drewN q) (fun _ kv _ => i - (intOf kv).toNat)
      case atStart => exact ⟨0, 0, rfl, Nat.zero_le _, rfl, rfl⟩
      case round =>
        obtain ⟨k, q, rfl, hk, rfl, rfl⟩ := hrel
        by_cases hki : k < i
        · obtain ⟨⟨f1, _⟩, _, _⟩ := hC.out k (by omega)
          have hsn := anyId_snoc xs (k := k) (by rw [HL.out]; omega) z1
          have hk0 : (0 : Int) ≤ k := by omega
          have hkn : (k : Int) < n := by omega
          have hkl : (k : Int) < i := by omega
          generalize (xs[k]?.getD (0, 0)).1 = y at f1 hsn
          cases ht : anyId xs k z1 with
          | true =>
            rw [ht, Bool.true_or] at hsn
            have HSN := Lib.hid hsn
            clear hsn ht
            go_wp2
            go_quiet (fail)
            go_wp2
            go_roundw
            case rel => exact ⟨k + 1, _, by go_num, by omega, by rw [HSN.out], by first | rfl | exact World.drewN_drewN _ _ _⟩
            case measure => simp [intOf]; omega
          | false =>
            rw [ht, Bool.false_or] at hsn
            obtain ⟨bb, hbb⟩ : ∃ bb, (y == z1) = bb := ⟨_, rfl⟩
            rw [hbb] at hsn
            have HSN := Lib.hid hsn
            clear hsn ht
            go_wp2
            go_quiet (fail)
            go_wp2
            go_roundw
            case rel => exact ⟨k + 1, _, by go_num, by omega, by rw [HSN.out], by first | rfl | exact World.drewN_drewN _ _ _⟩
            case measure => simp [intOf]; omega
        · obtain rfl : k = i := by omega
          cases ht : anyId xs k z1 with
          | true =>
            have hfs := HFS.out
            rw [if_pos ht, List.append_nil] at hfs
            have HF := Lib.hid hfs
            clear hfs HFS ht
            go_wp2
            go_roundw
            case rel => exact ⟨k + 1, m, by go_num, by omega, by omega, by rw [HF.out]; exact hown, below_drewN hnx _⟩
            case measure => simp [intOf]; omega
          | false =>
            have hfs := HFS.out
            rw [if_neg (by rw [ht]; simp)] at hfs
            have HF := Lib.hid hfs
            have hownd : (wr.drewN q).ownsRow w.heap.size 29 2 (.slice Av m cv) m (flatD (firsts [] (xs.take k))) := hown
            have hnd := below_drewN hnx q
            have hsz := hnx.size
            clear hfs HFS ht hown
            go_wp2_with (first
              | (at_builtin; refine wpList_append_raw _ rfl (.tmp 34) (.tmp 39) 22 rfl w.heap.size 29 i0 _ 2 16 Try.underlying22 hi0 hz0 hz1 hz2 rfl (by decide) _ _ _ rfl (hownd.alloc _) _ _ _ 1 1 (flatD [(z1, z2)]) rfl (raw_oneD _ (z1, z2) _) ?c1 ?c2 ?c3 ?c4 ?_))
            case c1 => exact flatD_one _
            case c2 => unfold maxLen; omega
            case c3 => omega
            case c4 => simp; omega
            intro A2 c2 w2 hown2 hgrow2 _
            have hb2 : Below w.heap.size w w2 := (hnd.alloc (by simp; omega) _).grown hgrow2 (by simp; omega) (fun q hq => (hownd.lt q hq).1)
            rw [← flatD_append] at hown2
            have hown3 : w2.ownsRow w.heap.size 29 2 (.slice A2 (m + 1) c2) (m + 1) (flatD (firsts [] (xs.take (k + 1)))) := by rw [HF.out]; exact hown2
            clear hgrow2 hown2 hownd
            go_wp2
            go_roundw
            case rel => exact ⟨k + 1, m + 1, by go_num, by omega, by omega, hown3, hb2⟩
            case measure => simp [intOf]; omega
    · obtain rfl : i = n := by omega
      rw [List.take_of_length_le (by rw [HL.out]; exact Nat.le_refl _)] at hown
      have hD := Descs.of_own hown (fun x hx => hX.wf x ((firsts_sub xs []).subset hx)) (by omega)
      have HD := Lib.hid hD
      clear hown hD
      go_wp2
      go_ret
      exact ⟨Av, m, cv, rfl, hcv, hm, hnx, HD.out⟩
end De
end Go.Proofs.Ytpjomdkcckamkaa
