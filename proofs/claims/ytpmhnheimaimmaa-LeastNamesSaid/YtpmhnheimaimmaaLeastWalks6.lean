/- How tags are joined: the program's way; what is guessed; each by a walk. -/
import Derived.Test.YtpmhnheimaimmaaLeastWalks5
namespace Go.Proofs.Ytpmhnheimaimmaa
open Go.RowKit
namespace Least

/-- least.Join, where a list may not be. -/
theorem Join_bad (w : World) (lo hi lo' hi' : Nat) (A : Option Addr) (n c : Nat) (xs : List Int) (h : Ints w lo hi .u32 A n xs) (B : Option Addr) (m d : Nat) (ys : List Int) (h2 : Ints w lo' hi' .u32 B m ys)
    (hhi : hi ≤ w.heap.size) (hhi' : hi' ≤ w.heap.size)
    (code : Int) (hcode : (if checkCode xs = 0 then checkCode ys else checkCode xs) = code) (h0 : code ≠ 0) :
    Calls Try.prog 9 #[.slice A n c, .slice B m d] w fun e w' => e = .returned (.tuple #[.slice none 0 0, .int .i64 code]) ∧ Below w.heap.size w w' := by
  have hb : Below w.heap.size w ((w.alloc (.cells #[.slice A n c] 22)).alloc (.cells #[.slice B m d] 22)) := ((Below.refl _ w).alloc (Nat.le_refl _) _).alloc (by simp) _
  by_cases hx : checkCode xs = 0
  · rw [if_pos hx] at hcode
    have HX := Lib.hid hx
    have HC := Lib.hid hcode
    have h1 : (code != 0) = true := by simpa using h0
    clear hx hcode h0
    go_enter Try.func9, Try.ntmps9
    go_wp2_with fail
    go_step3
    go_wp2_with fail
    refine (Check_any _ lo hi _ _ _ xs (h.below hb hhi) 0 HX.out).mono ?_; rintro e w' ⟨rfl, m1, rfl⟩
    go_wp2_with fail
    refine (Check_any _ lo' hi' _ _ _ ys ((h2.below hb hhi').drewN m1) code HC.out).mono ?_; rintro e w' ⟨rfl, m2, rfl⟩
    go_wp2_with fail
    rw [Exit.noGoto_ret]
    go_ret2
    exact ⟨rfl, hb.trans (below_of_drewN ..)⟩
  · rw [if_neg hx] at hcode
    have HC := Lib.hid hcode
    have h1 : (code != 0) = true := by simpa using h0
    clear hx hcode h0
    go_enter Try.func9, Try.ntmps9
    go_wp2_with fail
    go_step3
    go_wp2_with fail
    refine (Check_any _ lo hi _ _ _ xs (h.below hb hhi) code HC.out).mono ?_; rintro e w' ⟨rfl, m1, rfl⟩
    go_wp2_with fail
    rw [Exit.noGoto_ret]
    go_ret2
    exact ⟨rfl, hb.trans (below_of_drewN ..)⟩

theorem held_new (w : World) (A : Option Addr) (n c : Nat) (xs : List Int) (o : Obj) (t : TypeId) (k lo hi : Nat) (hnc : n ≤ c) (h : Ints w lo hi .u32 A n xs) (hhi : hi ≤ w.heap.size) :
    Held (((w.alloc (.cells #[.slice A n c] t)).alloc o).drewN k) w.heap.size w.heap.size xs := by
  refine ⟨A, n, c, by simp [go_sem, World.cell?_alloc_past], ?_, hnc, (((h.alloc hhi _).alloc (by simp; omega) _).drewN k).more (Nat.zero_le _) hhi⟩
  simp [go_sem]
theorem held_new' (w : World) (A : Option Addr) (n c : Nat) (xs : List Int) (o : Obj) (t : TypeId) (k lo hi : Nat) (hnc : n ≤ c) (h : Ints w lo hi .u32 A n xs) (hhi : hi ≤ w.heap.size) :
    Held (((w.alloc o).alloc (.cells #[.slice A n c] t)).drewN k) (w.heap.size + 1) w.heap.size xs := by
  refine ⟨A, n, c, by simp [go_sem], ?_, hnc, (((h.alloc hhi _).alloc (by simp; omega) _).drewN k).more (Nat.zero_le _) hhi⟩
  simp [go_sem]

def slen : Value → Nat | .slice _ n _ => n | _ => 0

set_option maxHeartbeats 800000 in
/-- least.Join, where both may be. -/
theorem Join_ok (w : World) (lo hi lo' hi' : Nat) (A : Option Addr) (n c : Nat) (xs : List Int) (h : Ints w lo hi .u32 A n xs) (B : Option Addr) (m d : Nat) (ys : List Int) (h2 : Ints w lo' hi' .u32 B m ys)
    (hnc : n ≤ c) (hmd : m ≤ d)
    (hx : checkCode xs = 0) (hy : checkCode ys = 0) (hhi : hi ≤ w.heap.size) (hhi' : hi' ≤ w.heap.size) :
    Calls Try.prog 9 #[.slice A n c, .slice B m d] w fun e w' => ∃ A' c', e = .returned (.tuple #[.slice A' (joinN 8 xs ys).length c', .int .i64 0]) ∧ Below w.heap.size w w' ∧
      w'.ownsRow w.heap.size 35 1 (.slice A' (joinN 8 xs ys).length c') (joinN 8 xs ys).length ((joinN 8 xs ys).map (Value.int .u32)) := by
  have hb : Below w.heap.size w ((w.alloc (.cells #[.slice A n c] 22)).alloc (.cells #[.slice B m d] 22)) := ((Below.refl _ w).alloc (Nat.le_refl _) _).alloc (by simp) _
  obtain ⟨i0, hi0, hz0, hz1, hz2⟩ := info_parts Try.info35
  have hmf : ∀ (fn : Fn) (first cap : Array Value) (w : World), (Instr.makeFunc fn first cap).run Try.prog w = .ok (.func fn first cap) w := fun _ _ _ _ => rfl
  have HX := Lib.hid hx
  have HY := Lib.hid hy
  clear hx hy
  go_enter Try.func9, Try.ntmps9
  go_wp2_with fail
  go_step3
  go_wp2_with fail
  refine (Check_any _ lo hi _ _ _ xs (h.below hb hhi) 0 HX.out).mono ?_; rintro e w' ⟨rfl, m1, rfl⟩
  go_wp2_with fail
  refine (Check_any _ lo' hi' _ _ _ ys ((h2.below hb hhi').drewN m1) 0 HY.out).mono ?_; rintro e w' ⟨rfl, m2, rfl⟩
  go_wp2_with fail
  go_step3
  go_wp2_with fail
  go_loopw [4] (fun v wr => ∃ A' n' c' zs xs' ys', v = .slice A' n' c' ∧ n' ≤ 8 ∧ wr.ownsRow (w.heap.size + 2) 35 1 (.slice A' n' c') n' (zs.map (Value.int .u32)) ∧ Held wr w.heap.size w.heap.size xs' ∧ Held wr (w.heap.size + 1) w.heap.size ys' ∧
      Below w.heap.size w wr ∧ w.heap.size + 2 ≤ wr.heap.size ∧ Hid (zs ++ joinN (8 - n') xs' ys' = joinN 8 xs ys)) (fun v _ => 8 - slen v)
  case atStart =>
    exact ⟨none, 0, 0, [], xs, ys, rfl, by omega, World.ownsRow_nil _ _ _ _, held_new w A n c xs _ _ _ lo hi hnc h hhi, held_new' w B m d ys _ _ _ lo' hi' hmd h2 hhi', below_drewN hb _, by simp, rfl⟩
  case round =>
    obtain ⟨A', n', c', zs, xs', ys', rfl, hn8, hown, hl, hr, hnx, hsz, hj⟩ := hrel
    have hzl : zs.length = n' := by simpa using hown.1
    have HZ := Lib.hid hzl
    clear hzl hb h h2
    by_cases hlt : n' < 8
    · cases hns : nextS xs' ys' with
      | none =>
        have hxs : xs' = [] ∧ ys' = [] := by
          cases xs' <;> cases ys' <;> simp [nextS] at hns ⊢
          split at hns <;> cases hns
        obtain ⟨rfl, rfl⟩ := hxs
        clear hns
        have hf : zs = joinN 8 xs ys := by
          rw [← hj.out]
          obtain ⟨q, hq⟩ : ∃ q, 8 - n' = q + 1 := ⟨7 - n', by omega⟩
          rw [hq]; simp [joinN, nextS]
        have HF := Lib.hid hf
        clear hf
        go_wp2_with (go_at_call 27; refine (next_none _ _ _ _ hl hr).mono ?_; rintro e w2 ⟨rfl, ht⟩)
        have hown2 := own_two hown ht (by omega) (by omega)
        have hb2 := hnx.trans (ht.below (Nat.le_refl _) (by omega))
        clear hown ht hl hr hnx
        go_wp2_with fail
        rw [Exit.noGoto_ret]
        go_ret2
        obtain rfl := HZ.out
        rw [← HF.out]
        exact ⟨A', c', rfl, hb2, hown2.2.elim (fun e => ⟨hown2.1, .inl e⟩) (fun ⟨g, cap, cur, h1, h2, h3⟩ => ⟨hown2.1, .inr ⟨g, cap, cur, h1, by omega, h3⟩⟩)⟩
      | some p =>
        obtain ⟨x, xs2, ys2⟩ := p
        have HS := Lib.hid hns
        clear hns
        go_wp2_with (first | (go_at_call 27; refine (next_some _ _ _ _ _ _ _ _ _ HS.out (by omega) (Nat.le_refl _) (by omega) hl hr).mono ?_; rintro e w2 ⟨rfl, hl2, hr2, ht⟩; have hown2 := own_two hown ht (by omega) (by omega)) | (at_builtin; refine wpList_append_raw _ rfl (.tmp 32) (.tmp 34) 22 rfl (w.heap.size + 2) 35 i0 (.int .u32 0) 1 4 Try.underlying22 hi0 hz0 hz1 hz2 rfl (by decide) _ _ _ rfl (hown2.alloc _) _ _ _ 1 1 [.int .u32 x] rfl (raw_one _ _ _ _) ?c1 ?c2 ?c3 ?c4 ?_))
        case c1 => first | rfl | (intro u hu; simp at hu; subst hu; rfl)
        case c2 => unfold maxLen; omega
        case c3 => omega
        case c4 => have := ht.size; simp; omega
        intro A1 c1 w1 hown1 hgrow1 _
        have hb2 := hnx.trans (ht.below (Nat.le_refl _) (by omega))
        have hs2 : w.heap.size + 2 ≤ w2.heap.size := by rw [ht.size]; exact hsz
        clear hown ht hl hr hnx hsz
        have hrow := hown2.lt
        have hg1 : w2.grownBy w1 (Value.slice A' n' c').ownBlock :=
          ⟨hgrow1.os, hgrow1.tape, hgrow1.output, Nat.le_trans (by simp) hgrow1.size, fun k hk hne => (hgrow1.block k (by simp; omega) hne).trans (Below.heap_alloc _ _ _ hk)⟩
        have hl3 := hl2.grown hg1 (fun k hk => by have := hrow k hk; omega) (by omega) (by omega)
        have hr3 := hr2.grown hg1 (fun k hk => by have := hrow k hk; omega) (by omega) (by omega)
        have hb3 := hb2.grown hg1 (by omega) (fun k hk => by have := hrow k hk; omega)
        have hs3 : w.heap.size + 2 ≤ w1.heap.size := Nat.le_trans hs2 hg1.size
        clear hown2 hl2 hr2 hb2 hg1 hgrow1 hrow hs2
        go_wp2
        go_roundw
        case rel =>
          refine ⟨A1, n' + 1, c1, zs ++ [x], xs2, ys2, rfl, by omega, by simpa using hown1, hl3, hr3, hb3, hs3, ?_⟩
          have hj := hj.out
          obtain ⟨q, hq⟩ : ∃ q, 8 - n' = q + 1 := ⟨7 - n', by omega⟩
          rw [hq, joinN, HS.out] at hj
          rw [Hid, ← hj, show 8 - (n' + 1) = q by omega]
          simp
        case measure => simp [slen]; omega
    · have hf : zs = joinN 8 xs ys := by
        rw [← hj.out, show 8 - n' = 0 by omega]
        simp [joinN]
      have HF := Lib.hid hf
      clear hf
      go_wp2_with fail
      rw [Exit.noGoto_ret]
      go_ret2
      obtain rfl := HZ.out
      rw [← HF.out]
      exact ⟨A', c', rfl, hnx, hown.2.elim (fun e => ⟨hown.1, .inl e⟩) (fun ⟨g, cap, cur, h1, h2, h3⟩ => ⟨hown.1, .inr ⟨g, cap, cur, h1, by omega, h3⟩⟩)⟩
end Least
end Go.Proofs.Ytpmhnheimaimmaa
