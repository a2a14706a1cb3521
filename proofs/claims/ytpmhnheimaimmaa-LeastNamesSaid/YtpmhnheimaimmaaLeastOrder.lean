/- The statement LeastOrder by a walk. -/
import Derived.Test.YtpmhnheimaimmaaLeastAlive
import Derived.Test.YtpmhnheimaimmaaLeastOrderPure
import Derived.Test.YtpmhnheimaimmaaLeastWalks7
namespace Go.Proofs.Ytpmhnheimaimmaa
open Go.RowKit
namespace Least

theorem Order_long (w : World) (lo hi lo' hi' lo3 hi3 : Nat) (A : Option Addr) (n c : Nat) (xs : List Int) (h : Ints w lo hi .u32 A n xs) (B : Option Addr) (m d : Nat) (ys : List Int) (h2 : Ints w lo' hi' .u32 B m ys)
    (C : Option Addr) (k f : Nat) (zs : List Int) (h3 : Ints w lo3 hi3 .u32 C k zs) (hl : 70 < n ∨ 70 < m ∨ 70 < k) :
    Calls Try.prog 4 #[.slice A n c, .slice B m d, .slice C k f] w fun e w' => e = .returned (.bool true) ∧ Below w.heap.size w w' := by
  have hbig := h.big
  have hbig2 := h2.big
  have hbig3 := h3.big
  by_cases h1 : 70 < n
  · clear hl
    go_enter Try.func4, Try.ntmps4
    go_wp2_with fail
    refine (alive_any _).mono ?_
    rintro e w' ⟨rfl, hb⟩
    go_wp2
    go_ret
    exact ⟨rfl, hb⟩
  · by_cases h2 : 70 < m
    · clear hl
      go_enter Try.func4, Try.ntmps4
      go_wp2_with fail
      refine (alive_any _).mono ?_
      rintro e w' ⟨rfl, hb⟩
      go_wp2
      go_ret
      exact ⟨rfl, hb⟩
    · have h3 := (hl.resolve_left h1).resolve_left h2
      clear hl
      go_enter Try.func4, Try.ntmps4
      go_wp2_with fail
      refine (alive_any _).mono ?_
      rintro e w' ⟨rfl, hb⟩
      go_wp2
      go_ret
      exact ⟨rfl, hb⟩

/-- A list may not be. -/
theorem Order_bad (w : World) (lo hi lo' hi' lo3 hi3 : Nat) (A : Option Addr) (n c : Nat) (xs : List Int) (h : Ints w lo hi .u32 A n xs) (B : Option Addr) (m d : Nat) (ys : List Int) (h2 : Ints w lo' hi' .u32 B m ys)
    (C : Option Addr) (k f : Nat) (zs : List Int) (h3 : Ints w lo3 hi3 .u32 C k zs) (hh1 : hi ≤ w.heap.size) (hh2 : hi' ≤ w.heap.size) (hh3 : hi3 ≤ w.heap.size) (hn : n ≤ 70) (hm : m ≤ 70) (hk : k ≤ 70)
    (c1 c2 c3 : Int) (e1 : checkCode xs = c1) (e2 : checkCode ys = c2) (e3 : checkCode zs = c3) (hl : c1 ≠ 0 ∨ c2 ≠ 0 ∨ c3 ≠ 0) :
    Calls Try.prog 4 #[.slice A n c, .slice B m d, .slice C k f] w fun e w' => e = .returned (.bool true) ∧ Below w.heap.size w w' := by
  have hbig := h.big
  have hbig2 := h2.big
  have hbig3 := h3.big
  have E1 := Lib.hid e1
  have E2 := Lib.hid e2
  have E3 := Lib.hid e3
  by_cases g1 : c1 = 0
  · by_cases g2 : c2 = 0
    · have g3 : c3 ≠ 0 := (hl.resolve_left (fun e => e g1)).resolve_left (fun e => e g2)
      have hd : (c3 != 0) = true := by simpa using g3
      subst g1
      subst g2
      clear hl e1 e2 e3
      go_enter Try.func4, Try.ntmps4
      go_wp2_with fail
      refine (alive_any _).mono ?_
      rintro e w1 ⟨rfl, hb⟩
      go_wp2_with fail
      refine (Check_any _ _ _ _ _ _ xs (h.below hb hh1) 0 E1.out).mono ?_
      rintro e w2 ⟨rfl, m2, rfl⟩
      go_wp2_with fail
      refine (Check_any _ _ _ _ _ _ ys ((h2.below hb hh2).drewN _) 0 E2.out).mono ?_
      rintro e w2 ⟨rfl, m3, rfl⟩
      go_wp2_with fail
      refine (Check_any _ _ _ _ _ _ zs ((h3.below hb hh3).drewN _) c3 E3.out).mono ?_
      rintro e w2 ⟨rfl, m4, rfl⟩
      go_wp2_with fail
      go_ret
      exact ⟨rfl, below_drewN hb _⟩
    · have hd : (c2 != 0) = true := by simpa using g2
      subst g1
      clear hl e1 e2 e3
      go_enter Try.func4, Try.ntmps4
      go_wp2_with fail
      refine (alive_any _).mono ?_
      rintro e w1 ⟨rfl, hb⟩
      go_wp2_with fail
      refine (Check_any _ _ _ _ _ _ xs (h.below hb hh1) 0 E1.out).mono ?_
      rintro e w2 ⟨rfl, m2, rfl⟩
      go_wp2_with fail
      refine (Check_any _ _ _ _ _ _ ys ((h2.below hb hh2).drewN _) c2 E2.out).mono ?_
      rintro e w2 ⟨rfl, m3, rfl⟩
      go_wp2_with fail
      go_ret
      exact ⟨rfl, below_drewN hb _⟩
  · have hd : (c1 != 0) = true := by simpa using g1
    clear hl e1 e2 e3
    go_enter Try.func4, Try.ntmps4
    go_wp2_with fail
    refine (alive_any _).mono ?_
    rintro e w1 ⟨rfl, hb⟩
    go_wp2_with fail
    refine (Check_any _ _ _ _ _ _ xs (h.below hb hh1) c1 E1.out).mono ?_
    rintro e w2 ⟨rfl, m2, rfl⟩
    go_wp2_with fail
    go_ret
    exact ⟨rfl, below_drewN hb _⟩

/-- Join, of what it makes no more is said than what is asked. -/
theorem Join_kept (w : World) (lo hi lo' hi' : Nat) (A : Option Addr) (n c : Nat) (xs : List Int) (h : Ints w lo hi .u32 A n xs) (B : Option Addr) (m d : Nat) (ys : List Int) (h2 : Ints w lo' hi' .u32 B m ys)
    (hnc : n ≤ c) (hmd : m ≤ d) (hx : checkCode xs = 0) (hy : checkCode ys = 0) (hhi : hi ≤ w.heap.size) (hhi' : hi' ≤ w.heap.size) (zs : List Int) (hz : joinN 8 xs ys = zs) :
    Calls Try.prog 9 #[.slice A n c, .slice B m d] w fun e w' => ∃ A' n' c', e = .returned (.tuple #[.slice A' n' c', .int .i64 0]) ∧ n' ≤ c' ∧ Below w.heap.size w w' ∧ Ints w' 0 w'.heap.size .u32 A' n' zs := by
  subst hz
  refine (Join_ok w _ _ _ _ A n c xs h B m d ys h2 hnc hmd hx hy hhi hhi').mono ?_
  rintro e w' ⟨A', c', rfl, hb, hown⟩
  have hl := joinN_len 8 xs ys
  refine ⟨A', _, c', rfl, own_cap hown, hb, (Ints.of_own hown (fun x hx' => ?_) (by omega)).more (Nat.zero_le _) (Nat.le_refl _)⟩
  have h1 := (checkCode_ok hx).2
  have h2' := (checkCode_ok hy).2
  rw [joinN_all xs ys 8 h1 h2'] at hx'
  rcases (all_mem xs ys x).1 (List.mem_of_mem_take hx') with h' | h'
  · exact h.wf x h'
  · exact h2.wf x h'

set_option maxHeartbeats 1600000 in
/-- All three may be. -/
theorem Order_ok (w : World) (lo hi lo' hi' lo3 hi3 : Nat) (A : Option Addr) (n c : Nat) (xs : List Int) (h : Ints w lo hi .u32 A n xs) (B : Option Addr) (m d : Nat) (ys : List Int) (h2 : Ints w lo' hi' .u32 B m ys)
    (C : Option Addr) (k f : Nat) (zs : List Int) (h3 : Ints w lo3 hi3 .u32 C k zs) (hh1 : hi ≤ w.heap.size) (hh2 : hi' ≤ w.heap.size) (hh3 : hi3 ≤ w.heap.size) (hn : n ≤ 70) (hm : m ≤ 70) (hk : k ≤ 70) (hnc : n ≤ c) (hmd : m ≤ d) (hkf : k ≤ f)
    (e1 : checkCode xs = 0) (e2 : checkCode ys = 0) (e3 : checkCode zs = 0) :
    Calls Try.prog 4 #[.slice A n c, .slice B m d, .slice C k f] w fun e w' => e = .returned (.bool true) ∧ Below w.heap.size w w' := by
  have hbig := h.big
  have hbig2 := h2.big
  have hbig3 := h3.big
  have s1 := (checkCode_ok e1).2
  have s2 := (checkCode_ok e2).2
  have s3 := (checkCode_ok e3).2
  have E1 := Lib.hid e1
  have E2 := Lib.hid e2
  have E3 := Lib.hid e3
  obtain ⟨ab, hab⟩ : ∃ l, joinN 8 xs ys = l := ⟨_, rfl⟩
  obtain ⟨ba, hba⟩ : ∃ l, joinN 8 ys xs = l := ⟨_, rfl⟩
  obtain ⟨bc, hbc⟩ : ∃ l, joinN 8 ys zs = l := ⟨_, rfl⟩
  obtain ⟨p, hp⟩ : ∃ l, joinN 8 ab zs = l := ⟨_, rfl⟩
  obtain ⟨q, hq⟩ : ∃ l, joinN 8 xs bc = l := ⟨_, rfl⟩
  obtain ⟨r, hr⟩ : ∃ l, joinN 8 ab ys = l := ⟨_, rfl⟩
  obtain ⟨s, hs⟩ : ∃ l, joinN 8 xs [] = l := ⟨_, rfl⟩
  have Q1 : Hid (ab = ba) := by rw [Hid, ← hab, ← hba, joinN_comm]
  have Q2 : Hid (p = q) := by rw [Hid, ← hp, ← hq, ← hab, ← hbc, joinN_assoc 8 xs ys zs s1 s2 s3]
  have Q3 : Hid (r = ab) := by rw [Hid, ← hr, ← hab, joinN_again 8 xs ys s1 s2]
  have Q4 : Hid (s = xs) := by rw [Hid, ← hs, joinN_nil 8 xs s1 (checkCode_ok e1).1]
  have Cab : Hid (checkCode ab = 0) := by rw [Hid, ← hab]; exact join_code e1 e2
  have Cbc : Hid (checkCode bc = 0) := by rw [Hid, ← hbc]; exact join_code e2 e3
  have Cn : Hid (checkCode [] = 0) := by rw [Hid]; decide
  have Hab := Lib.hid hab
  have Hba := Lib.hid hba
  have Hbc := Lib.hid hbc
  have Hp := Lib.hid hp
  have Hq := Lib.hid hq
  have Hr := Lib.hid hr
  have Hs := Lib.hid hs
  clear e1 e2 e3 hab hba hbc hp hq hr hs s1 s2 s3
  go_enter Try.func4, Try.ntmps4
  go_wp2_with fail
  refine (alive_any _).mono ?_
  rintro e w1 ⟨rfl, hb⟩
  go_wp2_with fail
  refine (Check_any _ _ _ _ _ _ xs (h.below hb hh1) 0 E1.out).mono ?_
  rintro e w2 ⟨rfl, m2, hw2⟩
  have hb : Below w.heap.size w w2 := hw2 ▸ below_drewN hb _
  clear hw2
  go_wp2_with fail
  refine (Check_any _ _ _ _ _ _ ys (h2.below hb hh2) 0 E2.out).mono ?_
  rintro e w3 ⟨rfl, m3, hw3⟩
  have hb : Below w.heap.size w w3 := hw3 ▸ below_drewN hb _
  clear hw3
  go_wp2_with fail
  refine (Check_any _ _ _ _ _ _ zs (h3.below hb hh3) 0 E3.out).mono ?_
  rintro e w4 ⟨rfl, m4, hw4⟩
  have hb : Below w.heap.size w w4 := hw4 ▸ below_drewN hb _
  clear hw4
  have hx := h.below hb hh1
  have hy := h2.below hb hh2
  have hz := h3.below hb hh3
  have g1 := Nat.le_trans hh1 hb.size
  have g2 := Nat.le_trans hh2 hb.size
  have g3 := Nat.le_trans hh3 hb.size
  clear h h2 h3 hh1 hh2 hh3
  go_wp2_with fail
  refine (Join_kept _ _ _ _ _ _ _ _ xs hx _ _ _ ys hy hnc hmd E1.out E2.out g1 g2 ab Hab.out).mono ?_
  rintro e w5 ⟨A1, n1, c1, rfl, hc1, b5, i1⟩
  have hx := hx.below b5 g1
  have hy := hy.below b5 g2
  have hz := hz.below b5 g3
  have hb := hb.trans (b5.mono hb.size)
  have g1 := Nat.le_trans g1 b5.size
  have g2 := Nat.le_trans g2 b5.size
  have g3 := Nat.le_trans g3 b5.size
  clear b5
  go_wp2_with fail
  refine (Join_kept _ _ _ _ _ _ _ _ ys hy _ _ _ xs hx hmd hnc E2.out E1.out g2 g1 ba Hba.out).mono ?_
  rintro e w6 ⟨A2, n2, c2, rfl, hc2, b6, i2⟩
  have hx := hx.below b6 g1
  have hy := hy.below b6 g2
  have hz := hz.below b6 g3
  have i1 := (i1.below b6 (Nat.le_refl _)).more (Nat.le_refl _) b6.size
  have hb := hb.trans (b6.mono hb.size)
  have g1 := Nat.le_trans g1 b6.size
  have g2 := Nat.le_trans g2 b6.size
  have g3 := Nat.le_trans g3 b6.size
  clear b6
  go_wp2_with fail
  refine (Join_kept _ _ _ _ _ _ _ _ ys hy _ _ _ zs hz hmd hkf E2.out E3.out g2 g3 bc Hbc.out).mono ?_
  rintro e w7 ⟨A3, n3, c3, rfl, hc3, b7, i3⟩
  have hx := hx.below b7 g1
  have hy := hy.below b7 g2
  have hz := hz.below b7 g3
  have i1 := (i1.below b7 (Nat.le_refl _)).more (Nat.le_refl _) b7.size
  have i2 := (i2.below b7 (Nat.le_refl _)).more (Nat.le_refl _) b7.size
  have hb := hb.trans (b7.mono hb.size)
  have g1 := Nat.le_trans g1 b7.size
  have g2 := Nat.le_trans g2 b7.size
  have g3 := Nat.le_trans g3 b7.size
  clear b7
  go_wp2_with fail
  refine (Join_kept _ _ _ _ _ _ _ _ ab i1 _ _ _ zs hz hc1 hkf Cab.out E3.out (Nat.le_refl _) g3 p Hp.out).mono ?_
  rintro e w8 ⟨A4, n4, c4, rfl, hc4, b8, i4⟩
  have hx := hx.below b8 g1
  have hy := hy.below b8 g2
  have i1 := (i1.below b8 (Nat.le_refl _)).more (Nat.le_refl _) b8.size
  have i2 := (i2.below b8 (Nat.le_refl _)).more (Nat.le_refl _) b8.size
  have i3 := (i3.below b8 (Nat.le_refl _)).more (Nat.le_refl _) b8.size
  have hb := hb.trans (b8.mono hb.size)
  have g1 := Nat.le_trans g1 b8.size
  have g2 := Nat.le_trans g2 b8.size
  clear b8 hz
  go_wp2_with fail
  refine (Join_kept _ _ _ _ _ _ _ _ xs hx _ _ _ bc i3 hnc hc3 E1.out Cbc.out g1 (Nat.le_refl _) q Hq.out).mono ?_
  rintro e w9 ⟨A5, n5, c5, rfl, hc5, b9, i5⟩
  have hx := hx.below b9 g1
  have hy := hy.below b9 g2
  have i1 := (i1.below b9 (Nat.le_refl _)).more (Nat.le_refl _) b9.size
  have i2 := (i2.below b9 (Nat.le_refl _)).more (Nat.le_refl _) b9.size
  have i4 := (i4.below b9 (Nat.le_refl _)).more (Nat.le_refl _) b9.size
  have hb := hb.trans (b9.mono hb.size)
  have g1 := Nat.le_trans g1 b9.size
  have g2 := Nat.le_trans g2 b9.size
  clear b9 i3
  go_wp2_with fail
  refine (Join_kept _ _ _ _ _ _ _ _ ab i1 _ _ _ ys hy hc1 hmd Cab.out E2.out (Nat.le_refl _) g2 r Hr.out).mono ?_
  rintro e w10 ⟨A6, n6, c6, rfl, hc6, b10, i6⟩
  have hx := hx.below b10 g1
  have i1 := (i1.below b10 (Nat.le_refl _)).more (Nat.le_refl _) b10.size
  have i2 := (i2.below b10 (Nat.le_refl _)).more (Nat.le_refl _) b10.size
  have i4 := (i4.below b10 (Nat.le_refl _)).more (Nat.le_refl _) b10.size
  have i5 := (i5.below b10 (Nat.le_refl _)).more (Nat.le_refl _) b10.size
  have hb := hb.trans (b10.mono hb.size)
  have g1 := Nat.le_trans g1 b10.size
  clear b10 hy
  go_wp2_with fail
  refine (Join_kept _ _ _ _ _ _ _ _ xs hx _ _ _ [] (Ints.nil_ _ 0 0 _ _) hnc (Nat.le_refl _) E1.out Cn.out g1 (Nat.zero_le _) s Hs.out).mono ?_
  rintro e w11 ⟨A7, n7, c7, rfl, hc7, b11, i7⟩
  have hx := hx.below b11 g1
  have i1 := (i1.below b11 (Nat.le_refl _)).more (Nat.le_refl _) b11.size
  have i2 := (i2.below b11 (Nat.le_refl _)).more (Nat.le_refl _) b11.size
  have i4 := (i4.below b11 (Nat.le_refl _)).more (Nat.le_refl _) b11.size
  have i5 := (i5.below b11 (Nat.le_refl _)).more (Nat.le_refl _) b11.size
  have i6 := (i6.below b11 (Nat.le_refl _)).more (Nat.le_refl _) b11.size
  have hb := hb.trans (b11.mono hb.size)
  clear b11
  go_wp2_with fail
  refine (SameTags_any _ _ _ _ _ _ _ _ _ i1 _ _ _ _ i2 true (by simp [Q1.out])).mono ?_
  rintro e w12 ⟨rfl, m12, rfl⟩
  go_wp2_with fail
  refine (SameTags_any _ _ _ _ _ _ _ _ _ (i4.drewN _) _ _ _ _ (i5.drewN _) true (by simp [Q2.out])).mono ?_
  rintro e w12 ⟨rfl, m13, rfl⟩
  go_wp2_with fail
  refine (SameTags_any _ _ _ _ _ _ _ _ _ (i6.drewN _) _ _ _ _ (i1.drewN _) true (by simp [Q3.out])).mono ?_
  rintro e w12 ⟨rfl, m14, rfl⟩
  go_wp2_with fail
  refine (SameTags_any _ _ _ _ _ _ _ _ _ (i7.drewN _) _ _ _ _ (hx.drewN _) true (by simp [Q4.out])).mono ?_
  rintro e w12 ⟨rfl, m15, rfl⟩
  go_wp2_with fail
  go_ret
  exact ⟨rfl, below_drewN hb _⟩
end Least
end Go.Proofs.Ytpmhnheimaimmaa
