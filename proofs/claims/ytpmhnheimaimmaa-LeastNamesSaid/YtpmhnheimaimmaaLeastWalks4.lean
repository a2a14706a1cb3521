/- How tags are joined: the program's way; what is guessed; each by a walk. -/
import Derived.Test.YtpmhnheimaimmaaLeastWalks3
namespace Go.Proofs.Ytpmhnheimaimmaa
open Go.RowKit
namespace Least

/-- headcountref18.Join, where a list may not be. -/
theorem RJoin_bad (w : World) (lo hi lo' hi' : Nat) (A : Option Addr) (n c : Nat) (xs : List Int) (h : Ints w lo hi .u32 A n xs) (B : Option Addr) (m d : Nat) (ys : List Int) (h2 : Ints w lo' hi' .u32 B m ys)
    (code : Int) (hcode : (if checkCode xs = 0 then checkCode ys else checkCode xs) = code) (h0 : code ≠ 0) :
    Calls Try.prog 10 #[.slice A n c, .slice B m d] w fun e w' => e = .returned (.tuple #[.slice none 0 0, .int .i64 code]) ∧ Below w.heap.size w w' := by
  by_cases hx : checkCode xs = 0
  · rw [if_pos hx] at hcode
    have HX := Lib.hid hx
    have HC := Lib.hid hcode
    have h1 : (code != 0) = true := by simpa using h0
    clear hx hcode h0
    go_enter Try.func10, Try.ntmps10
    go_wp2_with fail
    refine (RCheck_any _ lo hi _ _ _ xs h 0 HX.out).mono ?_; rintro e w' ⟨rfl, m1, rfl⟩
    go_wp2_with fail
    refine (RCheck_any _ lo' hi' _ _ _ ys (h2.drewN m1) code HC.out).mono ?_; rintro e w' ⟨rfl, m2, rfl⟩
    go_wp2_with fail
    go_ret2
    exact ⟨rfl, below_of_drewN ..⟩
  · rw [if_neg hx] at hcode
    have HC := Lib.hid hcode
    have h1 : (code != 0) = true := by simpa using h0
    clear hx hcode h0
    go_enter Try.func10, Try.ntmps10
    go_wp2_with fail
    refine (RCheck_any _ lo hi _ _ _ xs h code HC.out).mono ?_; rintro e w' ⟨rfl, m1, rfl⟩
    go_wp2_with fail
    go_ret2
    exact ⟨rfl, below_of_drewN ..⟩

/-- headcountref18.Join, where both may be. -/
theorem RJoin_ok (w : World) (lo hi lo' hi' : Nat) (A : Option Addr) (n c : Nat) (xs : List Int) (h : Ints w lo hi .u32 A n xs) (B : Option Addr) (m d : Nat) (ys : List Int) (h2 : Ints w lo' hi' .u32 B m ys)
    (hx : checkCode xs = 0) (hy : checkCode ys = 0) (hhi : hi ≤ w.heap.size) (hhi' : hi' ≤ w.heap.size) :
    Calls Try.prog 10 #[.slice A n c, .slice B m d] w fun e w' => ∃ A' c', e = .returned (.tuple #[.slice A' (joinedS xs ys).length c', .int .i64 0]) ∧ Below w.heap.size w w' ∧
      w'.ownsRow w.heap.size 35 1 (.slice A' (joinedS xs ys).length c') (joinedS xs ys).length ((joinedS xs ys).map (Value.int .u32)) := by
  have HX := Lib.hid hx
  have HY := Lib.hid hy
  have hn : n ≤ 1000 := by have := (checkCode_ok hx).1; have := h.len; omega
  have hm : m ≤ 1000 := by have := (checkCode_ok hy).1; have := h2.len; omega
  clear hx hy
  go_enter Try.func10, Try.ntmps10
  go_wp2_with fail
  refine (RCheck_any _ lo hi _ _ _ xs h 0 HX.out).mono ?_; rintro e w' ⟨rfl, m1, rfl⟩
  go_wp2_with fail
  refine (RCheck_any _ lo' hi' _ _ _ ys (h2.drewN m1) 0 HY.out).mono ?_; rintro e w' ⟨rfl, m2, rfl⟩
  go_wp2_with fail
  refine (Joined_any _ lo hi lo' hi' _ _ _ xs (h.drewN _) _ _ _ ys (h2.drewN _) hn hm hhi hhi').mono ?_
  rintro e w' ⟨A', c', rfl, hb, hown⟩
  go_wp2_with fail
  go_ret2
  exact ⟨A', c', rfl, (below_of_drewN ..).trans hb, hown⟩

end Least
end Go.Proofs.Ytpmhnheimaimmaa
