/- The reference's draws: whole. -/
import Derived.Test.YtpjomdkcckamkaaCaRef6
namespace Go.Proofs.Ytpjomdkcckamkaa
open Go.RowKit Go.Sort Go.Shelf
namespace De
set_option maxHeartbeats 800000 in
theorem DrawsR_bad (w : World) (own cap : Int) (A : Option Addr) (n c : Nat) (xs : List (Int × Int)) (hX : Descs w 0 w.heap.size A n xs) (hn : n ≤ 1000) (B : Option Addr) (m d : Nat) (hm : ¬ mayC own cap xs = true) :
    Calls Try.prog 52 #[.agg #[.int .i64 own, .int .i64 cap, .slice A n c], .slice B m d] w (NumPost w [] 8) := by
  have hf : mayC own cap xs = false := Bool.eq_false_iff.2 hm
  have HM := Lib.hid hf
  clear hf hm
  go_enter Try.func52, Try.ntmps52
  go_wp2_with fail
  refine (MayR_any _ own cap A n c xs ((hX.alloc (Nat.le_refl _) _).more (Nat.le_refl _) (by simp)) (by omega) false HM.out).mono ?_
  rintro e w1 ⟨rfl, hb1, hp1⟩
  obtain ⟨_, hs1, hbb⟩ := box3 hb1
  clear hb1
  go_wp2
  go_ret2
  exact ⟨none, 0, 0, rfl, Nat.le_refl _, hbb, hp1, Ints.nil_ ..⟩
/-- headcountref09.Draws. -/
theorem DrawsR_any (w : World) (own cap : Int) (A : Option Addr) (n c : Nat) (xs : List (Int × Int)) (hX : Descs w 0 w.heap.size A n xs) (hc : n ≤ c) (hn : n ≤ 1000) (B : Option Addr) (m d : Nat) (ys : List (Int × Int)) (hY : Descs w 0 w.heap.size B m ys) (r : Int) (hr : drawsC own cap xs ys = r) :
    Calls Try.prog 52 #[.agg #[.int .i64 own, .int .i64 cap, .slice A n c], .slice B m d] w (NumPost w (drawsL own cap xs ys) r) := by
  by_cases hm : mayC own cap xs = true
  · exact DrawsR_ok w own cap A n c xs hX hc B m d ys hY hm r hr
  · rw [drawsC, if_neg hm] at hr
    subst hr
    rw [drawsL, if_neg hm]
    exact DrawsR_bad w own cap A n c xs hX hn B m d hm
end De
end Go.Proofs.Ytpjomdkcckamkaa
