/- headcountref03.Near: a walk (printed by a program of mine). -/
import Derived.Test.YtmbppgjhdcmckaaDoorBf17
namespace Go.Proofs.YtmbppgjhdcmckaaDoor
open Go.RowKit
namespace Dy
open Dp
theorem plusS_le (s : Bool) (m : Nat) (t : Bool) (n : Nat) : (plusS s m t n).2 ≤ m + n := by
 unfold plusS
 split
 · exact Nat.le_refl _
 · split
   · exact Nat.le_trans (Nat.sub_le _ _) (Nat.le_add_right _ _)
   · exact Nat.le_trans (Nat.sub_le _ _) (Nat.le_add_left _ _)
end Dy
end Go.Proofs.YtmbppgjhdcmckaaDoor