/- headcountref15: zero, May, Check, Give, Take: walks (printed by a program of mine). -/
import Derived.Test.YtmbppgjhdcmckaaDoorBf14
import Derived.Test.YtmbppgjhdcmckaaDoorBf15
namespace Go.Proofs.YtmbppgjhdcmckaaDoor
open Go.RowKit
namespace Ma
open Dp Dy
end Ma
end Go.Proofs.YtmbppgjhdcmckaaDoor
