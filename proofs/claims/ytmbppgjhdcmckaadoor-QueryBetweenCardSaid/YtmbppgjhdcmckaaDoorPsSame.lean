/- mass.Same in a seat whose set lacks it: a walk (printed by a program of mine). -/
import Derived.Test.YtmbppgjhdcmckaaDoorQuRootZf
namespace Go.Proofs.YtmbppgjhdcmckaaDoor
open Go.RowKit
namespace Ma
open Dp Dy
attribute [local go_sem] Oper.semAt_some
end Ma
end Go.Proofs.YtmbppgjhdcmckaaDoor
