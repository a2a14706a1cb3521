/- Tags of the reference: whether two lists are the same: a walk. -/
import Derived.Test.YtmbppgjhdcmckaaDoorBf08
namespace Go.Proofs.YtmbppgjhdcmckaaDoor
open Go.RowKit
namespace Pa
end Pa
end Go.Proofs.YtmbppgjhdcmckaaDoor
