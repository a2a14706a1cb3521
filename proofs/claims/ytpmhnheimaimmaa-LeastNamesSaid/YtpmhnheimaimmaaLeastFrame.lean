/- Closed facts on this seat's program, for the rows. -/
import Derived.Test.YtpmhnheimaimmaaRows
import Derived.Test.YtpmhnheimaimmaaFrame
namespace Go.Proofs.Ytpmhnheimaimmaa
theorem Try.own : ownKnob Try.prog.godebug = none := by kernel_rfl
theorem Try.laidOut : laidOutB Try.prog = true := by kernel_rfl
theorem Try.cellsU32 : Try.prog.cellsOf 35 = 1 := by kernel_rfl
end Go.Proofs.Ytpmhnheimaimmaa
