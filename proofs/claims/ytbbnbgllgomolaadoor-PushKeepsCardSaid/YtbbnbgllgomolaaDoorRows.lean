/-
  NARROWER THAN 'FOR EVERY INPUT', by the rows' own cells (each row's printed sentence says how): PushTells: laid · RatioScales: laid · RatioBand: laid · PushBand: laid · PushNames: laid · PushKeeps: laid.
  DERIVED. THE GIVEN ROWS OF THIS SEAT. 6 by the template 'for every input the law returns true; each argument reads behind the call as it read before'; 0 by the template 'total and deterministic' (their statements: YtbbnbgllgomolaaDoorTotals.lean).
  GIVEN WITH THE SEED: the statements are not yours to turn. If you find one false, say at which input.
  Laid BY PROGRAM, IN A SANDBOX (cutbox-rows.mjs): the forced cells as the released guide's own fill.sh prints them over the translation a72c0880dfe8f0ef… (all of the seat's roots in one cut). By AI agents, Wed Nov 11 2026. No macro, syntax, notation, axiom, sorry.
-/
import Derived.Test.YtbbnbgllgomolaaDoorChecked
import GoSem.Claim
import GoSem.ClaimJoined
import GoSem.ClaimMapViews
import Derived.JoinedTies
import Derived.KernelRfl
namespace Go.Proofs.YtbbnbgllgomolaaDoor
/- THE CELL 'sum', in the pinned program and in every row, IS THE sha256 OF THE DUMP (.gsa) THAT YtbbnbgllgomolaaDoorProg.lean LOADS. Nothing in Lean hashes anything: it is a label: what it is worth is what the hold of that sum in a sandbox is worth. -/
noncomputable def Tryd.pinned : Pinned := { name := "ytbbnbgllgomolaadoor", sum := "a72c0880dfe8f0efbf4d7fecafc49be1087f25b8076482322210966ee19a908c", checked := Tryd.checked }
namespace Rows
def none {H : Type} : Left H := { results := [], args := [] }

/- WHAT THE LISTED PACKAGE-LEVEL VARIABLES READ AS WHEN THE CALL BEGINS. Each datum BY PROGRAM (the guide's laid-datum.mjs) off the statement by which the dump's own 'gosem.cut.vars' lays the variable. In a bare row this is a premise. The card (YtbbnbgllgomolaaDoorCards.lean) ties it to the program's text. -/
def laid_math_bits_deBruijn32tab {H : Type} : DataW H := .agg [.lit (.int .u8 0), .lit (.int .u8 1), .lit (.int .u8 28), .lit (.int .u8 2), .lit (.int .u8 29), .lit (.int .u8 14), .lit (.int .u8 24), .lit (.int .u8 3), .lit (.int .u8 30), .lit (.int .u8 22), .lit (.int .u8 20), .lit (.int .u8 15), .lit (.int .u8 25), .lit (.int .u8 17), .lit (.int .u8 4), .lit (.int .u8 8), .lit (.int .u8 31), .lit (.int .u8 27), .lit (.int .u8 13), .lit (.int .u8 23), .lit (.int .u8 21), .lit (.int .u8 19), .lit (.int .u8 16), .lit (.int .u8 7), .lit (.int .u8 26), .lit (.int .u8 12), .lit (.int .u8 18), .lit (.int .u8 6), .lit (.int .u8 11), .lit (.int .u8 5), .lit (.int .u8 10), .lit (.int .u8 9)]

/-- 'headcountlaw15.PushTells': WHATEVER THE INPUT: true; the input reads as it did. -/
def pushTellsSpec : ChangeSpec := { name := "pushTells", fn := fun _ => fun
  | [d1, d2] => { results := [.lit (.bool true)], args := [d1, d2] }
  | _ => none }
def pushTellsRow : OpenClaim := { program := "ytbbnbgllgomolaadoor", sum := "a72c0880dfe8f0efbf4d7fecafc49be1087f25b8076482322210966ee19a908c", func := "headcount/headcountlaw15.PushTells", spec := "pushTells", unfollowed := true, recurses := true, named := ["math/bits.deBruijn32tab"], apart := false, laid := [("math/bits.deBruijn32tab", laid_math_bits_deBruijn32tab)] }
def PushTellsSaid : Prop := pushTellsRow.holds Tryd.pinned (OpenSpec.ofChange pushTellsSpec)

/-- ITS FALSE NEIGHBOUR: 'it returns false'. Refute it at one input. -/
def pushTellsWrong : ChangeSpec := { name := "pushTells", fn := fun _ => fun
  | [d1, d2] => { results := [.lit (.bool false)], args := [d1, d2] }
  | _ => none }
def PushTellsWrongFalsely : Prop := pushTellsRow.holds Tryd.pinned (OpenSpec.ofChange pushTellsWrong)

/-- 'headcountlaw03.RatioScales': WHATEVER THE INPUT: true; the input reads as it did. -/
def ratioScalesSpec : ChangeSpec := { name := "ratioScales", fn := fun _ => fun
  | [d1, d2, d3] => { results := [.lit (.bool true)], args := [d1, d2, d3] }
  | _ => none }
def ratioScalesRow : OpenClaim := { program := "ytbbnbgllgomolaadoor", sum := "a72c0880dfe8f0efbf4d7fecafc49be1087f25b8076482322210966ee19a908c", func := "headcount/headcountlaw03.RatioScales", spec := "ratioScales", unfollowed := true, recurses := true, named := ["math/bits.deBruijn32tab"], apart := false, laid := [("math/bits.deBruijn32tab", laid_math_bits_deBruijn32tab)] }
def RatioScalesSaid : Prop := ratioScalesRow.holds Tryd.pinned (OpenSpec.ofChange ratioScalesSpec)

/-- ITS FALSE NEIGHBOUR: 'it returns false'. Refute it at one input. -/
def ratioScalesWrong : ChangeSpec := { name := "ratioScales", fn := fun _ => fun
  | [d1, d2, d3] => { results := [.lit (.bool false)], args := [d1, d2, d3] }
  | _ => none }
def RatioScalesWrongFalsely : Prop := ratioScalesRow.holds Tryd.pinned (OpenSpec.ofChange ratioScalesWrong)

/-- 'headcountlaw03.RatioBand': WHATEVER THE INPUT: true; the input reads as it did. -/
def ratioBandSpec : ChangeSpec := { name := "ratioBand", fn := fun _ => fun
  | [d1, d2, d3] => { results := [.lit (.bool true)], args := [d1, d2, d3] }
  | _ => none }
def ratioBandRow : OpenClaim := { program := "ytbbnbgllgomolaadoor", sum := "a72c0880dfe8f0efbf4d7fecafc49be1087f25b8076482322210966ee19a908c", func := "headcount/headcountlaw03.RatioBand", spec := "ratioBand", unfollowed := true, recurses := true, named := ["math/bits.deBruijn32tab"], apart := false, laid := [("math/bits.deBruijn32tab", laid_math_bits_deBruijn32tab)] }
def RatioBandSaid : Prop := ratioBandRow.holds Tryd.pinned (OpenSpec.ofChange ratioBandSpec)

/-- ITS FALSE NEIGHBOUR: 'it returns false'. Refute it at one input. -/
def ratioBandWrong : ChangeSpec := { name := "ratioBand", fn := fun _ => fun
  | [d1, d2, d3] => { results := [.lit (.bool false)], args := [d1, d2, d3] }
  | _ => none }
def RatioBandWrongFalsely : Prop := ratioBandRow.holds Tryd.pinned (OpenSpec.ofChange ratioBandWrong)

/-- 'headcountlaw15.PushBand': WHATEVER THE INPUT: true; the input reads as it did. -/
def pushBandSpec : ChangeSpec := { name := "pushBand", fn := fun _ => fun
  | [d1, d2, d3, d4] => { results := [.lit (.bool true)], args := [d1, d2, d3, d4] }
  | _ => none }
def pushBandRow : OpenClaim := { program := "ytbbnbgllgomolaadoor", sum := "a72c0880dfe8f0efbf4d7fecafc49be1087f25b8076482322210966ee19a908c", func := "headcount/headcountlaw15.PushBand", spec := "pushBand", unfollowed := true, recurses := true, named := ["math/bits.deBruijn32tab"], apart := false, laid := [("math/bits.deBruijn32tab", laid_math_bits_deBruijn32tab)] }
def PushBandSaid : Prop := pushBandRow.holds Tryd.pinned (OpenSpec.ofChange pushBandSpec)

/-- ITS FALSE NEIGHBOUR: 'it returns false'. Refute it at one input. -/
def pushBandWrong : ChangeSpec := { name := "pushBand", fn := fun _ => fun
  | [d1, d2, d3, d4] => { results := [.lit (.bool false)], args := [d1, d2, d3, d4] }
  | _ => none }
def PushBandWrongFalsely : Prop := pushBandRow.holds Tryd.pinned (OpenSpec.ofChange pushBandWrong)

/-- 'headcountlaw15.PushNames': WHATEVER THE INPUT: true; the input reads as it did. -/
def pushNamesSpec : ChangeSpec := { name := "pushNames", fn := fun _ => fun
  | [] => { results := [.lit (.bool true)], args := [] }
  | _ => none }
def pushNamesRow : OpenClaim := { program := "ytbbnbgllgomolaadoor", sum := "a72c0880dfe8f0efbf4d7fecafc49be1087f25b8076482322210966ee19a908c", func := "headcount/headcountlaw15.PushNames", spec := "pushNames", unfollowed := true, recurses := true, named := ["math/bits.deBruijn32tab"], apart := false, laid := [("math/bits.deBruijn32tab", laid_math_bits_deBruijn32tab)] }
def PushNamesSaid : Prop := pushNamesRow.holds Tryd.pinned (OpenSpec.ofChange pushNamesSpec)

/-- ITS FALSE NEIGHBOUR: 'it returns false'. Refute it at one input. -/
def pushNamesWrong : ChangeSpec := { name := "pushNames", fn := fun _ => fun
  | [] => { results := [.lit (.bool false)], args := [] }
  | _ => none }
def PushNamesWrongFalsely : Prop := pushNamesRow.holds Tryd.pinned (OpenSpec.ofChange pushNamesWrong)

/-- 'headcountlaw15.PushKeeps': WHATEVER THE INPUT: true; the input reads as it did. -/
def pushKeepsSpec : ChangeSpec := { name := "pushKeeps", fn := fun _ => fun
  | [d1, d2, d3, d4, d5] => { results := [.lit (.bool true)], args := [d1, d2, d3, d4, d5] }
  | _ => none }
def pushKeepsRow : OpenClaim := { program := "ytbbnbgllgomolaadoor", sum := "a72c0880dfe8f0efbf4d7fecafc49be1087f25b8076482322210966ee19a908c", func := "headcount/headcountlaw15.PushKeeps", spec := "pushKeeps", unfollowed := true, recurses := true, named := ["math/bits.deBruijn32tab"], apart := false, laid := [("math/bits.deBruijn32tab", laid_math_bits_deBruijn32tab)] }
def PushKeepsSaid : Prop := pushKeepsRow.holds Tryd.pinned (OpenSpec.ofChange pushKeepsSpec)

/-- ITS FALSE NEIGHBOUR: 'it returns false'. Refute it at one input. -/
def pushKeepsWrong : ChangeSpec := { name := "pushKeeps", fn := fun _ => fun
  | [d1, d2, d3, d4, d5] => { results := [.lit (.bool false)], args := [d1, d2, d3, d4, d5] }
  | _ => none }
def PushKeepsWrongFalsely : Prop := pushKeepsRow.holds Tryd.pinned (OpenSpec.ofChange pushKeepsWrong)

/- THE SECOND FORM. 'bulk': how many values and letters a reading holds, each counted each time it is reached (what is shared counts as often as it is met; a slice's spare places count too). A statement '..UptoSaid' is the law's where the arguments, and the package variables that the reading takes, are together of bulk at most 1048576: NARROWER than '..Said'. Prove '..Said' where nothing that the law and all that it calls make is longer than what came in: it says more and counts as full. Else prove '..UptoSaid'. A law counts once. -/
mutual
def uptoBulk {H : Type} : DataW H → Nat
  | .lit (.string bytes) => bytes.length + 1
  | .lit _ => 1
  | .nil => 1
  | .ptr d => uptoBulk d + 1
  | .slice elems spare => uptoBulkAll elems + uptoBulkAll spare + 1
  | .agg parts => uptoBulkAll parts + 1
  | .iface _ d => uptoBulk d + 1
  | .map entries => uptoBulkEntries entries + 1
  | .held _ => 1
def uptoBulkAll {H : Type} : List (DataW H) → Nat
  | [] => 0
  | d :: r => uptoBulk d + uptoBulkAll r
def uptoBulkEntries {H : Type} : List (Lit × DataW H) → Nat
  | [] => 0
  | x :: r => uptoBulkEntry x + uptoBulkEntries r
def uptoBulkEntry {H : Type} : Lit × DataW H → Nat
  | (.string bytes, d) => bytes.length + uptoBulk d + 1
  | (_, d) => uptoBulk d + 1
 end
def uptoSmall : (H : Type) → List (DataW H) → Bool := fun _ ds => decide (uptoBulkAll ds ≤ 1048576)
def OpenSpec.upto (s : _root_.Go.ChangeSpec) : _root_.Go.OpenSpec := { _root_.Go.OpenSpec.ofChange s with cond := some uptoSmall }

/-- 'headcountlaw15.PushTells', WHERE WHAT IT READS IS OF BULK AT MOST 1048576: true; the input reads as it did. -/
def pushTellsUptoRow : OpenClaim := { program := "ytbbnbgllgomolaadoor", sum := "a72c0880dfe8f0efbf4d7fecafc49be1087f25b8076482322210966ee19a908c", func := "headcount/headcountlaw15.PushTells", spec := "pushTells", unfollowed := true, recurses := true, named := ["math/bits.deBruijn32tab"], apart := false, laid := [("math/bits.deBruijn32tab", laid_math_bits_deBruijn32tab)], narrowed := true }
def PushTellsUptoSaid : Prop := pushTellsUptoRow.holds Tryd.pinned (OpenSpec.upto pushTellsSpec)

/-- 'headcountlaw03.RatioScales', WHERE WHAT IT READS IS OF BULK AT MOST 1048576: true; the input reads as it did. -/
def ratioScalesUptoRow : OpenClaim := { program := "ytbbnbgllgomolaadoor", sum := "a72c0880dfe8f0efbf4d7fecafc49be1087f25b8076482322210966ee19a908c", func := "headcount/headcountlaw03.RatioScales", spec := "ratioScales", unfollowed := true, recurses := true, named := ["math/bits.deBruijn32tab"], apart := false, laid := [("math/bits.deBruijn32tab", laid_math_bits_deBruijn32tab)], narrowed := true }
def RatioScalesUptoSaid : Prop := ratioScalesUptoRow.holds Tryd.pinned (OpenSpec.upto ratioScalesSpec)

/-- 'headcountlaw03.RatioBand', WHERE WHAT IT READS IS OF BULK AT MOST 1048576: true; the input reads as it did. -/
def ratioBandUptoRow : OpenClaim := { program := "ytbbnbgllgomolaadoor", sum := "a72c0880dfe8f0efbf4d7fecafc49be1087f25b8076482322210966ee19a908c", func := "headcount/headcountlaw03.RatioBand", spec := "ratioBand", unfollowed := true, recurses := true, named := ["math/bits.deBruijn32tab"], apart := false, laid := [("math/bits.deBruijn32tab", laid_math_bits_deBruijn32tab)], narrowed := true }
def RatioBandUptoSaid : Prop := ratioBandUptoRow.holds Tryd.pinned (OpenSpec.upto ratioBandSpec)

/-- 'headcountlaw15.PushBand', WHERE WHAT IT READS IS OF BULK AT MOST 1048576: true; the input reads as it did. -/
def pushBandUptoRow : OpenClaim := { program := "ytbbnbgllgomolaadoor", sum := "a72c0880dfe8f0efbf4d7fecafc49be1087f25b8076482322210966ee19a908c", func := "headcount/headcountlaw15.PushBand", spec := "pushBand", unfollowed := true, recurses := true, named := ["math/bits.deBruijn32tab"], apart := false, laid := [("math/bits.deBruijn32tab", laid_math_bits_deBruijn32tab)], narrowed := true }
def PushBandUptoSaid : Prop := pushBandUptoRow.holds Tryd.pinned (OpenSpec.upto pushBandSpec)

/-- 'headcountlaw15.PushNames', WHERE WHAT IT READS IS OF BULK AT MOST 1048576: true; the input reads as it did. -/
def pushNamesUptoRow : OpenClaim := { program := "ytbbnbgllgomolaadoor", sum := "a72c0880dfe8f0efbf4d7fecafc49be1087f25b8076482322210966ee19a908c", func := "headcount/headcountlaw15.PushNames", spec := "pushNames", unfollowed := true, recurses := true, named := ["math/bits.deBruijn32tab"], apart := false, laid := [("math/bits.deBruijn32tab", laid_math_bits_deBruijn32tab)], narrowed := true }
def PushNamesUptoSaid : Prop := pushNamesUptoRow.holds Tryd.pinned (OpenSpec.upto pushNamesSpec)

/-- 'headcountlaw15.PushKeeps', WHERE WHAT IT READS IS OF BULK AT MOST 1048576: true; the input reads as it did. -/
def pushKeepsUptoRow : OpenClaim := { program := "ytbbnbgllgomolaadoor", sum := "a72c0880dfe8f0efbf4d7fecafc49be1087f25b8076482322210966ee19a908c", func := "headcount/headcountlaw15.PushKeeps", spec := "pushKeeps", unfollowed := true, recurses := true, named := ["math/bits.deBruijn32tab"], apart := false, laid := [("math/bits.deBruijn32tab", laid_math_bits_deBruijn32tab)], narrowed := true }
def PushKeepsUptoSaid : Prop := pushKeepsUptoRow.holds Tryd.pinned (OpenSpec.upto pushKeepsSpec)

end Rows
end Go.Proofs.YtbbnbgllgomolaaDoor
