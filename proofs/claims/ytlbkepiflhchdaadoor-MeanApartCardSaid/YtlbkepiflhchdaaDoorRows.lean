/-
  NARROWER THAN 'FOR EVERY INPUT', by the rows' own cells (each row's printed sentence says how): DyadSums: laid · MassSums: laid · DyadHalves: laid · DyadGroup: laid · DyadNames: laid · DyadOne: laid · MeanApart: laid · MeanTells: laid · MassWhole: laid · MassTells: laid · MassNames: laid · MassGroup: laid · MeanNames: laid · MeanHalves: laid · MeanNever: laid.
  DERIVED. THE GIVEN ROWS OF THIS SEAT. 15 by the template 'for every input the law returns true; each argument reads behind the call as it read before'; 0 by the template 'total and deterministic' (their statements: YtlbkepiflhchdaaDoorTotals.lean).
  GIVEN WITH THE SEED: the statements are not yours to turn. If you find one false, say at which input.
  Laid BY PROGRAM, IN A SANDBOX (cutbox-rows.mjs): the forced cells as the released guide's own fill.sh prints them over the translation 3a6f86e3124665b3… (all of the seat's roots in one cut). By AI agents, Wed Nov 11 2026. No macro, syntax, notation, axiom, sorry.
-/
import Derived.Test.YtlbkepiflhchdaaDoorChecked
import GoSem.Claim
import GoSem.ClaimJoined
import GoSem.ClaimMapViews
import Derived.JoinedTies
import Derived.KernelRfl
namespace Go.Proofs.YtlbkepiflhchdaaDoor
/- THE CELL 'sum', in the pinned program and in every row, IS THE sha256 OF THE DUMP (.gsa) THAT YtlbkepiflhchdaaDoorProg.lean LOADS. Nothing in Lean hashes anything: it is a label: what it is worth is what the hold of that sum in a sandbox is worth. -/
noncomputable def Tryd.pinned : Pinned := { name := "ytlbkepiflhchdaadoor", sum := "3a6f86e3124665b3cfb78bcd493fc0fce2cf4c8f2f990630a25989c08e5d251f", checked := Tryd.checked }
namespace Rows
def none {H : Type} : Left H := { results := [], args := [] }

/- WHAT THE LISTED PACKAGE-LEVEL VARIABLES READ AS WHEN THE CALL BEGINS. Each datum BY PROGRAM (the guide's laid-datum.mjs) off the statement by which the dump's own 'gosem.cut.vars' lays the variable. In a bare row this is a premise. The card (YtlbkepiflhchdaaDoorCards.lean) ties it to the program's text. -/
def laid_math_bits_deBruijn32tab {H : Type} : DataW H := .agg [.lit (.int .u8 0), .lit (.int .u8 1), .lit (.int .u8 28), .lit (.int .u8 2), .lit (.int .u8 29), .lit (.int .u8 14), .lit (.int .u8 24), .lit (.int .u8 3), .lit (.int .u8 30), .lit (.int .u8 22), .lit (.int .u8 20), .lit (.int .u8 15), .lit (.int .u8 25), .lit (.int .u8 17), .lit (.int .u8 4), .lit (.int .u8 8), .lit (.int .u8 31), .lit (.int .u8 27), .lit (.int .u8 13), .lit (.int .u8 23), .lit (.int .u8 21), .lit (.int .u8 19), .lit (.int .u8 16), .lit (.int .u8 7), .lit (.int .u8 26), .lit (.int .u8 12), .lit (.int .u8 18), .lit (.int .u8 6), .lit (.int .u8 11), .lit (.int .u8 5), .lit (.int .u8 10), .lit (.int .u8 9)]

/-- 'headcountlaw02.DyadSums': WHATEVER THE INPUT: true; the input reads as it did. -/
def dyadSumsSpec : ChangeSpec := { name := "dyadSums", fn := fun _ => fun
  | [d1, d2] => { results := [.lit (.bool true)], args := [d1, d2] }
  | _ => none }
def dyadSumsRow : OpenClaim := { program := "ytlbkepiflhchdaadoor", sum := "3a6f86e3124665b3cfb78bcd493fc0fce2cf4c8f2f990630a25989c08e5d251f", func := "headcount/headcountlaw02.DyadSums", spec := "dyadSums", unfollowed := true, recurses := true, named := ["math/bits.deBruijn32tab"], apart := false, laid := [("math/bits.deBruijn32tab", laid_math_bits_deBruijn32tab)] }
def DyadSumsSaid : Prop := dyadSumsRow.holds Tryd.pinned (OpenSpec.ofChange dyadSumsSpec)

/-- ITS FALSE NEIGHBOUR: 'it returns false'. Refute it at one input. -/
def dyadSumsWrong : ChangeSpec := { name := "dyadSums", fn := fun _ => fun
  | [d1, d2] => { results := [.lit (.bool false)], args := [d1, d2] }
  | _ => none }
def DyadSumsWrongFalsely : Prop := dyadSumsRow.holds Tryd.pinned (OpenSpec.ofChange dyadSumsWrong)

/-- 'headcountlaw06.MassSums': WHATEVER THE INPUT: true; the input reads as it did. -/
def massSumsSpec : ChangeSpec := { name := "massSums", fn := fun _ => fun
  | [d] => { results := [.lit (.bool true)], args := [d] }
  | _ => none }
def massSumsRow : OpenClaim := { program := "ytlbkepiflhchdaadoor", sum := "3a6f86e3124665b3cfb78bcd493fc0fce2cf4c8f2f990630a25989c08e5d251f", func := "headcount/headcountlaw06.MassSums", spec := "massSums", unfollowed := true, recurses := true, named := ["math/bits.deBruijn32tab"], apart := false, laid := [("math/bits.deBruijn32tab", laid_math_bits_deBruijn32tab)] }
def MassSumsSaid : Prop := massSumsRow.holds Tryd.pinned (OpenSpec.ofChange massSumsSpec)

/-- ITS FALSE NEIGHBOUR: 'it returns false'. Refute it at one input. -/
def massSumsWrong : ChangeSpec := { name := "massSums", fn := fun _ => fun
  | [d] => { results := [.lit (.bool false)], args := [d] }
  | _ => none }
def MassSumsWrongFalsely : Prop := massSumsRow.holds Tryd.pinned (OpenSpec.ofChange massSumsWrong)

/-- 'headcountlaw02.DyadHalves': WHATEVER THE INPUT: true; the input reads as it did. -/
def dyadHalvesSpec : ChangeSpec := { name := "dyadHalves", fn := fun _ => fun
  | [d] => { results := [.lit (.bool true)], args := [d] }
  | _ => none }
def dyadHalvesRow : OpenClaim := { program := "ytlbkepiflhchdaadoor", sum := "3a6f86e3124665b3cfb78bcd493fc0fce2cf4c8f2f990630a25989c08e5d251f", func := "headcount/headcountlaw02.DyadHalves", spec := "dyadHalves", unfollowed := true, recurses := true, named := ["math/bits.deBruijn32tab"], apart := false, laid := [("math/bits.deBruijn32tab", laid_math_bits_deBruijn32tab)] }
def DyadHalvesSaid : Prop := dyadHalvesRow.holds Tryd.pinned (OpenSpec.ofChange dyadHalvesSpec)

/-- ITS FALSE NEIGHBOUR: 'it returns false'. Refute it at one input. -/
def dyadHalvesWrong : ChangeSpec := { name := "dyadHalves", fn := fun _ => fun
  | [d] => { results := [.lit (.bool false)], args := [d] }
  | _ => none }
def DyadHalvesWrongFalsely : Prop := dyadHalvesRow.holds Tryd.pinned (OpenSpec.ofChange dyadHalvesWrong)

/-- 'headcountlaw02.DyadGroup': WHATEVER THE INPUT: true; the input reads as it did. -/
def dyadGroupSpec : ChangeSpec := { name := "dyadGroup", fn := fun _ => fun
  | [d1, d2, d3] => { results := [.lit (.bool true)], args := [d1, d2, d3] }
  | _ => none }
def dyadGroupRow : OpenClaim := { program := "ytlbkepiflhchdaadoor", sum := "3a6f86e3124665b3cfb78bcd493fc0fce2cf4c8f2f990630a25989c08e5d251f", func := "headcount/headcountlaw02.DyadGroup", spec := "dyadGroup", unfollowed := true, recurses := true, named := ["math/bits.deBruijn32tab"], apart := false, laid := [("math/bits.deBruijn32tab", laid_math_bits_deBruijn32tab)] }
def DyadGroupSaid : Prop := dyadGroupRow.holds Tryd.pinned (OpenSpec.ofChange dyadGroupSpec)

/-- ITS FALSE NEIGHBOUR: 'it returns false'. Refute it at one input. -/
def dyadGroupWrong : ChangeSpec := { name := "dyadGroup", fn := fun _ => fun
  | [d1, d2, d3] => { results := [.lit (.bool false)], args := [d1, d2, d3] }
  | _ => none }
def DyadGroupWrongFalsely : Prop := dyadGroupRow.holds Tryd.pinned (OpenSpec.ofChange dyadGroupWrong)

/-- 'headcountlaw02.DyadNames': WHATEVER THE INPUT: true; the input reads as it did. -/
def dyadNamesSpec : ChangeSpec := { name := "dyadNames", fn := fun _ => fun
  | [] => { results := [.lit (.bool true)], args := [] }
  | _ => none }
def dyadNamesRow : OpenClaim := { program := "ytlbkepiflhchdaadoor", sum := "3a6f86e3124665b3cfb78bcd493fc0fce2cf4c8f2f990630a25989c08e5d251f", func := "headcount/headcountlaw02.DyadNames", spec := "dyadNames", unfollowed := true, recurses := true, named := ["math/bits.deBruijn32tab"], apart := false, laid := [("math/bits.deBruijn32tab", laid_math_bits_deBruijn32tab)] }
def DyadNamesSaid : Prop := dyadNamesRow.holds Tryd.pinned (OpenSpec.ofChange dyadNamesSpec)

/-- ITS FALSE NEIGHBOUR: 'it returns false'. Refute it at one input. -/
def dyadNamesWrong : ChangeSpec := { name := "dyadNames", fn := fun _ => fun
  | [] => { results := [.lit (.bool false)], args := [] }
  | _ => none }
def DyadNamesWrongFalsely : Prop := dyadNamesRow.holds Tryd.pinned (OpenSpec.ofChange dyadNamesWrong)

/-- 'headcountlaw02.DyadOne': WHATEVER THE INPUT: true; the input reads as it did. -/
def dyadOneSpec : ChangeSpec := { name := "dyadOne", fn := fun _ => fun
  | [d1, d2] => { results := [.lit (.bool true)], args := [d1, d2] }
  | _ => none }
def dyadOneRow : OpenClaim := { program := "ytlbkepiflhchdaadoor", sum := "3a6f86e3124665b3cfb78bcd493fc0fce2cf4c8f2f990630a25989c08e5d251f", func := "headcount/headcountlaw02.DyadOne", spec := "dyadOne", unfollowed := true, recurses := true, named := ["math/bits.deBruijn32tab"], apart := false, laid := [("math/bits.deBruijn32tab", laid_math_bits_deBruijn32tab)] }
def DyadOneSaid : Prop := dyadOneRow.holds Tryd.pinned (OpenSpec.ofChange dyadOneSpec)

/-- ITS FALSE NEIGHBOUR: 'it returns false'. Refute it at one input. -/
def dyadOneWrong : ChangeSpec := { name := "dyadOne", fn := fun _ => fun
  | [d1, d2] => { results := [.lit (.bool false)], args := [d1, d2] }
  | _ => none }
def DyadOneWrongFalsely : Prop := dyadOneRow.holds Tryd.pinned (OpenSpec.ofChange dyadOneWrong)

/-- 'headcountlaw16.MeanApart': WHATEVER THE INPUT: true; the input reads as it did. -/
def meanApartSpec : ChangeSpec := { name := "meanApart", fn := fun _ => fun
  | [d] => { results := [.lit (.bool true)], args := [d] }
  | _ => none }
def meanApartRow : OpenClaim := { program := "ytlbkepiflhchdaadoor", sum := "3a6f86e3124665b3cfb78bcd493fc0fce2cf4c8f2f990630a25989c08e5d251f", func := "headcount/headcountlaw16.MeanApart", spec := "meanApart", unfollowed := true, recurses := true, named := ["math/bits.deBruijn32tab"], apart := false, laid := [("math/bits.deBruijn32tab", laid_math_bits_deBruijn32tab)] }
def MeanApartSaid : Prop := meanApartRow.holds Tryd.pinned (OpenSpec.ofChange meanApartSpec)

/-- ITS FALSE NEIGHBOUR: 'it returns false'. Refute it at one input. -/
def meanApartWrong : ChangeSpec := { name := "meanApart", fn := fun _ => fun
  | [d] => { results := [.lit (.bool false)], args := [d] }
  | _ => none }
def MeanApartWrongFalsely : Prop := meanApartRow.holds Tryd.pinned (OpenSpec.ofChange meanApartWrong)

/-- 'headcountlaw16.MeanTells': WHATEVER THE INPUT: true; the input reads as it did. -/
def meanTellsSpec : ChangeSpec := { name := "meanTells", fn := fun _ => fun
  | [d1, d2] => { results := [.lit (.bool true)], args := [d1, d2] }
  | _ => none }
def meanTellsRow : OpenClaim := { program := "ytlbkepiflhchdaadoor", sum := "3a6f86e3124665b3cfb78bcd493fc0fce2cf4c8f2f990630a25989c08e5d251f", func := "headcount/headcountlaw16.MeanTells", spec := "meanTells", unfollowed := true, recurses := true, named := ["math/bits.deBruijn32tab"], apart := false, laid := [("math/bits.deBruijn32tab", laid_math_bits_deBruijn32tab)] }
def MeanTellsSaid : Prop := meanTellsRow.holds Tryd.pinned (OpenSpec.ofChange meanTellsSpec)

/-- ITS FALSE NEIGHBOUR: 'it returns false'. Refute it at one input. -/
def meanTellsWrong : ChangeSpec := { name := "meanTells", fn := fun _ => fun
  | [d1, d2] => { results := [.lit (.bool false)], args := [d1, d2] }
  | _ => none }
def MeanTellsWrongFalsely : Prop := meanTellsRow.holds Tryd.pinned (OpenSpec.ofChange meanTellsWrong)

/-- 'headcountlaw06.MassWhole': WHATEVER THE INPUT: true; the input reads as it did. -/
def massWholeSpec : ChangeSpec := { name := "massWhole", fn := fun _ => fun
  | [d] => { results := [.lit (.bool true)], args := [d] }
  | _ => none }
def massWholeRow : OpenClaim := { program := "ytlbkepiflhchdaadoor", sum := "3a6f86e3124665b3cfb78bcd493fc0fce2cf4c8f2f990630a25989c08e5d251f", func := "headcount/headcountlaw06.MassWhole", spec := "massWhole", unfollowed := true, recurses := true, named := ["math/bits.deBruijn32tab"], apart := false, laid := [("math/bits.deBruijn32tab", laid_math_bits_deBruijn32tab)] }
def MassWholeSaid : Prop := massWholeRow.holds Tryd.pinned (OpenSpec.ofChange massWholeSpec)

/-- ITS FALSE NEIGHBOUR: 'it returns false'. Refute it at one input. -/
def massWholeWrong : ChangeSpec := { name := "massWhole", fn := fun _ => fun
  | [d] => { results := [.lit (.bool false)], args := [d] }
  | _ => none }
def MassWholeWrongFalsely : Prop := massWholeRow.holds Tryd.pinned (OpenSpec.ofChange massWholeWrong)

/-- 'headcountlaw06.MassTells': WHATEVER THE INPUT: true; the input reads as it did. -/
def massTellsSpec : ChangeSpec := { name := "massTells", fn := fun _ => fun
  | [d1, d2, d3, d4] => { results := [.lit (.bool true)], args := [d1, d2, d3, d4] }
  | _ => none }
def massTellsRow : OpenClaim := { program := "ytlbkepiflhchdaadoor", sum := "3a6f86e3124665b3cfb78bcd493fc0fce2cf4c8f2f990630a25989c08e5d251f", func := "headcount/headcountlaw06.MassTells", spec := "massTells", unfollowed := true, recurses := true, named := ["math/bits.deBruijn32tab"], apart := false, laid := [("math/bits.deBruijn32tab", laid_math_bits_deBruijn32tab)] }
def MassTellsSaid : Prop := massTellsRow.holds Tryd.pinned (OpenSpec.ofChange massTellsSpec)

/-- ITS FALSE NEIGHBOUR: 'it returns false'. Refute it at one input. -/
def massTellsWrong : ChangeSpec := { name := "massTells", fn := fun _ => fun
  | [d1, d2, d3, d4] => { results := [.lit (.bool false)], args := [d1, d2, d3, d4] }
  | _ => none }
def MassTellsWrongFalsely : Prop := massTellsRow.holds Tryd.pinned (OpenSpec.ofChange massTellsWrong)

/-- 'headcountlaw06.MassNames': WHATEVER THE INPUT: true; the input reads as it did. -/
def massNamesSpec : ChangeSpec := { name := "massNames", fn := fun _ => fun
  | [] => { results := [.lit (.bool true)], args := [] }
  | _ => none }
def massNamesRow : OpenClaim := { program := "ytlbkepiflhchdaadoor", sum := "3a6f86e3124665b3cfb78bcd493fc0fce2cf4c8f2f990630a25989c08e5d251f", func := "headcount/headcountlaw06.MassNames", spec := "massNames", unfollowed := true, recurses := true, named := ["math/bits.deBruijn32tab"], apart := false, laid := [("math/bits.deBruijn32tab", laid_math_bits_deBruijn32tab)] }
def MassNamesSaid : Prop := massNamesRow.holds Tryd.pinned (OpenSpec.ofChange massNamesSpec)

/-- ITS FALSE NEIGHBOUR: 'it returns false'. Refute it at one input. -/
def massNamesWrong : ChangeSpec := { name := "massNames", fn := fun _ => fun
  | [] => { results := [.lit (.bool false)], args := [] }
  | _ => none }
def MassNamesWrongFalsely : Prop := massNamesRow.holds Tryd.pinned (OpenSpec.ofChange massNamesWrong)

/-- 'headcountlaw06.MassGroup': WHATEVER THE INPUT: true; the input reads as it did. -/
def massGroupSpec : ChangeSpec := { name := "massGroup", fn := fun _ => fun
  | [d1, d2, d3] => { results := [.lit (.bool true)], args := [d1, d2, d3] }
  | _ => none }
def massGroupRow : OpenClaim := { program := "ytlbkepiflhchdaadoor", sum := "3a6f86e3124665b3cfb78bcd493fc0fce2cf4c8f2f990630a25989c08e5d251f", func := "headcount/headcountlaw06.MassGroup", spec := "massGroup", unfollowed := true, recurses := true, named := ["math/bits.deBruijn32tab"], apart := false, laid := [("math/bits.deBruijn32tab", laid_math_bits_deBruijn32tab)] }
def MassGroupSaid : Prop := massGroupRow.holds Tryd.pinned (OpenSpec.ofChange massGroupSpec)

/-- ITS FALSE NEIGHBOUR: 'it returns false'. Refute it at one input. -/
def massGroupWrong : ChangeSpec := { name := "massGroup", fn := fun _ => fun
  | [d1, d2, d3] => { results := [.lit (.bool false)], args := [d1, d2, d3] }
  | _ => none }
def MassGroupWrongFalsely : Prop := massGroupRow.holds Tryd.pinned (OpenSpec.ofChange massGroupWrong)

/-- 'headcountlaw16.MeanNames': WHATEVER THE INPUT: true; the input reads as it did. -/
def meanNamesSpec : ChangeSpec := { name := "meanNames", fn := fun _ => fun
  | [] => { results := [.lit (.bool true)], args := [] }
  | _ => none }
def meanNamesRow : OpenClaim := { program := "ytlbkepiflhchdaadoor", sum := "3a6f86e3124665b3cfb78bcd493fc0fce2cf4c8f2f990630a25989c08e5d251f", func := "headcount/headcountlaw16.MeanNames", spec := "meanNames", unfollowed := true, recurses := true, named := ["math/bits.deBruijn32tab"], apart := false, laid := [("math/bits.deBruijn32tab", laid_math_bits_deBruijn32tab)] }
def MeanNamesSaid : Prop := meanNamesRow.holds Tryd.pinned (OpenSpec.ofChange meanNamesSpec)

/-- ITS FALSE NEIGHBOUR: 'it returns false'. Refute it at one input. -/
def meanNamesWrong : ChangeSpec := { name := "meanNames", fn := fun _ => fun
  | [] => { results := [.lit (.bool false)], args := [] }
  | _ => none }
def MeanNamesWrongFalsely : Prop := meanNamesRow.holds Tryd.pinned (OpenSpec.ofChange meanNamesWrong)

/-- 'headcountlaw16.MeanHalves': WHATEVER THE INPUT: true; the input reads as it did. -/
def meanHalvesSpec : ChangeSpec := { name := "meanHalves", fn := fun _ => fun
  | [d1, d2] => { results := [.lit (.bool true)], args := [d1, d2] }
  | _ => none }
def meanHalvesRow : OpenClaim := { program := "ytlbkepiflhchdaadoor", sum := "3a6f86e3124665b3cfb78bcd493fc0fce2cf4c8f2f990630a25989c08e5d251f", func := "headcount/headcountlaw16.MeanHalves", spec := "meanHalves", unfollowed := true, recurses := true, named := ["math/bits.deBruijn32tab"], apart := false, laid := [("math/bits.deBruijn32tab", laid_math_bits_deBruijn32tab)] }
def MeanHalvesSaid : Prop := meanHalvesRow.holds Tryd.pinned (OpenSpec.ofChange meanHalvesSpec)

/-- ITS FALSE NEIGHBOUR: 'it returns false'. Refute it at one input. -/
def meanHalvesWrong : ChangeSpec := { name := "meanHalves", fn := fun _ => fun
  | [d1, d2] => { results := [.lit (.bool false)], args := [d1, d2] }
  | _ => none }
def MeanHalvesWrongFalsely : Prop := meanHalvesRow.holds Tryd.pinned (OpenSpec.ofChange meanHalvesWrong)

/-- 'headcountlaw16.MeanNever': WHATEVER THE INPUT: true; the input reads as it did. -/
def meanNeverSpec : ChangeSpec := { name := "meanNever", fn := fun _ => fun
  | [d1, d2, d3] => { results := [.lit (.bool true)], args := [d1, d2, d3] }
  | _ => none }
def meanNeverRow : OpenClaim := { program := "ytlbkepiflhchdaadoor", sum := "3a6f86e3124665b3cfb78bcd493fc0fce2cf4c8f2f990630a25989c08e5d251f", func := "headcount/headcountlaw16.MeanNever", spec := "meanNever", unfollowed := true, recurses := true, named := ["math/bits.deBruijn32tab"], apart := false, laid := [("math/bits.deBruijn32tab", laid_math_bits_deBruijn32tab)] }
def MeanNeverSaid : Prop := meanNeverRow.holds Tryd.pinned (OpenSpec.ofChange meanNeverSpec)

/-- ITS FALSE NEIGHBOUR: 'it returns false'. Refute it at one input. -/
def meanNeverWrong : ChangeSpec := { name := "meanNever", fn := fun _ => fun
  | [d1, d2, d3] => { results := [.lit (.bool false)], args := [d1, d2, d3] }
  | _ => none }
def MeanNeverWrongFalsely : Prop := meanNeverRow.holds Tryd.pinned (OpenSpec.ofChange meanNeverWrong)

/- THE SECOND FORM. 'bulk': how many values and letters a reading holds, each counted each time it is reached (what is shared counts as often as it is met; a slice's spare places count too). A statement '..UptoSaid' is the law's where the arguments, and the package variables that the reading takes, are together of bulk at most 1048576: NARROWER than '..Said'. Prove '..Said' where nothing that the law and all that it calls make is longer than what came in: it says more and counts as full. Else prove '..UptoSaid'. A law counts once. -/
mutual
def uptoBulk {H : Type} : DataW H → Nat
  | .lit (.string bytes) => bytes.length + 1
  | .lit _ => 1
  | .nil => 1
  | .ptr d => uptoBulk d + 1
  | .slice elems spare => uptoBulkAll elems + uptoBulkAll spare + 1
  | .agg parts => uptoBulkAll parts + 1
  | .iface _ d => uptoBulk d + 1
  | .map entries => uptoBulkEntries entries + 1
  | .held _ => 1
def uptoBulkAll {H : Type} : List (DataW H) → Nat
  | [] => 0
  | d :: r => uptoBulk d + uptoBulkAll r
def uptoBulkEntries {H : Type} : List (Lit × DataW H) → Nat
  | [] => 0
  | x :: r => uptoBulkEntry x + uptoBulkEntries r
def uptoBulkEntry {H : Type} : Lit × DataW H → Nat
  | (.string bytes, d) => bytes.length + uptoBulk d + 1
  | (_, d) => uptoBulk d + 1
 end
def uptoSmall : (H : Type) → List (DataW H) → Bool := fun _ ds => decide (uptoBulkAll ds ≤ 1048576)
def OpenSpec.upto (s : _root_.Go.ChangeSpec) : _root_.Go.OpenSpec := { _root_.Go.OpenSpec.ofChange s with cond := some uptoSmall }

/-- 'headcountlaw02.DyadSums', WHERE WHAT IT READS IS OF BULK AT MOST 1048576: true; the input reads as it did. -/
def dyadSumsUptoRow : OpenClaim := { program := "ytlbkepiflhchdaadoor", sum := "3a6f86e3124665b3cfb78bcd493fc0fce2cf4c8f2f990630a25989c08e5d251f", func := "headcount/headcountlaw02.DyadSums", spec := "dyadSums", unfollowed := true, recurses := true, named := ["math/bits.deBruijn32tab"], apart := false, laid := [("math/bits.deBruijn32tab", laid_math_bits_deBruijn32tab)], narrowed := true }
def DyadSumsUptoSaid : Prop := dyadSumsUptoRow.holds Tryd.pinned (OpenSpec.upto dyadSumsSpec)

/-- 'headcountlaw06.MassSums', WHERE WHAT IT READS IS OF BULK AT MOST 1048576: true; the input reads as it did. -/
def massSumsUptoRow : OpenClaim := { program := "ytlbkepiflhchdaadoor", sum := "3a6f86e3124665b3cfb78bcd493fc0fce2cf4c8f2f990630a25989c08e5d251f", func := "headcount/headcountlaw06.MassSums", spec := "massSums", unfollowed := true, recurses := true, named := ["math/bits.deBruijn32tab"], apart := false, laid := [("math/bits.deBruijn32tab", laid_math_bits_deBruijn32tab)], narrowed := true }
def MassSumsUptoSaid : Prop := massSumsUptoRow.holds Tryd.pinned (OpenSpec.upto massSumsSpec)

/-- 'headcountlaw02.DyadHalves', WHERE WHAT IT READS IS OF BULK AT MOST 1048576: true; the input reads as it did. -/
def dyadHalvesUptoRow : OpenClaim := { program := "ytlbkepiflhchdaadoor", sum := "3a6f86e3124665b3cfb78bcd493fc0fce2cf4c8f2f990630a25989c08e5d251f", func := "headcount/headcountlaw02.DyadHalves", spec := "dyadHalves", unfollowed := true, recurses := true, named := ["math/bits.deBruijn32tab"], apart := false, laid := [("math/bits.deBruijn32tab", laid_math_bits_deBruijn32tab)], narrowed := true }
def DyadHalvesUptoSaid : Prop := dyadHalvesUptoRow.holds Tryd.pinned (OpenSpec.upto dyadHalvesSpec)

/-- 'headcountlaw02.DyadGroup', WHERE WHAT IT READS IS OF BULK AT MOST 1048576: true; the input reads as it did. -/
def dyadGroupUptoRow : OpenClaim := { program := "ytlbkepiflhchdaadoor", sum := "3a6f86e3124665b3cfb78bcd493fc0fce2cf4c8f2f990630a25989c08e5d251f", func := "headcount/headcountlaw02.DyadGroup", spec := "dyadGroup", unfollowed := true, recurses := true, named := ["math/bits.deBruijn32tab"], apart := false, laid := [("math/bits.deBruijn32tab", laid_math_bits_deBruijn32tab)], narrowed := true }
def DyadGroupUptoSaid : Prop := dyadGroupUptoRow.holds Tryd.pinned (OpenSpec.upto dyadGroupSpec)

/-- 'headcountlaw02.DyadNames', WHERE WHAT IT READS IS OF BULK AT MOST 1048576: true; the input reads as it did. -/
def dyadNamesUptoRow : OpenClaim := { program := "ytlbkepiflhchdaadoor", sum := "3a6f86e3124665b3cfb78bcd493fc0fce2cf4c8f2f990630a25989c08e5d251f", func := "headcount/headcountlaw02.DyadNames", spec := "dyadNames", unfollowed := true, recurses := true, named := ["math/bits.deBruijn32tab"], apart := false, laid := [("math/bits.deBruijn32tab", laid_math_bits_deBruijn32tab)], narrowed := true }
def DyadNamesUptoSaid : Prop := dyadNamesUptoRow.holds Tryd.pinned (OpenSpec.upto dyadNamesSpec)

/-- 'headcountlaw02.DyadOne', WHERE WHAT IT READS IS OF BULK AT MOST 1048576: true; the input reads as it did. -/
def dyadOneUptoRow : OpenClaim := { program := "ytlbkepiflhchdaadoor", sum := "3a6f86e3124665b3cfb78bcd493fc0fce2cf4c8f2f990630a25989c08e5d251f", func := "headcount/headcountlaw02.DyadOne", spec := "dyadOne", unfollowed := true, recurses := true, named := ["math/bits.deBruijn32tab"], apart := false, laid := [("math/bits.deBruijn32tab", laid_math_bits_deBruijn32tab)], narrowed := true }
def DyadOneUptoSaid : Prop := dyadOneUptoRow.holds Tryd.pinned (OpenSpec.upto dyadOneSpec)

/-- 'headcountlaw16.MeanApart', WHERE WHAT IT READS IS OF BULK AT MOST 1048576: true; the input reads as it did. -/
def meanApartUptoRow : OpenClaim := { program := "ytlbkepiflhchdaadoor", sum := "3a6f86e3124665b3cfb78bcd493fc0fce2cf4c8f2f990630a25989c08e5d251f", func := "headcount/headcountlaw16.MeanApart", spec := "meanApart", unfollowed := true, recurses := true, named := ["math/bits.deBruijn32tab"], apart := false, laid := [("math/bits.deBruijn32tab", laid_math_bits_deBruijn32tab)], narrowed := true }
def MeanApartUptoSaid : Prop := meanApartUptoRow.holds Tryd.pinned (OpenSpec.upto meanApartSpec)

/-- 'headcountlaw16.MeanTells', WHERE WHAT IT READS IS OF BULK AT MOST 1048576: true; the input reads as it did. -/
def meanTellsUptoRow : OpenClaim := { program := "ytlbkepiflhchdaadoor", sum := "3a6f86e3124665b3cfb78bcd493fc0fce2cf4c8f2f990630a25989c08e5d251f", func := "headcount/headcountlaw16.MeanTells", spec := "meanTells", unfollowed := true, recurses := true, named := ["math/bits.deBruijn32tab"], apart := false, laid := [("math/bits.deBruijn32tab", laid_math_bits_deBruijn32tab)], narrowed := true }
def MeanTellsUptoSaid : Prop := meanTellsUptoRow.holds Tryd.pinned (OpenSpec.upto meanTellsSpec)

/-- 'headcountlaw06.MassWhole', WHERE WHAT IT READS IS OF BULK AT MOST 1048576: true; the input reads as it did. -/
def massWholeUptoRow : OpenClaim := { program := "ytlbkepiflhchdaadoor", sum := "3a6f86e3124665b3cfb78bcd493fc0fce2cf4c8f2f990630a25989c08e5d251f", func := "headcount/headcountlaw06.MassWhole", spec := "massWhole", unfollowed := true, recurses := true, named := ["math/bits.deBruijn32tab"], apart := false, laid := [("math/bits.deBruijn32tab", laid_math_bits_deBruijn32tab)], narrowed := true }
def MassWholeUptoSaid : Prop := massWholeUptoRow.holds Tryd.pinned (OpenSpec.upto massWholeSpec)

/-- 'headcountlaw06.MassTells', WHERE WHAT IT READS IS OF BULK AT MOST 1048576: true; the input reads as it did. -/
def massTellsUptoRow : OpenClaim := { program := "ytlbkepiflhchdaadoor", sum := "3a6f86e3124665b3cfb78bcd493fc0fce2cf4c8f2f990630a25989c08e5d251f", func := "headcount/headcountlaw06.MassTells", spec := "massTells", unfollowed := true, recurses := true, named := ["math/bits.deBruijn32tab"], apart := false, laid := [("math/bits.deBruijn32tab", laid_math_bits_deBruijn32tab)], narrowed := true }
def MassTellsUptoSaid : Prop := massTellsUptoRow.holds Tryd.pinned (OpenSpec.upto massTellsSpec)

/-- 'headcountlaw06.MassNames', WHERE WHAT IT READS IS OF BULK AT MOST 1048576: true; the input reads as it did. -/
def massNamesUptoRow : OpenClaim := { program := "ytlbkepiflhchdaadoor", sum := "3a6f86e3124665b3cfb78bcd493fc0fce2cf4c8f2f990630a25989c08e5d251f", func := "headcount/headcountlaw06.MassNames", spec := "massNames", unfollowed := true, recurses := true, named := ["math/bits.deBruijn32tab"], apart := false, laid := [("math/bits.deBruijn32tab", laid_math_bits_deBruijn32tab)], narrowed := true }
def MassNamesUptoSaid : Prop := massNamesUptoRow.holds Tryd.pinned (OpenSpec.upto massNamesSpec)

/-- 'headcountlaw06.MassGroup', WHERE WHAT IT READS IS OF BULK AT MOST 1048576: true; the input reads as it did. -/
def massGroupUptoRow : OpenClaim := { program := "ytlbkepiflhchdaadoor", sum := "3a6f86e3124665b3cfb78bcd493fc0fce2cf4c8f2f990630a25989c08e5d251f", func := "headcount/headcountlaw06.MassGroup", spec := "massGroup", unfollowed := true, recurses := true, named := ["math/bits.deBruijn32tab"], apart := false, laid := [("math/bits.deBruijn32tab", laid_math_bits_deBruijn32tab)], narrowed := true }
def MassGroupUptoSaid : Prop := massGroupUptoRow.holds Tryd.pinned (OpenSpec.upto massGroupSpec)

/-- 'headcountlaw16.MeanNames', WHERE WHAT IT READS IS OF BULK AT MOST 1048576: true; the input reads as it did. -/
def meanNamesUptoRow : OpenClaim := { program := "ytlbkepiflhchdaadoor", sum := "3a6f86e3124665b3cfb78bcd493fc0fce2cf4c8f2f990630a25989c08e5d251f", func := "headcount/headcountlaw16.MeanNames", spec := "meanNames", unfollowed := true, recurses := true, named := ["math/bits.deBruijn32tab"], apart := false, laid := [("math/bits.deBruijn32tab", laid_math_bits_deBruijn32tab)], narrowed := true }
def MeanNamesUptoSaid : Prop := meanNamesUptoRow.holds Tryd.pinned (OpenSpec.upto meanNamesSpec)

/-- 'headcountlaw16.MeanHalves', WHERE WHAT IT READS IS OF BULK AT MOST 1048576: true; the input reads as it did. -/
def meanHalvesUptoRow : OpenClaim := { program := "ytlbkepiflhchdaadoor", sum := "3a6f86e3124665b3cfb78bcd493fc0fce2cf4c8f2f990630a25989c08e5d251f", func := "headcount/headcountlaw16.MeanHalves", spec := "meanHalves", unfollowed := true, recurses := true, named := ["math/bits.deBruijn32tab"], apart := false, laid := [("math/bits.deBruijn32tab", laid_math_bits_deBruijn32tab)], narrowed := true }
def MeanHalvesUptoSaid : Prop := meanHalvesUptoRow.holds Tryd.pinned (OpenSpec.upto meanHalvesSpec)

/-- 'headcountlaw16.MeanNever', WHERE WHAT IT READS IS OF BULK AT MOST 1048576: true; the input reads as it did. -/
def meanNeverUptoRow : OpenClaim := { program := "ytlbkepiflhchdaadoor", sum := "3a6f86e3124665b3cfb78bcd493fc0fce2cf4c8f2f990630a25989c08e5d251f", func := "headcount/headcountlaw16.MeanNever", spec := "meanNever", unfollowed := true, recurses := true, named := ["math/bits.deBruijn32tab"], apart := false, laid := [("math/bits.deBruijn32tab", laid_math_bits_deBruijn32tab)], narrowed := true }
def MeanNeverUptoSaid : Prop := meanNeverUptoRow.holds Tryd.pinned (OpenSpec.upto meanNeverSpec)

end Rows
end Go.Proofs.YtlbkepiflhchdaaDoor
