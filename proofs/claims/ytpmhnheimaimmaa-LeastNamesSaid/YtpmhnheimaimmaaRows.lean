/-
  No cell of these rows narrows 'for every input' (looked for: loops, veiled, ifaces, maps, wideKeys, modest, calm, conditions, laid).
  DERIVED. THE GIVEN ROWS OF THIS SEAT. 6 by the template 'for every input the law returns true; each argument reads behind the call as it read before'; 0 by the template 'total and deterministic' (their statements: YtpmhnheimaimmaaTotals.lean).
  GIVEN WITH THE SEED: the statements are not yours to turn. If you find one false, say at which input.
  Laid BY PROGRAM, IN A SANDBOX (cutbox-rows.mjs): the forced cells as the released guide's own fill.sh prints them over the translation 5e214d3ce7ef91f9… (all of the seat's roots in one cut). By AI agents, Wed Nov 11 2026. No macro, syntax, notation, axiom, sorry.
-/
import Derived.Test.YtpmhnheimaimmaaChecked
import GoSem.Claim
import GoSem.ClaimJoined
import GoSem.ClaimMapViews
import Derived.JoinedTies
import Derived.KernelRfl
namespace Go.Proofs.Ytpmhnheimaimmaa
/- THE CELL 'sum', in the pinned program and in every row, IS THE sha256 OF THE DUMP (.gsa) THAT YtpmhnheimaimmaaProg.lean LOADS. Nothing in Lean hashes anything: it is a label: what it is worth is what the hold of that sum in a sandbox is worth. -/
noncomputable def Try.pinned : Pinned := { name := "ytpmhnheimaimmaa", sum := "5e214d3ce7ef91f97185506b231559ff440100b48e6d82743ef24171e5892064", checked := Try.checked }
namespace Rows
def none {H : Type} : Left H := { results := [], args := [] }

/-- 'headcountlaw18.LeastJoins': WHATEVER THE INPUT: true; the input reads as it did. -/
def leastJoinsSpec : ChangeSpec := { name := "leastJoins", fn := fun _ => fun
  | [d1, d2] => { results := [.lit (.bool true)], args := [d1, d2] }
  | _ => none }
def leastJoinsRow : OpenClaim := { program := "ytpmhnheimaimmaa", sum := "5e214d3ce7ef91f97185506b231559ff440100b48e6d82743ef24171e5892064", func := "headcount/headcountlaw18.LeastJoins", spec := "leastJoins", unfollowed := true, recurses := true, apart := false }
def LeastJoinsSaid : Prop := leastJoinsRow.holds Try.pinned (OpenSpec.ofChange leastJoinsSpec)

/-- ITS FALSE NEIGHBOUR: 'it returns false'. Refute it at one input. -/
def leastJoinsWrong : ChangeSpec := { name := "leastJoins", fn := fun _ => fun
  | [d1, d2] => { results := [.lit (.bool false)], args := [d1, d2] }
  | _ => none }
def LeastJoinsWrongFalsely : Prop := leastJoinsRow.holds Try.pinned (OpenSpec.ofChange leastJoinsWrong)

/-- 'headcountlaw18.LeastOrder': WHATEVER THE INPUT: true; the input reads as it did. -/
def leastOrderSpec : ChangeSpec := { name := "leastOrder", fn := fun _ => fun
  | [d1, d2, d3] => { results := [.lit (.bool true)], args := [d1, d2, d3] }
  | _ => none }
def leastOrderRow : OpenClaim := { program := "ytpmhnheimaimmaa", sum := "5e214d3ce7ef91f97185506b231559ff440100b48e6d82743ef24171e5892064", func := "headcount/headcountlaw18.LeastOrder", spec := "leastOrder", unfollowed := true, recurses := true, apart := false }
def LeastOrderSaid : Prop := leastOrderRow.holds Try.pinned (OpenSpec.ofChange leastOrderSpec)

/-- ITS FALSE NEIGHBOUR: 'it returns false'. Refute it at one input. -/
def leastOrderWrong : ChangeSpec := { name := "leastOrder", fn := fun _ => fun
  | [d1, d2, d3] => { results := [.lit (.bool false)], args := [d1, d2, d3] }
  | _ => none }
def LeastOrderWrongFalsely : Prop := leastOrderRow.holds Try.pinned (OpenSpec.ofChange leastOrderWrong)

/-- 'headcountlaw18.LeastFewest': WHATEVER THE INPUT: true; the input reads as it did. -/
def leastFewestSpec : ChangeSpec := { name := "leastFewest", fn := fun _ => fun
  | [d1, d2] => { results := [.lit (.bool true)], args := [d1, d2] }
  | _ => none }
def leastFewestRow : OpenClaim := { program := "ytpmhnheimaimmaa", sum := "5e214d3ce7ef91f97185506b231559ff440100b48e6d82743ef24171e5892064", func := "headcount/headcountlaw18.LeastFewest", spec := "leastFewest", unfollowed := true, recurses := true, apart := false }
def LeastFewestSaid : Prop := leastFewestRow.holds Try.pinned (OpenSpec.ofChange leastFewestSpec)

/-- ITS FALSE NEIGHBOUR: 'it returns false'. Refute it at one input. -/
def leastFewestWrong : ChangeSpec := { name := "leastFewest", fn := fun _ => fun
  | [d1, d2] => { results := [.lit (.bool false)], args := [d1, d2] }
  | _ => none }
def LeastFewestWrongFalsely : Prop := leastFewestRow.holds Try.pinned (OpenSpec.ofChange leastFewestWrong)

/-- 'headcountlaw18.LeastTells': WHATEVER THE INPUT: true; the input reads as it did. -/
def leastTellsSpec : ChangeSpec := { name := "leastTells", fn := fun _ => fun
  | [d1, d2, d3] => { results := [.lit (.bool true)], args := [d1, d2, d3] }
  | _ => none }
def leastTellsRow : OpenClaim := { program := "ytpmhnheimaimmaa", sum := "5e214d3ce7ef91f97185506b231559ff440100b48e6d82743ef24171e5892064", func := "headcount/headcountlaw18.LeastTells", spec := "leastTells", unfollowed := true, recurses := true, apart := false }
def LeastTellsSaid : Prop := leastTellsRow.holds Try.pinned (OpenSpec.ofChange leastTellsSpec)

/-- ITS FALSE NEIGHBOUR: 'it returns false'. Refute it at one input. -/
def leastTellsWrong : ChangeSpec := { name := "leastTells", fn := fun _ => fun
  | [d1, d2, d3] => { results := [.lit (.bool false)], args := [d1, d2, d3] }
  | _ => none }
def LeastTellsWrongFalsely : Prop := leastTellsRow.holds Try.pinned (OpenSpec.ofChange leastTellsWrong)

/-- 'headcountlaw18.LeastNames': WHATEVER THE INPUT: true; the input reads as it did. -/
def leastNamesSpec : ChangeSpec := { name := "leastNames", fn := fun _ => fun
  | [] => { results := [.lit (.bool true)], args := [] }
  | _ => none }
def leastNamesRow : OpenClaim := { program := "ytpmhnheimaimmaa", sum := "5e214d3ce7ef91f97185506b231559ff440100b48e6d82743ef24171e5892064", func := "headcount/headcountlaw18.LeastNames", spec := "leastNames", unfollowed := true, recurses := true, apart := false }
def LeastNamesSaid : Prop := leastNamesRow.holds Try.pinned (OpenSpec.ofChange leastNamesSpec)

/-- ITS FALSE NEIGHBOUR: 'it returns false'. Refute it at one input. -/
def leastNamesWrong : ChangeSpec := { name := "leastNames", fn := fun _ => fun
  | [] => { results := [.lit (.bool false)], args := [] }
  | _ => none }
def LeastNamesWrongFalsely : Prop := leastNamesRow.holds Try.pinned (OpenSpec.ofChange leastNamesWrong)

/-- 'headcountlaw18.LeastApart': WHATEVER THE INPUT: true; the input reads as it did. -/
def leastApartSpec : ChangeSpec := { name := "leastApart", fn := fun _ => fun
  | [d1, d2, d3, d4, d5] => { results := [.lit (.bool true)], args := [d1, d2, d3, d4, d5] }
  | _ => none }
def leastApartRow : OpenClaim := { program := "ytpmhnheimaimmaa", sum := "5e214d3ce7ef91f97185506b231559ff440100b48e6d82743ef24171e5892064", func := "headcount/headcountlaw18.LeastApart", spec := "leastApart", unfollowed := true, recurses := true, apart := false }
def LeastApartSaid : Prop := leastApartRow.holds Try.pinned (OpenSpec.ofChange leastApartSpec)

/-- ITS FALSE NEIGHBOUR: 'it returns false'. Refute it at one input. -/
def leastApartWrong : ChangeSpec := { name := "leastApart", fn := fun _ => fun
  | [d1, d2, d3, d4, d5] => { results := [.lit (.bool false)], args := [d1, d2, d3, d4, d5] }
  | _ => none }
def LeastApartWrongFalsely : Prop := leastApartRow.holds Try.pinned (OpenSpec.ofChange leastApartWrong)

/- THE SECOND FORM. 'bulk': how many values and letters a reading holds, each counted each time it is reached (what is shared counts as often as it is met; a slice's spare places count too). A statement '..UptoSaid' is the law's where the arguments, and the package variables that the reading takes, are together of bulk at most 1048576: NARROWER than '..Said'. Prove '..Said' where nothing that the law and all that it calls make is longer than what came in: it says more and counts as full. Else prove '..UptoSaid'. A law counts once. -/
mutual
def uptoBulk {H : Type} : DataW H → Nat
  | .lit (.string bytes) => bytes.length + 1
  | .lit _ => 1
  | .nil => 1
  | .ptr d => uptoBulk d + 1
  | .slice elems spare => uptoBulkAll elems + uptoBulkAll spare + 1
  | .agg parts => uptoBulkAll parts + 1
  | .iface _ d => uptoBulk d + 1
  | .map entries => uptoBulkEntries entries + 1
  | .held _ => 1
def uptoBulkAll {H : Type} : List (DataW H) → Nat
  | [] => 0
  | d :: r => uptoBulk d + uptoBulkAll r
def uptoBulkEntries {H : Type} : List (Lit × DataW H) → Nat
  | [] => 0
  | x :: r => uptoBulkEntry x + uptoBulkEntries r
def uptoBulkEntry {H : Type} : Lit × DataW H → Nat
  | (.string bytes, d) => bytes.length + uptoBulk d + 1
  | (_, d) => uptoBulk d + 1
 end
def uptoSmall : (H : Type) → List (DataW H) → Bool := fun _ ds => decide (uptoBulkAll ds ≤ 1048576)
def OpenSpec.upto (s : _root_.Go.ChangeSpec) : _root_.Go.OpenSpec := { _root_.Go.OpenSpec.ofChange s with cond := some uptoSmall }

/-- 'headcountlaw18.LeastJoins', WHERE WHAT IT READS IS OF BULK AT MOST 1048576: true; the input reads as it did. -/
def leastJoinsUptoRow : OpenClaim := { program := "ytpmhnheimaimmaa", sum := "5e214d3ce7ef91f97185506b231559ff440100b48e6d82743ef24171e5892064", func := "headcount/headcountlaw18.LeastJoins", spec := "leastJoins", unfollowed := true, recurses := true, apart := false, narrowed := true }
def LeastJoinsUptoSaid : Prop := leastJoinsUptoRow.holds Try.pinned (OpenSpec.upto leastJoinsSpec)

/-- 'headcountlaw18.LeastOrder', WHERE WHAT IT READS IS OF BULK AT MOST 1048576: true; the input reads as it did. -/
def leastOrderUptoRow : OpenClaim := { program := "ytpmhnheimaimmaa", sum := "5e214d3ce7ef91f97185506b231559ff440100b48e6d82743ef24171e5892064", func := "headcount/headcountlaw18.LeastOrder", spec := "leastOrder", unfollowed := true, recurses := true, apart := false, narrowed := true }
def LeastOrderUptoSaid : Prop := leastOrderUptoRow.holds Try.pinned (OpenSpec.upto leastOrderSpec)

/-- 'headcountlaw18.LeastFewest', WHERE WHAT IT READS IS OF BULK AT MOST 1048576: true; the input reads as it did. -/
def leastFewestUptoRow : OpenClaim := { program := "ytpmhnheimaimmaa", sum := "5e214d3ce7ef91f97185506b231559ff440100b48e6d82743ef24171e5892064", func := "headcount/headcountlaw18.LeastFewest", spec := "leastFewest", unfollowed := true, recurses := true, apart := false, narrowed := true }
def LeastFewestUptoSaid : Prop := leastFewestUptoRow.holds Try.pinned (OpenSpec.upto leastFewestSpec)

/-- 'headcountlaw18.LeastTells', WHERE WHAT IT READS IS OF BULK AT MOST 1048576: true; the input reads as it did. -/
def leastTellsUptoRow : OpenClaim := { program := "ytpmhnheimaimmaa", sum := "5e214d3ce7ef91f97185506b231559ff440100b48e6d82743ef24171e5892064", func := "headcount/headcountlaw18.LeastTells", spec := "leastTells", unfollowed := true, recurses := true, apart := false, narrowed := true }
def LeastTellsUptoSaid : Prop := leastTellsUptoRow.holds Try.pinned (OpenSpec.upto leastTellsSpec)

/-- 'headcountlaw18.LeastNames', WHERE WHAT IT READS IS OF BULK AT MOST 1048576: true; the input reads as it did. -/
def leastNamesUptoRow : OpenClaim := { program := "ytpmhnheimaimmaa", sum := "5e214d3ce7ef91f97185506b231559ff440100b48e6d82743ef24171e5892064", func := "headcount/headcountlaw18.LeastNames", spec := "leastNames", unfollowed := true, recurses := true, apart := false, narrowed := true }
def LeastNamesUptoSaid : Prop := leastNamesUptoRow.holds Try.pinned (OpenSpec.upto leastNamesSpec)

/-- 'headcountlaw18.LeastApart', WHERE WHAT IT READS IS OF BULK AT MOST 1048576: true; the input reads as it did. -/
def leastApartUptoRow : OpenClaim := { program := "ytpmhnheimaimmaa", sum := "5e214d3ce7ef91f97185506b231559ff440100b48e6d82743ef24171e5892064", func := "headcount/headcountlaw18.LeastApart", spec := "leastApart", unfollowed := true, recurses := true, apart := false, narrowed := true }
def LeastApartUptoSaid : Prop := leastApartUptoRow.holds Try.pinned (OpenSpec.upto leastApartSpec)

end Rows
end Go.Proofs.Ytpmhnheimaimmaa
