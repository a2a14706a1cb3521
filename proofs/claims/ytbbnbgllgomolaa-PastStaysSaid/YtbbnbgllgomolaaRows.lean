/-
  No cell of these rows narrows 'for every input' (looked for: loops, veiled, ifaces, maps, wideKeys, modest, calm, conditions, laid).
  DERIVED. THE GIVEN ROWS OF THIS SEAT. 9 by the template 'for every input the law returns true; each argument reads behind the call as it read before'; 0 by the template 'total and deterministic' (their statements: YtbbnbgllgomolaaTotals.lean).
  GIVEN WITH THE SEED: the statements are not yours to turn. If you find one false, say at which input.
  Laid BY PROGRAM, IN A SANDBOX (cutbox-rows.mjs): the forced cells as the released guide's own fill.sh prints them over the translation 525bc5ae1b079cc1… (all of the seat's roots in one cut). By AI agents, Wed Nov 11 2026. No macro, syntax, notation, axiom, sorry.
-/
import Derived.Test.YtbbnbgllgomolaaChecked
import GoSem.Claim
import GoSem.ClaimJoined
import GoSem.ClaimMapViews
import Derived.JoinedTies
import Derived.KernelRfl
namespace Go.Proofs.Ytbbnbgllgomolaa
/- THE CELL 'sum', in the pinned program and in every row, IS THE sha256 OF THE DUMP (.gsa) THAT YtbbnbgllgomolaaProg.lean LOADS. Nothing in Lean hashes anything: it is a label: what it is worth is what the hold of that sum in a sandbox is worth. -/
noncomputable def Try.pinned : Pinned := { name := "ytbbnbgllgomolaa", sum := "525bc5ae1b079cc1b92c15b7b8d4e6b6f09b65fd65ab8e7972bbb54905513b42", checked := Try.checked }
namespace Rows
def none {H : Type} : Left H := { results := [], args := [] }

/-- 'headcountlaw20.PastCopies': WHATEVER THE INPUT: true; the input reads as it did. -/
def pastCopiesSpec : ChangeSpec := { name := "pastCopies", fn := fun _ => fun
  | [d1, d2, d3, d4] => { results := [.lit (.bool true)], args := [d1, d2, d3, d4] }
  | _ => none }
def pastCopiesRow : OpenClaim := { program := "ytbbnbgllgomolaa", sum := "525bc5ae1b079cc1b92c15b7b8d4e6b6f09b65fd65ab8e7972bbb54905513b42", func := "headcount/headcountlaw20.PastCopies", spec := "pastCopies", unfollowed := true, recurses := true, apart := false }
def PastCopiesSaid : Prop := pastCopiesRow.holds Try.pinned (OpenSpec.ofChange pastCopiesSpec)

/-- ITS FALSE NEIGHBOUR: 'it returns false'. Refute it at one input. -/
def pastCopiesWrong : ChangeSpec := { name := "pastCopies", fn := fun _ => fun
  | [d1, d2, d3, d4] => { results := [.lit (.bool false)], args := [d1, d2, d3, d4] }
  | _ => none }
def PastCopiesWrongFalsely : Prop := pastCopiesRow.holds Try.pinned (OpenSpec.ofChange pastCopiesWrong)

/-- 'headcountlaw20.PastTells': WHATEVER THE INPUT: true; the input reads as it did. -/
def pastTellsSpec : ChangeSpec := { name := "pastTells", fn := fun _ => fun
  | [d1, d2, d3] => { results := [.lit (.bool true)], args := [d1, d2, d3] }
  | _ => none }
def pastTellsRow : OpenClaim := { program := "ytbbnbgllgomolaa", sum := "525bc5ae1b079cc1b92c15b7b8d4e6b6f09b65fd65ab8e7972bbb54905513b42", func := "headcount/headcountlaw20.PastTells", spec := "pastTells", unfollowed := true, recurses := true, apart := false }
def PastTellsSaid : Prop := pastTellsRow.holds Try.pinned (OpenSpec.ofChange pastTellsSpec)

/-- ITS FALSE NEIGHBOUR: 'it returns false'. Refute it at one input. -/
def pastTellsWrong : ChangeSpec := { name := "pastTells", fn := fun _ => fun
  | [d1, d2, d3] => { results := [.lit (.bool false)], args := [d1, d2, d3] }
  | _ => none }
def PastTellsWrongFalsely : Prop := pastTellsRow.holds Try.pinned (OpenSpec.ofChange pastTellsWrong)

/-- 'headcountlaw03.RatioTells': WHATEVER THE INPUT: true; the input reads as it did. -/
def ratioTellsSpec : ChangeSpec := { name := "ratioTells", fn := fun _ => fun
  | [d1, d2, d3] => { results := [.lit (.bool true)], args := [d1, d2, d3] }
  | _ => none }
def ratioTellsRow : OpenClaim := { program := "ytbbnbgllgomolaa", sum := "525bc5ae1b079cc1b92c15b7b8d4e6b6f09b65fd65ab8e7972bbb54905513b42", func := "headcount/headcountlaw03.RatioTells", spec := "ratioTells", unfollowed := true, recurses := true, apart := false }
def RatioTellsSaid : Prop := ratioTellsRow.holds Try.pinned (OpenSpec.ofChange ratioTellsSpec)

/-- ITS FALSE NEIGHBOUR: 'it returns false'. Refute it at one input. -/
def ratioTellsWrong : ChangeSpec := { name := "ratioTells", fn := fun _ => fun
  | [d1, d2, d3] => { results := [.lit (.bool false)], args := [d1, d2, d3] }
  | _ => none }
def RatioTellsWrongFalsely : Prop := ratioTellsRow.holds Try.pinned (OpenSpec.ofChange ratioTellsWrong)

/-- 'headcountlaw20.PastNames': WHATEVER THE INPUT: true; the input reads as it did. -/
def pastNamesSpec : ChangeSpec := { name := "pastNames", fn := fun _ => fun
  | [] => { results := [.lit (.bool true)], args := [] }
  | _ => none }
def pastNamesRow : OpenClaim := { program := "ytbbnbgllgomolaa", sum := "525bc5ae1b079cc1b92c15b7b8d4e6b6f09b65fd65ab8e7972bbb54905513b42", func := "headcount/headcountlaw20.PastNames", spec := "pastNames", unfollowed := true, recurses := true, apart := false }
def PastNamesSaid : Prop := pastNamesRow.holds Try.pinned (OpenSpec.ofChange pastNamesSpec)

/-- ITS FALSE NEIGHBOUR: 'it returns false'. Refute it at one input. -/
def pastNamesWrong : ChangeSpec := { name := "pastNames", fn := fun _ => fun
  | [] => { results := [.lit (.bool false)], args := [] }
  | _ => none }
def PastNamesWrongFalsely : Prop := pastNamesRow.holds Try.pinned (OpenSpec.ofChange pastNamesWrong)

/-- 'headcountlaw20.PastStays': WHATEVER THE INPUT: true; the input reads as it did. -/
def pastStaysSpec : ChangeSpec := { name := "pastStays", fn := fun _ => fun
  | [d1, d2, d3, d4] => { results := [.lit (.bool true)], args := [d1, d2, d3, d4] }
  | _ => none }
def pastStaysRow : OpenClaim := { program := "ytbbnbgllgomolaa", sum := "525bc5ae1b079cc1b92c15b7b8d4e6b6f09b65fd65ab8e7972bbb54905513b42", func := "headcount/headcountlaw20.PastStays", spec := "pastStays", unfollowed := true, recurses := true, apart := false }
def PastStaysSaid : Prop := pastStaysRow.holds Try.pinned (OpenSpec.ofChange pastStaysSpec)

/-- ITS FALSE NEIGHBOUR: 'it returns false'. Refute it at one input. -/
def pastStaysWrong : ChangeSpec := { name := "pastStays", fn := fun _ => fun
  | [d1, d2, d3, d4] => { results := [.lit (.bool false)], args := [d1, d2, d3, d4] }
  | _ => none }
def PastStaysWrongFalsely : Prop := pastStaysRow.holds Try.pinned (OpenSpec.ofChange pastStaysWrong)

/-- 'headcountlaw20.PastParts': WHATEVER THE INPUT: true; the input reads as it did. -/
def pastPartsSpec : ChangeSpec := { name := "pastParts", fn := fun _ => fun
  | [d1, d2] => { results := [.lit (.bool true)], args := [d1, d2] }
  | _ => none }
def pastPartsRow : OpenClaim := { program := "ytbbnbgllgomolaa", sum := "525bc5ae1b079cc1b92c15b7b8d4e6b6f09b65fd65ab8e7972bbb54905513b42", func := "headcount/headcountlaw20.PastParts", spec := "pastParts", unfollowed := true, recurses := true, apart := false }
def PastPartsSaid : Prop := pastPartsRow.holds Try.pinned (OpenSpec.ofChange pastPartsSpec)

/-- ITS FALSE NEIGHBOUR: 'it returns false'. Refute it at one input. -/
def pastPartsWrong : ChangeSpec := { name := "pastParts", fn := fun _ => fun
  | [d1, d2] => { results := [.lit (.bool false)], args := [d1, d2] }
  | _ => none }
def PastPartsWrongFalsely : Prop := pastPartsRow.holds Try.pinned (OpenSpec.ofChange pastPartsWrong)

/-- 'headcountlaw03.RatioNames': WHATEVER THE INPUT: true; the input reads as it did. -/
def ratioNamesSpec : ChangeSpec := { name := "ratioNames", fn := fun _ => fun
  | [] => { results := [.lit (.bool true)], args := [] }
  | _ => none }
def ratioNamesRow : OpenClaim := { program := "ytbbnbgllgomolaa", sum := "525bc5ae1b079cc1b92c15b7b8d4e6b6f09b65fd65ab8e7972bbb54905513b42", func := "headcount/headcountlaw03.RatioNames", spec := "ratioNames", unfollowed := true, recurses := true, apart := false }
def RatioNamesSaid : Prop := ratioNamesRow.holds Try.pinned (OpenSpec.ofChange ratioNamesSpec)

/-- ITS FALSE NEIGHBOUR: 'it returns false'. Refute it at one input. -/
def ratioNamesWrong : ChangeSpec := { name := "ratioNames", fn := fun _ => fun
  | [] => { results := [.lit (.bool false)], args := [] }
  | _ => none }
def RatioNamesWrongFalsely : Prop := ratioNamesRow.holds Try.pinned (OpenSpec.ofChange ratioNamesWrong)

/-- 'headcountlaw03.RatioWhole': WHATEVER THE INPUT: true; the input reads as it did. -/
def ratioWholeSpec : ChangeSpec := { name := "ratioWhole", fn := fun _ => fun
  | [d1, d2] => { results := [.lit (.bool true)], args := [d1, d2] }
  | _ => none }
def ratioWholeRow : OpenClaim := { program := "ytbbnbgllgomolaa", sum := "525bc5ae1b079cc1b92c15b7b8d4e6b6f09b65fd65ab8e7972bbb54905513b42", func := "headcount/headcountlaw03.RatioWhole", spec := "ratioWhole", unfollowed := true, recurses := true, apart := false }
def RatioWholeSaid : Prop := ratioWholeRow.holds Try.pinned (OpenSpec.ofChange ratioWholeSpec)

/-- ITS FALSE NEIGHBOUR: 'it returns false'. Refute it at one input. -/
def ratioWholeWrong : ChangeSpec := { name := "ratioWhole", fn := fun _ => fun
  | [d1, d2] => { results := [.lit (.bool false)], args := [d1, d2] }
  | _ => none }
def RatioWholeWrongFalsely : Prop := ratioWholeRow.holds Try.pinned (OpenSpec.ofChange ratioWholeWrong)

/-- 'headcountlaw15.PushMeans': WHATEVER THE INPUT: true; the input reads as it did. -/
def pushMeansSpec : ChangeSpec := { name := "pushMeans", fn := fun _ => fun
  | [d1, d2, d3, d4] => { results := [.lit (.bool true)], args := [d1, d2, d3, d4] }
  | _ => none }
def pushMeansRow : OpenClaim := { program := "ytbbnbgllgomolaa", sum := "525bc5ae1b079cc1b92c15b7b8d4e6b6f09b65fd65ab8e7972bbb54905513b42", func := "headcount/headcountlaw15.PushMeans", spec := "pushMeans", unfollowed := true, recurses := true, apart := false }
def PushMeansSaid : Prop := pushMeansRow.holds Try.pinned (OpenSpec.ofChange pushMeansSpec)

/-- ITS FALSE NEIGHBOUR: 'it returns false'. Refute it at one input. -/
def pushMeansWrong : ChangeSpec := { name := "pushMeans", fn := fun _ => fun
  | [d1, d2, d3, d4] => { results := [.lit (.bool false)], args := [d1, d2, d3, d4] }
  | _ => none }
def PushMeansWrongFalsely : Prop := pushMeansRow.holds Try.pinned (OpenSpec.ofChange pushMeansWrong)

/- THE SECOND FORM. 'bulk': how many values and letters a reading holds, each counted each time it is reached (what is shared counts as often as it is met; a slice's spare places count too). A statement '..UptoSaid' is the law's where the arguments, and the package variables that the reading takes, are together of bulk at most 1048576: NARROWER than '..Said'. Prove '..Said' where nothing that the law and all that it calls make is longer than what came in: it says more and counts as full. Else prove '..UptoSaid'. A law counts once. -/
mutual
def uptoBulk {H : Type} : DataW H → Nat
  | .lit (.string bytes) => bytes.length + 1
  | .lit _ => 1
  | .nil => 1
  | .ptr d => uptoBulk d + 1
  | .slice elems spare => uptoBulkAll elems + uptoBulkAll spare + 1
  | .agg parts => uptoBulkAll parts + 1
  | .iface _ d => uptoBulk d + 1
  | .map entries => uptoBulkEntries entries + 1
  | .held _ => 1
def uptoBulkAll {H : Type} : List (DataW H) → Nat
  | [] => 0
  | d :: r => uptoBulk d + uptoBulkAll r
def uptoBulkEntries {H : Type} : List (Lit × DataW H) → Nat
  | [] => 0
  | x :: r => uptoBulkEntry x + uptoBulkEntries r
def uptoBulkEntry {H : Type} : Lit × DataW H → Nat
  | (.string bytes, d) => bytes.length + uptoBulk d + 1
  | (_, d) => uptoBulk d + 1
 end
def uptoSmall : (H : Type) → List (DataW H) → Bool := fun _ ds => decide (uptoBulkAll ds ≤ 1048576)
def OpenSpec.upto (s : _root_.Go.ChangeSpec) : _root_.Go.OpenSpec := { _root_.Go.OpenSpec.ofChange s with cond := some uptoSmall }

/-- 'headcountlaw20.PastCopies', WHERE WHAT IT READS IS OF BULK AT MOST 1048576: true; the input reads as it did. -/
def pastCopiesUptoRow : OpenClaim := { program := "ytbbnbgllgomolaa", sum := "525bc5ae1b079cc1b92c15b7b8d4e6b6f09b65fd65ab8e7972bbb54905513b42", func := "headcount/headcountlaw20.PastCopies", spec := "pastCopies", unfollowed := true, recurses := true, apart := false, narrowed := true }
def PastCopiesUptoSaid : Prop := pastCopiesUptoRow.holds Try.pinned (OpenSpec.upto pastCopiesSpec)

/-- 'headcountlaw20.PastTells', WHERE WHAT IT READS IS OF BULK AT MOST 1048576: true; the input reads as it did. -/
def pastTellsUptoRow : OpenClaim := { program := "ytbbnbgllgomolaa", sum := "525bc5ae1b079cc1b92c15b7b8d4e6b6f09b65fd65ab8e7972bbb54905513b42", func := "headcount/headcountlaw20.PastTells", spec := "pastTells", unfollowed := true, recurses := true, apart := false, narrowed := true }
def PastTellsUptoSaid : Prop := pastTellsUptoRow.holds Try.pinned (OpenSpec.upto pastTellsSpec)

/-- 'headcountlaw03.RatioTells', WHERE WHAT IT READS IS OF BULK AT MOST 1048576: true; the input reads as it did. -/
def ratioTellsUptoRow : OpenClaim := { program := "ytbbnbgllgomolaa", sum := "525bc5ae1b079cc1b92c15b7b8d4e6b6f09b65fd65ab8e7972bbb54905513b42", func := "headcount/headcountlaw03.RatioTells", spec := "ratioTells", unfollowed := true, recurses := true, apart := false, narrowed := true }
def RatioTellsUptoSaid : Prop := ratioTellsUptoRow.holds Try.pinned (OpenSpec.upto ratioTellsSpec)

/-- 'headcountlaw20.PastNames', WHERE WHAT IT READS IS OF BULK AT MOST 1048576: true; the input reads as it did. -/
def pastNamesUptoRow : OpenClaim := { program := "ytbbnbgllgomolaa", sum := "525bc5ae1b079cc1b92c15b7b8d4e6b6f09b65fd65ab8e7972bbb54905513b42", func := "headcount/headcountlaw20.PastNames", spec := "pastNames", unfollowed := true, recurses := true, apart := false, narrowed := true }
def PastNamesUptoSaid : Prop := pastNamesUptoRow.holds Try.pinned (OpenSpec.upto pastNamesSpec)

/-- 'headcountlaw20.PastStays', WHERE WHAT IT READS IS OF BULK AT MOST 1048576: true; the input reads as it did. -/
def pastStaysUptoRow : OpenClaim := { program := "ytbbnbgllgomolaa", sum := "525bc5ae1b079cc1b92c15b7b8d4e6b6f09b65fd65ab8e7972bbb54905513b42", func := "headcount/headcountlaw20.PastStays", spec := "pastStays", unfollowed := true, recurses := true, apart := false, narrowed := true }
def PastStaysUptoSaid : Prop := pastStaysUptoRow.holds Try.pinned (OpenSpec.upto pastStaysSpec)

/-- 'headcountlaw20.PastParts', WHERE WHAT IT READS IS OF BULK AT MOST 1048576: true; the input reads as it did. -/
def pastPartsUptoRow : OpenClaim := { program := "ytbbnbgllgomolaa", sum := "525bc5ae1b079cc1b92c15b7b8d4e6b6f09b65fd65ab8e7972bbb54905513b42", func := "headcount/headcountlaw20.PastParts", spec := "pastParts", unfollowed := true, recurses := true, apart := false, narrowed := true }
def PastPartsUptoSaid : Prop := pastPartsUptoRow.holds Try.pinned (OpenSpec.upto pastPartsSpec)

/-- 'headcountlaw03.RatioNames', WHERE WHAT IT READS IS OF BULK AT MOST 1048576: true; the input reads as it did. -/
def ratioNamesUptoRow : OpenClaim := { program := "ytbbnbgllgomolaa", sum := "525bc5ae1b079cc1b92c15b7b8d4e6b6f09b65fd65ab8e7972bbb54905513b42", func := "headcount/headcountlaw03.RatioNames", spec := "ratioNames", unfollowed := true, recurses := true, apart := false, narrowed := true }
def RatioNamesUptoSaid : Prop := ratioNamesUptoRow.holds Try.pinned (OpenSpec.upto ratioNamesSpec)

/-- 'headcountlaw03.RatioWhole', WHERE WHAT IT READS IS OF BULK AT MOST 1048576: true; the input reads as it did. -/
def ratioWholeUptoRow : OpenClaim := { program := "ytbbnbgllgomolaa", sum := "525bc5ae1b079cc1b92c15b7b8d4e6b6f09b65fd65ab8e7972bbb54905513b42", func := "headcount/headcountlaw03.RatioWhole", spec := "ratioWhole", unfollowed := true, recurses := true, apart := false, narrowed := true }
def RatioWholeUptoSaid : Prop := ratioWholeUptoRow.holds Try.pinned (OpenSpec.upto ratioWholeSpec)

/-- 'headcountlaw15.PushMeans', WHERE WHAT IT READS IS OF BULK AT MOST 1048576: true; the input reads as it did. -/
def pushMeansUptoRow : OpenClaim := { program := "ytbbnbgllgomolaa", sum := "525bc5ae1b079cc1b92c15b7b8d4e6b6f09b65fd65ab8e7972bbb54905513b42", func := "headcount/headcountlaw15.PushMeans", spec := "pushMeans", unfollowed := true, recurses := true, apart := false, narrowed := true }
def PushMeansUptoSaid : Prop := pushMeansUptoRow.holds Try.pinned (OpenSpec.upto pushMeansSpec)

end Rows
end Go.Proofs.Ytbbnbgllgomolaa
