/-
  No cell of these rows narrows 'for every input' (looked for: loops, veiled, ifaces, maps, wideKeys, modest, calm, conditions, laid).
  DERIVED. THE GIVEN ROWS OF THIS SEAT. 15 by the template 'for every input the law returns true; each argument reads behind the call as it read before'; 0 by the template 'total and deterministic' (their statements: YtpjomdkcckamkaaTotals.lean).
  GIVEN WITH THE SEED: the statements are not yours to turn. If you find one false, say at which input.
  Laid BY PROGRAM, IN A SANDBOX (cutbox-rows.mjs): the forced cells as the released guide's own fill.sh prints them over the translation 698fcab44a3f0eef… (all of the seat's roots in one cut). By AI agents, Wed Nov 11 2026. No macro, syntax, notation, axiom, sorry.
-/
import Derived.Test.YtpjomdkcckamkaaChecked
import GoSem.Claim
import GoSem.ClaimJoined
import GoSem.ClaimMapViews
import Derived.JoinedTies
import Derived.KernelRfl
namespace Go.Proofs.Ytpjomdkcckamkaa
/- THE CELL 'sum', in the pinned program and in every row, IS THE sha256 OF THE DUMP (.gsa) THAT YtpjomdkcckamkaaProg.lean LOADS. Nothing in Lean hashes anything: it is a label: what it is worth is what the hold of that sum in a sandbox is worth. -/
noncomputable def Try.pinned : Pinned := { name := "ytpjomdkcckamkaa", sum := "698fcab44a3f0eefddc65886d825d0f640064916e4a3186dfe5f7b5a9ea6136e", checked := Try.checked }
namespace Rows
def none {H : Type} : Left H := { results := [], args := [] }

/-- 'headcountlaw07.DescBest': WHATEVER THE INPUT: true; the input reads as it did. -/
def descBestSpec : ChangeSpec := { name := "descBest", fn := fun _ => fun
  | [d1, d2] => { results := [.lit (.bool true)], args := [d1, d2] }
  | _ => none }
def descBestRow : OpenClaim := { program := "ytpjomdkcckamkaa", sum := "698fcab44a3f0eefddc65886d825d0f640064916e4a3186dfe5f7b5a9ea6136e", func := "headcount/headcountlaw07.DescBest", spec := "descBest", unfollowed := true, recurses := true, apart := false }
def DescBestSaid : Prop := descBestRow.holds Try.pinned (OpenSpec.ofChange descBestSpec)

/-- ITS FALSE NEIGHBOUR: 'it returns false'. Refute it at one input. -/
def descBestWrong : ChangeSpec := { name := "descBest", fn := fun _ => fun
  | [d1, d2] => { results := [.lit (.bool false)], args := [d1, d2] }
  | _ => none }
def DescBestWrongFalsely : Prop := descBestRow.holds Try.pinned (OpenSpec.ofChange descBestWrong)

/-- 'headcountlaw07.DescNames': WHATEVER THE INPUT: true; the input reads as it did. -/
def descNamesSpec : ChangeSpec := { name := "descNames", fn := fun _ => fun
  | [] => { results := [.lit (.bool true)], args := [] }
  | _ => none }
def descNamesRow : OpenClaim := { program := "ytpjomdkcckamkaa", sum := "698fcab44a3f0eefddc65886d825d0f640064916e4a3186dfe5f7b5a9ea6136e", func := "headcount/headcountlaw07.DescNames", spec := "descNames", unfollowed := true, recurses := true, apart := false }
def DescNamesSaid : Prop := descNamesRow.holds Try.pinned (OpenSpec.ofChange descNamesSpec)

/-- ITS FALSE NEIGHBOUR: 'it returns false'. Refute it at one input. -/
def descNamesWrong : ChangeSpec := { name := "descNames", fn := fun _ => fun
  | [] => { results := [.lit (.bool false)], args := [] }
  | _ => none }
def DescNamesWrongFalsely : Prop := descNamesRow.holds Try.pinned (OpenSpec.ofChange descNamesWrong)

/-- 'headcountlaw07.DescTells': WHATEVER THE INPUT: true; the input reads as it did. -/
def descTellsSpec : ChangeSpec := { name := "descTells", fn := fun _ => fun
  | [d1, d2, d3, d4] => { results := [.lit (.bool true)], args := [d1, d2, d3, d4] }
  | _ => none }
def descTellsRow : OpenClaim := { program := "ytpjomdkcckamkaa", sum := "698fcab44a3f0eefddc65886d825d0f640064916e4a3186dfe5f7b5a9ea6136e", func := "headcount/headcountlaw07.DescTells", spec := "descTells", unfollowed := true, recurses := true, apart := false }
def DescTellsSaid : Prop := descTellsRow.holds Try.pinned (OpenSpec.ofChange descTellsSpec)

/-- ITS FALSE NEIGHBOUR: 'it returns false'. Refute it at one input. -/
def descTellsWrong : ChangeSpec := { name := "descTells", fn := fun _ => fun
  | [d1, d2, d3, d4] => { results := [.lit (.bool false)], args := [d1, d2, d3, d4] }
  | _ => none }
def DescTellsWrongFalsely : Prop := descTellsRow.holds Try.pinned (OpenSpec.ofChange descTellsWrong)

/-- 'headcountlaw07.DescOrder': WHATEVER THE INPUT: true; the input reads as it did. -/
def descOrderSpec : ChangeSpec := { name := "descOrder", fn := fun _ => fun
  | [d] => { results := [.lit (.bool true)], args := [d] }
  | _ => none }
def descOrderRow : OpenClaim := { program := "ytpjomdkcckamkaa", sum := "698fcab44a3f0eefddc65886d825d0f640064916e4a3186dfe5f7b5a9ea6136e", func := "headcount/headcountlaw07.DescOrder", spec := "descOrder", unfollowed := true, recurses := true, apart := false }
def DescOrderSaid : Prop := descOrderRow.holds Try.pinned (OpenSpec.ofChange descOrderSpec)

/-- ITS FALSE NEIGHBOUR: 'it returns false'. Refute it at one input. -/
def descOrderWrong : ChangeSpec := { name := "descOrder", fn := fun _ => fun
  | [d] => { results := [.lit (.bool false)], args := [d] }
  | _ => none }
def DescOrderWrongFalsely : Prop := descOrderRow.holds Try.pinned (OpenSpec.ofChange descOrderWrong)

/-- 'headcountlaw07.DescTotal': WHATEVER THE INPUT: true; the input reads as it did. -/
def descTotalSpec : ChangeSpec := { name := "descTotal", fn := fun _ => fun
  | [d1, d2, d3] => { results := [.lit (.bool true)], args := [d1, d2, d3] }
  | _ => none }
def descTotalRow : OpenClaim := { program := "ytpjomdkcckamkaa", sum := "698fcab44a3f0eefddc65886d825d0f640064916e4a3186dfe5f7b5a9ea6136e", func := "headcount/headcountlaw07.DescTotal", spec := "descTotal", unfollowed := true, recurses := true, apart := false }
def DescTotalSaid : Prop := descTotalRow.holds Try.pinned (OpenSpec.ofChange descTotalSpec)

/-- ITS FALSE NEIGHBOUR: 'it returns false'. Refute it at one input. -/
def descTotalWrong : ChangeSpec := { name := "descTotal", fn := fun _ => fun
  | [d1, d2, d3] => { results := [.lit (.bool false)], args := [d1, d2, d3] }
  | _ => none }
def DescTotalWrongFalsely : Prop := descTotalRow.holds Try.pinned (OpenSpec.ofChange descTotalWrong)

/-- 'headcountlaw08.CacheOnce': WHATEVER THE INPUT: true; the input reads as it did. -/
def cacheOnceSpec : ChangeSpec := { name := "cacheOnce", fn := fun _ => fun
  | [d1, d2, d3] => { results := [.lit (.bool true)], args := [d1, d2, d3] }
  | _ => none }
def cacheOnceRow : OpenClaim := { program := "ytpjomdkcckamkaa", sum := "698fcab44a3f0eefddc65886d825d0f640064916e4a3186dfe5f7b5a9ea6136e", func := "headcount/headcountlaw08.CacheOnce", spec := "cacheOnce", unfollowed := true, recurses := true, apart := false }
def CacheOnceSaid : Prop := cacheOnceRow.holds Try.pinned (OpenSpec.ofChange cacheOnceSpec)

/-- ITS FALSE NEIGHBOUR: 'it returns false'. Refute it at one input. -/
def cacheOnceWrong : ChangeSpec := { name := "cacheOnce", fn := fun _ => fun
  | [d1, d2, d3] => { results := [.lit (.bool false)], args := [d1, d2, d3] }
  | _ => none }
def CacheOnceWrongFalsely : Prop := cacheOnceRow.holds Try.pinned (OpenSpec.ofChange cacheOnceWrong)

/-- 'headcountlaw08.CacheOffers': WHATEVER THE INPUT: true; the input reads as it did. -/
def cacheOffersSpec : ChangeSpec := { name := "cacheOffers", fn := fun _ => fun
  | [d1, d2, d3] => { results := [.lit (.bool true)], args := [d1, d2, d3] }
  | _ => none }
def cacheOffersRow : OpenClaim := { program := "ytpjomdkcckamkaa", sum := "698fcab44a3f0eefddc65886d825d0f640064916e4a3186dfe5f7b5a9ea6136e", func := "headcount/headcountlaw08.CacheOffers", spec := "cacheOffers", unfollowed := true, recurses := true, apart := false }
def CacheOffersSaid : Prop := cacheOffersRow.holds Try.pinned (OpenSpec.ofChange cacheOffersSpec)

/-- ITS FALSE NEIGHBOUR: 'it returns false'. Refute it at one input. -/
def cacheOffersWrong : ChangeSpec := { name := "cacheOffers", fn := fun _ => fun
  | [d1, d2, d3] => { results := [.lit (.bool false)], args := [d1, d2, d3] }
  | _ => none }
def CacheOffersWrongFalsely : Prop := cacheOffersRow.holds Try.pinned (OpenSpec.ofChange cacheOffersWrong)

/-- 'headcountlaw08.CacheNames': WHATEVER THE INPUT: true; the input reads as it did. -/
def cacheNamesSpec : ChangeSpec := { name := "cacheNames", fn := fun _ => fun
  | [] => { results := [.lit (.bool true)], args := [] }
  | _ => none }
def cacheNamesRow : OpenClaim := { program := "ytpjomdkcckamkaa", sum := "698fcab44a3f0eefddc65886d825d0f640064916e4a3186dfe5f7b5a9ea6136e", func := "headcount/headcountlaw08.CacheNames", spec := "cacheNames", unfollowed := true, recurses := true, apart := false }
def CacheNamesSaid : Prop := cacheNamesRow.holds Try.pinned (OpenSpec.ofChange cacheNamesSpec)

/-- ITS FALSE NEIGHBOUR: 'it returns false'. Refute it at one input. -/
def cacheNamesWrong : ChangeSpec := { name := "cacheNames", fn := fun _ => fun
  | [] => { results := [.lit (.bool false)], args := [] }
  | _ => none }
def CacheNamesWrongFalsely : Prop := cacheNamesRow.holds Try.pinned (OpenSpec.ofChange cacheNamesWrong)

/-- 'headcountlaw08.CacheTells': WHATEVER THE INPUT: true; the input reads as it did. -/
def cacheTellsSpec : ChangeSpec := { name := "cacheTells", fn := fun _ => fun
  | [d1, d2, d3, d4] => { results := [.lit (.bool true)], args := [d1, d2, d3, d4] }
  | _ => none }
def cacheTellsRow : OpenClaim := { program := "ytpjomdkcckamkaa", sum := "698fcab44a3f0eefddc65886d825d0f640064916e4a3186dfe5f7b5a9ea6136e", func := "headcount/headcountlaw08.CacheTells", spec := "cacheTells", unfollowed := true, recurses := true, apart := false }
def CacheTellsSaid : Prop := cacheTellsRow.holds Try.pinned (OpenSpec.ofChange cacheTellsSpec)

/-- ITS FALSE NEIGHBOUR: 'it returns false'. Refute it at one input. -/
def cacheTellsWrong : ChangeSpec := { name := "cacheTells", fn := fun _ => fun
  | [d1, d2, d3, d4] => { results := [.lit (.bool false)], args := [d1, d2, d3, d4] }
  | _ => none }
def CacheTellsWrongFalsely : Prop := cacheTellsRow.holds Try.pinned (OpenSpec.ofChange cacheTellsWrong)

/-- 'headcountlaw08.CacheFresh': WHATEVER THE INPUT: true; the input reads as it did. -/
def cacheFreshSpec : ChangeSpec := { name := "cacheFresh", fn := fun _ => fun
  | [d1, d2] => { results := [.lit (.bool true)], args := [d1, d2] }
  | _ => none }
def cacheFreshRow : OpenClaim := { program := "ytpjomdkcckamkaa", sum := "698fcab44a3f0eefddc65886d825d0f640064916e4a3186dfe5f7b5a9ea6136e", func := "headcount/headcountlaw08.CacheFresh", spec := "cacheFresh", unfollowed := true, recurses := true, apart := false }
def CacheFreshSaid : Prop := cacheFreshRow.holds Try.pinned (OpenSpec.ofChange cacheFreshSpec)

/-- ITS FALSE NEIGHBOUR: 'it returns false'. Refute it at one input. -/
def cacheFreshWrong : ChangeSpec := { name := "cacheFresh", fn := fun _ => fun
  | [d1, d2] => { results := [.lit (.bool false)], args := [d1, d2] }
  | _ => none }
def CacheFreshWrongFalsely : Prop := cacheFreshRow.holds Try.pinned (OpenSpec.ofChange cacheFreshWrong)

/-- 'headcountlaw09.ChooseNames': WHATEVER THE INPUT: true; the input reads as it did. -/
def chooseNamesSpec : ChangeSpec := { name := "chooseNames", fn := fun _ => fun
  | [] => { results := [.lit (.bool true)], args := [] }
  | _ => none }
def chooseNamesRow : OpenClaim := { program := "ytpjomdkcckamkaa", sum := "698fcab44a3f0eefddc65886d825d0f640064916e4a3186dfe5f7b5a9ea6136e", func := "headcount/headcountlaw09.ChooseNames", spec := "chooseNames", unfollowed := true, recurses := true, apart := false }
def ChooseNamesSaid : Prop := chooseNamesRow.holds Try.pinned (OpenSpec.ofChange chooseNamesSpec)

/-- ITS FALSE NEIGHBOUR: 'it returns false'. Refute it at one input. -/
def chooseNamesWrong : ChangeSpec := { name := "chooseNames", fn := fun _ => fun
  | [] => { results := [.lit (.bool false)], args := [] }
  | _ => none }
def ChooseNamesWrongFalsely : Prop := chooseNamesRow.holds Try.pinned (OpenSpec.ofChange chooseNamesWrong)

/-- 'headcountlaw09.ChooseTells': WHATEVER THE INPUT: true; the input reads as it did. -/
def chooseTellsSpec : ChangeSpec := { name := "chooseTells", fn := fun _ => fun
  | [d1, d2, d3, d4] => { results := [.lit (.bool true)], args := [d1, d2, d3, d4] }
  | _ => none }
def chooseTellsRow : OpenClaim := { program := "ytpjomdkcckamkaa", sum := "698fcab44a3f0eefddc65886d825d0f640064916e4a3186dfe5f7b5a9ea6136e", func := "headcount/headcountlaw09.ChooseTells", spec := "chooseTells", unfollowed := true, recurses := true, apart := false }
def ChooseTellsSaid : Prop := chooseTellsRow.holds Try.pinned (OpenSpec.ofChange chooseTellsSpec)

/-- ITS FALSE NEIGHBOUR: 'it returns false'. Refute it at one input. -/
def chooseTellsWrong : ChangeSpec := { name := "chooseTells", fn := fun _ => fun
  | [d1, d2, d3, d4] => { results := [.lit (.bool false)], args := [d1, d2, d3, d4] }
  | _ => none }
def ChooseTellsWrongFalsely : Prop := chooseTellsRow.holds Try.pinned (OpenSpec.ofChange chooseTellsWrong)

/-- 'headcountlaw09.ChooseRound': WHATEVER THE INPUT: true; the input reads as it did. -/
def chooseRoundSpec : ChangeSpec := { name := "chooseRound", fn := fun _ => fun
  | [d1, d2] => { results := [.lit (.bool true)], args := [d1, d2] }
  | _ => none }
def chooseRoundRow : OpenClaim := { program := "ytpjomdkcckamkaa", sum := "698fcab44a3f0eefddc65886d825d0f640064916e4a3186dfe5f7b5a9ea6136e", func := "headcount/headcountlaw09.ChooseRound", spec := "chooseRound", unfollowed := true, recurses := true, apart := false }
def ChooseRoundSaid : Prop := chooseRoundRow.holds Try.pinned (OpenSpec.ofChange chooseRoundSpec)

/-- ITS FALSE NEIGHBOUR: 'it returns false'. Refute it at one input. -/
def chooseRoundWrong : ChangeSpec := { name := "chooseRound", fn := fun _ => fun
  | [d1, d2] => { results := [.lit (.bool false)], args := [d1, d2] }
  | _ => none }
def ChooseRoundWrongFalsely : Prop := chooseRoundRow.holds Try.pinned (OpenSpec.ofChange chooseRoundWrong)

/-- 'headcountlaw09.ChooseOnce': WHATEVER THE INPUT: true; the input reads as it did. -/
def chooseOnceSpec : ChangeSpec := { name := "chooseOnce", fn := fun _ => fun
  | [d1, d2] => { results := [.lit (.bool true)], args := [d1, d2] }
  | _ => none }
def chooseOnceRow : OpenClaim := { program := "ytpjomdkcckamkaa", sum := "698fcab44a3f0eefddc65886d825d0f640064916e4a3186dfe5f7b5a9ea6136e", func := "headcount/headcountlaw09.ChooseOnce", spec := "chooseOnce", unfollowed := true, recurses := true, apart := false }
def ChooseOnceSaid : Prop := chooseOnceRow.holds Try.pinned (OpenSpec.ofChange chooseOnceSpec)

/-- ITS FALSE NEIGHBOUR: 'it returns false'. Refute it at one input. -/
def chooseOnceWrong : ChangeSpec := { name := "chooseOnce", fn := fun _ => fun
  | [d1, d2] => { results := [.lit (.bool false)], args := [d1, d2] }
  | _ => none }
def ChooseOnceWrongFalsely : Prop := chooseOnceRow.holds Try.pinned (OpenSpec.ofChange chooseOnceWrong)

/-- 'headcountlaw09.ChooseBegins': WHATEVER THE INPUT: true; the input reads as it did. -/
def chooseBeginsSpec : ChangeSpec := { name := "chooseBegins", fn := fun _ => fun
  | [d1, d2, d3] => { results := [.lit (.bool true)], args := [d1, d2, d3] }
  | _ => none }
def chooseBeginsRow : OpenClaim := { program := "ytpjomdkcckamkaa", sum := "698fcab44a3f0eefddc65886d825d0f640064916e4a3186dfe5f7b5a9ea6136e", func := "headcount/headcountlaw09.ChooseBegins", spec := "chooseBegins", unfollowed := true, recurses := true, apart := false }
def ChooseBeginsSaid : Prop := chooseBeginsRow.holds Try.pinned (OpenSpec.ofChange chooseBeginsSpec)

/-- ITS FALSE NEIGHBOUR: 'it returns false'. Refute it at one input. -/
def chooseBeginsWrong : ChangeSpec := { name := "chooseBegins", fn := fun _ => fun
  | [d1, d2, d3] => { results := [.lit (.bool false)], args := [d1, d2, d3] }
  | _ => none }
def ChooseBeginsWrongFalsely : Prop := chooseBeginsRow.holds Try.pinned (OpenSpec.ofChange chooseBeginsWrong)

/- THE SECOND FORM. 'bulk': how many values and letters a reading holds, each counted each time it is reached (what is shared counts as often as it is met; a slice's spare places count too). A statement '..UptoSaid' is the law's where the arguments, and the package variables that the reading takes, are together of bulk at most 1048576: NARROWER than '..Said'. Prove '..Said' where nothing that the law and all that it calls make is longer than what came in: it says more and counts as full. Else prove '..UptoSaid'. A law counts once. -/
mutual
def uptoBulk {H : Type} : DataW H → Nat
  | .lit (.string bytes) => bytes.length + 1
  | .lit _ => 1
  | .nil => 1
  | .ptr d => uptoBulk d + 1
  | .slice elems spare => uptoBulkAll elems + uptoBulkAll spare + 1
  | .agg parts => uptoBulkAll parts + 1
  | .iface _ d => uptoBulk d + 1
  | .map entries => uptoBulkEntries entries + 1
  | .held _ => 1
def uptoBulkAll {H : Type} : List (DataW H) → Nat
  | [] => 0
  | d :: r => uptoBulk d + uptoBulkAll r
def uptoBulkEntries {H : Type} : List (Lit × DataW H) → Nat
  | [] => 0
  | x :: r => uptoBulkEntry x + uptoBulkEntries r
def uptoBulkEntry {H : Type} : Lit × DataW H → Nat
  | (.string bytes, d) => bytes.length + uptoBulk d + 1
  | (_, d) => uptoBulk d + 1
 end
def uptoSmall : (H : Type) → List (DataW H) → Bool := fun _ ds => decide (uptoBulkAll ds ≤ 1048576)
def OpenSpec.upto (s : _root_.Go.ChangeSpec) : _root_.Go.OpenSpec := { _root_.Go.OpenSpec.ofChange s with cond := some uptoSmall }

/-- 'headcountlaw07.DescBest', WHERE WHAT IT READS IS OF BULK AT MOST 1048576: true; the input reads as it did. -/
def descBestUptoRow : OpenClaim := { program := "ytpjomdkcckamkaa", sum := "698fcab44a3f0eefddc65886d825d0f640064916e4a3186dfe5f7b5a9ea6136e", func := "headcount/headcountlaw07.DescBest", spec := "descBest", unfollowed := true, recurses := true, apart := false, narrowed := true }
def DescBestUptoSaid : Prop := descBestUptoRow.holds Try.pinned (OpenSpec.upto descBestSpec)

/-- 'headcountlaw07.DescNames', WHERE WHAT IT READS IS OF BULK AT MOST 1048576: true; the input reads as it did. -/
def descNamesUptoRow : OpenClaim := { program := "ytpjomdkcckamkaa", sum := "698fcab44a3f0eefddc65886d825d0f640064916e4a3186dfe5f7b5a9ea6136e", func := "headcount/headcountlaw07.DescNames", spec := "descNames", unfollowed := true, recurses := true, apart := false, narrowed := true }
def DescNamesUptoSaid : Prop := descNamesUptoRow.holds Try.pinned (OpenSpec.upto descNamesSpec)

/-- 'headcountlaw07.DescTells', WHERE WHAT IT READS IS OF BULK AT MOST 1048576: true; the input reads as it did. -/
def descTellsUptoRow : OpenClaim := { program := "ytpjomdkcckamkaa", sum := "698fcab44a3f0eefddc65886d825d0f640064916e4a3186dfe5f7b5a9ea6136e", func := "headcount/headcountlaw07.DescTells", spec := "descTells", unfollowed := true, recurses := true, apart := false, narrowed := true }
def DescTellsUptoSaid : Prop := descTellsUptoRow.holds Try.pinned (OpenSpec.upto descTellsSpec)

/-- 'headcountlaw07.DescOrder', WHERE WHAT IT READS IS OF BULK AT MOST 1048576: true; the input reads as it did. -/
def descOrderUptoRow : OpenClaim := { program := "ytpjomdkcckamkaa", sum := "698fcab44a3f0eefddc65886d825d0f640064916e4a3186dfe5f7b5a9ea6136e", func := "headcount/headcountlaw07.DescOrder", spec := "descOrder", unfollowed := true, recurses := true, apart := false, narrowed := true }
def DescOrderUptoSaid : Prop := descOrderUptoRow.holds Try.pinned (OpenSpec.upto descOrderSpec)

/-- 'headcountlaw07.DescTotal', WHERE WHAT IT READS IS OF BULK AT MOST 1048576: true; the input reads as it did. -/
def descTotalUptoRow : OpenClaim := { program := "ytpjomdkcckamkaa", sum := "698fcab44a3f0eefddc65886d825d0f640064916e4a3186dfe5f7b5a9ea6136e", func := "headcount/headcountlaw07.DescTotal", spec := "descTotal", unfollowed := true, recurses := true, apart := false, narrowed := true }
def DescTotalUptoSaid : Prop := descTotalUptoRow.holds Try.pinned (OpenSpec.upto descTotalSpec)

/-- 'headcountlaw08.CacheOnce', WHERE WHAT IT READS IS OF BULK AT MOST 1048576: true; the input reads as it did. -/
def cacheOnceUptoRow : OpenClaim := { program := "ytpjomdkcckamkaa", sum := "698fcab44a3f0eefddc65886d825d0f640064916e4a3186dfe5f7b5a9ea6136e", func := "headcount/headcountlaw08.CacheOnce", spec := "cacheOnce", unfollowed := true, recurses := true, apart := false, narrowed := true }
def CacheOnceUptoSaid : Prop := cacheOnceUptoRow.holds Try.pinned (OpenSpec.upto cacheOnceSpec)

/-- 'headcountlaw08.CacheOffers', WHERE WHAT IT READS IS OF BULK AT MOST 1048576: true; the input reads as it did. -/
def cacheOffersUptoRow : OpenClaim := { program := "ytpjomdkcckamkaa", sum := "698fcab44a3f0eefddc65886d825d0f640064916e4a3186dfe5f7b5a9ea6136e", func := "headcount/headcountlaw08.CacheOffers", spec := "cacheOffers", unfollowed := true, recurses := true, apart := false, narrowed := true }
def CacheOffersUptoSaid : Prop := cacheOffersUptoRow.holds Try.pinned (OpenSpec.upto cacheOffersSpec)

/-- 'headcountlaw08.CacheNames', WHERE WHAT IT READS IS OF BULK AT MOST 1048576: true; the input reads as it did. -/
def cacheNamesUptoRow : OpenClaim := { program := "ytpjomdkcckamkaa", sum := "698fcab44a3f0eefddc65886d825d0f640064916e4a3186dfe5f7b5a9ea6136e", func := "headcount/headcountlaw08.CacheNames", spec := "cacheNames", unfollowed := true, recurses := true, apart := false, narrowed := true }
def CacheNamesUptoSaid : Prop := cacheNamesUptoRow.holds Try.pinned (OpenSpec.upto cacheNamesSpec)

/-- 'headcountlaw08.CacheTells', WHERE WHAT IT READS IS OF BULK AT MOST 1048576: true; the input reads as it did. -/
def cacheTellsUptoRow : OpenClaim := { program := "ytpjomdkcckamkaa", sum := "698fcab44a3f0eefddc65886d825d0f640064916e4a3186dfe5f7b5a9ea6136e", func := "headcount/headcountlaw08.CacheTells", spec := "cacheTells", unfollowed := true, recurses := true, apart := false, narrowed := true }
def CacheTellsUptoSaid : Prop := cacheTellsUptoRow.holds Try.pinned (OpenSpec.upto cacheTellsSpec)

/-- 'headcountlaw08.CacheFresh', WHERE WHAT IT READS IS OF BULK AT MOST 1048576: true; the input reads as it did. -/
def cacheFreshUptoRow : OpenClaim := { program := "ytpjomdkcckamkaa", sum := "698fcab44a3f0eefddc65886d825d0f640064916e4a3186dfe5f7b5a9ea6136e", func := "headcount/headcountlaw08.CacheFresh", spec := "cacheFresh", unfollowed := true, recurses := true, apart := false, narrowed := true }
def CacheFreshUptoSaid : Prop := cacheFreshUptoRow.holds Try.pinned (OpenSpec.upto cacheFreshSpec)

/-- 'headcountlaw09.ChooseNames', WHERE WHAT IT READS IS OF BULK AT MOST 1048576: true; the input reads as it did. -/
def chooseNamesUptoRow : OpenClaim := { program := "ytpjomdkcckamkaa", sum := "698fcab44a3f0eefddc65886d825d0f640064916e4a3186dfe5f7b5a9ea6136e", func := "headcount/headcountlaw09.ChooseNames", spec := "chooseNames", unfollowed := true, recurses := true, apart := false, narrowed := true }
def ChooseNamesUptoSaid : Prop := chooseNamesUptoRow.holds Try.pinned (OpenSpec.upto chooseNamesSpec)

/-- 'headcountlaw09.ChooseTells', WHERE WHAT IT READS IS OF BULK AT MOST 1048576: true; the input reads as it did. -/
def chooseTellsUptoRow : OpenClaim := { program := "ytpjomdkcckamkaa", sum := "698fcab44a3f0eefddc65886d825d0f640064916e4a3186dfe5f7b5a9ea6136e", func := "headcount/headcountlaw09.ChooseTells", spec := "chooseTells", unfollowed := true, recurses := true, apart := false, narrowed := true }
def ChooseTellsUptoSaid : Prop := chooseTellsUptoRow.holds Try.pinned (OpenSpec.upto chooseTellsSpec)

/-- 'headcountlaw09.ChooseRound', WHERE WHAT IT READS IS OF BULK AT MOST 1048576: true; the input reads as it did. -/
def chooseRoundUptoRow : OpenClaim := { program := "ytpjomdkcckamkaa", sum := "698fcab44a3f0eefddc65886d825d0f640064916e4a3186dfe5f7b5a9ea6136e", func := "headcount/headcountlaw09.ChooseRound", spec := "chooseRound", unfollowed := true, recurses := true, apart := false, narrowed := true }
def ChooseRoundUptoSaid : Prop := chooseRoundUptoRow.holds Try.pinned (OpenSpec.upto chooseRoundSpec)

/-- 'headcountlaw09.ChooseOnce', WHERE WHAT IT READS IS OF BULK AT MOST 1048576: true; the input reads as it did. -/
def chooseOnceUptoRow : OpenClaim := { program := "ytpjomdkcckamkaa", sum := "698fcab44a3f0eefddc65886d825d0f640064916e4a3186dfe5f7b5a9ea6136e", func := "headcount/headcountlaw09.ChooseOnce", spec := "chooseOnce", unfollowed := true, recurses := true, apart := false, narrowed := true }
def ChooseOnceUptoSaid : Prop := chooseOnceUptoRow.holds Try.pinned (OpenSpec.upto chooseOnceSpec)

/-- 'headcountlaw09.ChooseBegins', WHERE WHAT IT READS IS OF BULK AT MOST 1048576: true; the input reads as it did. -/
def chooseBeginsUptoRow : OpenClaim := { program := "ytpjomdkcckamkaa", sum := "698fcab44a3f0eefddc65886d825d0f640064916e4a3186dfe5f7b5a9ea6136e", func := "headcount/headcountlaw09.ChooseBegins", spec := "chooseBegins", unfollowed := true, recurses := true, apart := false, narrowed := true }
def ChooseBeginsUptoSaid : Prop := chooseBeginsUptoRow.holds Try.pinned (OpenSpec.upto chooseBeginsSpec)

end Rows
end Go.Proofs.Ytpjomdkcckamkaa
