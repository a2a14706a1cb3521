/-
  DERIVED. GIVEN WITH THE SEED: THE CARDS: each row of YtmbppgjhdcmckaaDoorRows.lean that lists a variable, with what it lists TIED to the program's text (the seventh form; the later family's looks); each row that meets fmt, with fmt's text TOLD by the authors' own Lean function (tested against real Go, not proved from fmt's source: count such statements apart). THE CARD IS WHAT COUNTS. Prove the row's statement (the work); the ties are given (YtmbppgjhdcmckaaDoorTie.lean); close each card by the builder's one call (the guide's Derived/Test/ToyasCard.lean, 'card_holds'). Laid BY PROGRAM, IN A SANDBOX (cutbox-door.mjs). By AI agents, Wed Nov 11 2026. No macro, syntax, notation, axiom, sorry.
-/
import Derived.Test.YtmbppgjhdcmckaaDoorRows
import GoSem.ClaimSeven
namespace Go.Proofs.YtmbppgjhdcmckaaDoor
namespace Rows

/-- THE TIED CARD OF 'headcountlaw25.QueryCounts'. -/
def queryCountsCard : Claim7 := { stood := { row := queryCountsRow, standIns := [], harness := (true, "fd9fde3cddfab3bb180ce440576408ca12dbe0b02860c10dca661d3c8c762c10"), looks := false }, kinds := [], alts := [], laidByText := true, laidKinds := [.data], laidTests := true, laidLooks := .later }
def QueryCountsCardSaid : Prop := Claim7.holds Tryd.pinned (.plain (OpenSpec.ofChange queryCountsSpec)) queryCountsCard

/-- THE TIED CARD OF 'headcountlaw25.QuerySums'. -/
def querySumsCard : Claim7 := { stood := { row := querySumsRow, standIns := [], harness := (true, "fd9fde3cddfab3bb180ce440576408ca12dbe0b02860c10dca661d3c8c762c10"), looks := false }, kinds := [], alts := [], laidByText := true, laidKinds := [.data], laidTests := true, laidLooks := .later }
def QuerySumsCardSaid : Prop := Claim7.holds Tryd.pinned (.plain (OpenSpec.ofChange querySumsSpec)) querySumsCard

/-- THE TIED CARD OF 'headcountlaw25.QueryBetween'. -/
def queryBetweenCard : Claim7 := { stood := { row := queryBetweenRow, standIns := [], harness := (true, "fd9fde3cddfab3bb180ce440576408ca12dbe0b02860c10dca661d3c8c762c10"), looks := false }, kinds := [], alts := [], laidByText := true, laidKinds := [.data], laidTests := true, laidLooks := .later }
def QueryBetweenCardSaid : Prop := Claim7.holds Tryd.pinned (.plain (OpenSpec.ofChange queryBetweenSpec)) queryBetweenCard

/-- THE SECOND FORM's CARD OF 'headcountlaw25.QueryCounts'. -/
def queryCountsUptoCard : Claim7 := { stood := { row := queryCountsUptoRow, standIns := [], harness := (true, "fd9fde3cddfab3bb180ce440576408ca12dbe0b02860c10dca661d3c8c762c10"), looks := false }, kinds := [], alts := [], laidByText := true, laidKinds := [.data], laidTests := true, laidLooks := .later }
def QueryCountsUptoCardSaid : Prop := Claim7.holds Tryd.pinned (.plain (OpenSpec.upto queryCountsSpec)) queryCountsUptoCard

/-- THE SECOND FORM's CARD OF 'headcountlaw25.QuerySums'. -/
def querySumsUptoCard : Claim7 := { stood := { row := querySumsUptoRow, standIns := [], harness := (true, "fd9fde3cddfab3bb180ce440576408ca12dbe0b02860c10dca661d3c8c762c10"), looks := false }, kinds := [], alts := [], laidByText := true, laidKinds := [.data], laidTests := true, laidLooks := .later }
def QuerySumsUptoCardSaid : Prop := Claim7.holds Tryd.pinned (.plain (OpenSpec.upto querySumsSpec)) querySumsUptoCard

/-- THE SECOND FORM's CARD OF 'headcountlaw25.QueryBetween'. -/
def queryBetweenUptoCard : Claim7 := { stood := { row := queryBetweenUptoRow, standIns := [], harness := (true, "fd9fde3cddfab3bb180ce440576408ca12dbe0b02860c10dca661d3c8c762c10"), looks := false }, kinds := [], alts := [], laidByText := true, laidKinds := [.data], laidTests := true, laidLooks := .later }
def QueryBetweenUptoCardSaid : Prop := Claim7.holds Tryd.pinned (.plain (OpenSpec.upto queryBetweenSpec)) queryBetweenUptoCard
end Rows
end Go.Proofs.YtmbppgjhdcmckaaDoor
