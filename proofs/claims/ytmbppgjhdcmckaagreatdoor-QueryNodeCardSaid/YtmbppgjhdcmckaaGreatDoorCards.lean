/-
  DERIVED. GIVEN WITH THE SEED: THE CARDS: each row of YtmbppgjhdcmckaaGreatDoorRows.lean that lists a variable, with what it lists TIED to the program's text (the seventh form; the later family's looks); each row that meets fmt, with fmt's text TOLD by the authors' own Lean function (tested against real Go, not proved from fmt's source: count such statements apart). THE CARD IS WHAT COUNTS. Prove the row's statement (the work); the ties are given (YtmbppgjhdcmckaaGreatDoorTie.lean); close each card by the builder's one call (the guide's Derived/Test/ToyasCard.lean, 'card_holds'). Laid BY PROGRAM, IN A SANDBOX (cutbox-door.mjs). By AI agents, Wed Nov 11 2026. No macro, syntax, notation, axiom, sorry.
-/
import Derived.Test.YtmbppgjhdcmckaaGreatDoorRows
import GoSem.ClaimSeven
namespace Go.Proofs.YtmbppgjhdcmckaaGreatDoor
namespace Rows

/-- THE TIED CARD OF 'headcountlaw25.QueryTells'. -/
def queryTellsCard : Claim7 := { stood := { row := queryTellsRow, standIns := [], harness := (true, "b08f29d3188bc2672d17d2f914c22e189f1df4bd9070ac128878bb997fba15f7"), looks := false }, kinds := [], alts := [], laidByText := true, laidKinds := [.data], laidTests := true, laidLooks := .later }
def QueryTellsCardSaid : Prop := Claim7.holds Tryz.pinned (.plain (OpenSpec.ofChange queryTellsSpec)) queryTellsCard

/-- THE TIED CARD OF 'headcountlaw25.QueryNames'. -/
def queryNamesCard : Claim7 := { stood := { row := queryNamesRow, standIns := [], harness := (true, "b08f29d3188bc2672d17d2f914c22e189f1df4bd9070ac128878bb997fba15f7"), looks := false }, kinds := [], alts := [], laidByText := true, laidKinds := [.data], laidTests := true, laidLooks := .later }
def QueryNamesCardSaid : Prop := Claim7.holds Tryz.pinned (.plain (OpenSpec.ofChange queryNamesSpec)) queryNamesCard

/-- THE TIED CARD OF 'headcountlaw25.QueryNode'. -/
def queryNodeCard : Claim7 := { stood := { row := queryNodeRow, standIns := [], harness := (true, "b08f29d3188bc2672d17d2f914c22e189f1df4bd9070ac128878bb997fba15f7"), looks := false }, kinds := [], alts := [], laidByText := true, laidKinds := [.data], laidTests := true, laidLooks := .later }
def QueryNodeCardSaid : Prop := Claim7.holds Tryz.pinned (.plain (OpenSpec.ofChange queryNodeSpec)) queryNodeCard

/-- THE TIED CARD OF 'headcountlaw25.QueryFrozen'. -/
def queryFrozenCard : Claim7 := { stood := { row := queryFrozenRow, standIns := [], harness := (true, "b08f29d3188bc2672d17d2f914c22e189f1df4bd9070ac128878bb997fba15f7"), looks := false }, kinds := [], alts := [], laidByText := true, laidKinds := [.data], laidTests := true, laidLooks := .later }
def QueryFrozenCardSaid : Prop := Claim7.holds Tryz.pinned (.plain (OpenSpec.ofChange queryFrozenSpec)) queryFrozenCard

/-- THE SECOND FORM's CARD OF 'headcountlaw25.QueryTells'. -/
def queryTellsUptoCard : Claim7 := { stood := { row := queryTellsUptoRow, standIns := [], harness := (true, "b08f29d3188bc2672d17d2f914c22e189f1df4bd9070ac128878bb997fba15f7"), looks := false }, kinds := [], alts := [], laidByText := true, laidKinds := [.data], laidTests := true, laidLooks := .later }
def QueryTellsUptoCardSaid : Prop := Claim7.holds Tryz.pinned (.plain (OpenSpec.upto queryTellsSpec)) queryTellsUptoCard

/-- THE SECOND FORM's CARD OF 'headcountlaw25.QueryNames'. -/
def queryNamesUptoCard : Claim7 := { stood := { row := queryNamesUptoRow, standIns := [], harness := (true, "b08f29d3188bc2672d17d2f914c22e189f1df4bd9070ac128878bb997fba15f7"), looks := false }, kinds := [], alts := [], laidByText := true, laidKinds := [.data], laidTests := true, laidLooks := .later }
def QueryNamesUptoCardSaid : Prop := Claim7.holds Tryz.pinned (.plain (OpenSpec.upto queryNamesSpec)) queryNamesUptoCard

/-- THE SECOND FORM's CARD OF 'headcountlaw25.QueryNode'. -/
def queryNodeUptoCard : Claim7 := { stood := { row := queryNodeUptoRow, standIns := [], harness := (true, "b08f29d3188bc2672d17d2f914c22e189f1df4bd9070ac128878bb997fba15f7"), looks := false }, kinds := [], alts := [], laidByText := true, laidKinds := [.data], laidTests := true, laidLooks := .later }
def QueryNodeUptoCardSaid : Prop := Claim7.holds Tryz.pinned (.plain (OpenSpec.upto queryNodeSpec)) queryNodeUptoCard

/-- THE SECOND FORM's CARD OF 'headcountlaw25.QueryFrozen'. -/
def queryFrozenUptoCard : Claim7 := { stood := { row := queryFrozenUptoRow, standIns := [], harness := (true, "b08f29d3188bc2672d17d2f914c22e189f1df4bd9070ac128878bb997fba15f7"), looks := false }, kinds := [], alts := [], laidByText := true, laidKinds := [.data], laidTests := true, laidLooks := .later }
def QueryFrozenUptoCardSaid : Prop := Claim7.holds Tryz.pinned (.plain (OpenSpec.upto queryFrozenSpec)) queryFrozenUptoCard
end Rows
end Go.Proofs.YtmbppgjhdcmckaaGreatDoor
