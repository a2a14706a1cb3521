/-
  DERIVED. GIVEN WITH THE SEED: THE CARDS: each row of YtlbkepiflhchdaaDoorRows.lean that lists a variable, with what it lists TIED to the program's text (the seventh form; the later family's looks); each row that meets fmt, with fmt's text TOLD by the authors' own Lean function (tested against real Go, not proved from fmt's source: count such statements apart). THE CARD IS WHAT COUNTS. Prove the row's statement (the work); the ties are given (YtlbkepiflhchdaaDoorTie.lean); close each card by the builder's one call (the guide's Derived/Test/ToyasCard.lean, 'card_holds'). Laid BY PROGRAM, IN A SANDBOX (cutbox-door.mjs). By AI agents, Wed Nov 11 2026. No macro, syntax, notation, axiom, sorry.
-/
import Derived.Test.YtlbkepiflhchdaaDoorRows
import GoSem.ClaimSeven
namespace Go.Proofs.YtlbkepiflhchdaaDoor
namespace Rows

/-- THE TIED CARD OF 'headcountlaw02.DyadSums'. -/
def dyadSumsCard : Claim7 := { stood := { row := dyadSumsRow, standIns := [], harness := (true, "8acb81811ed2484cbc69e3b3ed39b13c7537139c4d07cf94a97cfc65502729c4"), looks := false }, kinds := [], alts := [], laidByText := true, laidKinds := [.data], laidTests := true, laidLooks := .later }
def DyadSumsCardSaid : Prop := Claim7.holds Tryd.pinned (.plain (OpenSpec.ofChange dyadSumsSpec)) dyadSumsCard

/-- THE TIED CARD OF 'headcountlaw06.MassSums'. -/
def massSumsCard : Claim7 := { stood := { row := massSumsRow, standIns := [], harness := (true, "8acb81811ed2484cbc69e3b3ed39b13c7537139c4d07cf94a97cfc65502729c4"), looks := false }, kinds := [], alts := [], laidByText := true, laidKinds := [.data], laidTests := true, laidLooks := .later }
def MassSumsCardSaid : Prop := Claim7.holds Tryd.pinned (.plain (OpenSpec.ofChange massSumsSpec)) massSumsCard

/-- THE TIED CARD OF 'headcountlaw02.DyadHalves'. -/
def dyadHalvesCard : Claim7 := { stood := { row := dyadHalvesRow, standIns := [], harness := (true, "8acb81811ed2484cbc69e3b3ed39b13c7537139c4d07cf94a97cfc65502729c4"), looks := false }, kinds := [], alts := [], laidByText := true, laidKinds := [.data], laidTests := true, laidLooks := .later }
def DyadHalvesCardSaid : Prop := Claim7.holds Tryd.pinned (.plain (OpenSpec.ofChange dyadHalvesSpec)) dyadHalvesCard

/-- THE TIED CARD OF 'headcountlaw02.DyadGroup'. -/
def dyadGroupCard : Claim7 := { stood := { row := dyadGroupRow, standIns := [], harness := (true, "8acb81811ed2484cbc69e3b3ed39b13c7537139c4d07cf94a97cfc65502729c4"), looks := false }, kinds := [], alts := [], laidByText := true, laidKinds := [.data], laidTests := true, laidLooks := .later }
def DyadGroupCardSaid : Prop := Claim7.holds Tryd.pinned (.plain (OpenSpec.ofChange dyadGroupSpec)) dyadGroupCard

/-- THE TIED CARD OF 'headcountlaw02.DyadNames'. -/
def dyadNamesCard : Claim7 := { stood := { row := dyadNamesRow, standIns := [], harness := (true, "8acb81811ed2484cbc69e3b3ed39b13c7537139c4d07cf94a97cfc65502729c4"), looks := false }, kinds := [], alts := [], laidByText := true, laidKinds := [.data], laidTests := true, laidLooks := .later }
def DyadNamesCardSaid : Prop := Claim7.holds Tryd.pinned (.plain (OpenSpec.ofChange dyadNamesSpec)) dyadNamesCard

/-- THE TIED CARD OF 'headcountlaw02.DyadOne'. -/
def dyadOneCard : Claim7 := { stood := { row := dyadOneRow, standIns := [], harness := (true, "8acb81811ed2484cbc69e3b3ed39b13c7537139c4d07cf94a97cfc65502729c4"), looks := false }, kinds := [], alts := [], laidByText := true, laidKinds := [.data], laidTests := true, laidLooks := .later }
def DyadOneCardSaid : Prop := Claim7.holds Tryd.pinned (.plain (OpenSpec.ofChange dyadOneSpec)) dyadOneCard

/-- THE TIED CARD OF 'headcountlaw16.MeanApart'. -/
def meanApartCard : Claim7 := { stood := { row := meanApartRow, standIns := [], harness := (true, "8acb81811ed2484cbc69e3b3ed39b13c7537139c4d07cf94a97cfc65502729c4"), looks := false }, kinds := [], alts := [], laidByText := true, laidKinds := [.data], laidTests := true, laidLooks := .later }
def MeanApartCardSaid : Prop := Claim7.holds Tryd.pinned (.plain (OpenSpec.ofChange meanApartSpec)) meanApartCard

/-- THE TIED CARD OF 'headcountlaw16.MeanTells'. -/
def meanTellsCard : Claim7 := { stood := { row := meanTellsRow, standIns := [], harness := (true, "8acb81811ed2484cbc69e3b3ed39b13c7537139c4d07cf94a97cfc65502729c4"), looks := false }, kinds := [], alts := [], laidByText := true, laidKinds := [.data], laidTests := true, laidLooks := .later }
def MeanTellsCardSaid : Prop := Claim7.holds Tryd.pinned (.plain (OpenSpec.ofChange meanTellsSpec)) meanTellsCard

/-- THE TIED CARD OF 'headcountlaw06.MassWhole'. -/
def massWholeCard : Claim7 := { stood := { row := massWholeRow, standIns := [], harness := (true, "8acb81811ed2484cbc69e3b3ed39b13c7537139c4d07cf94a97cfc65502729c4"), looks := false }, kinds := [], alts := [], laidByText := true, laidKinds := [.data], laidTests := true, laidLooks := .later }
def MassWholeCardSaid : Prop := Claim7.holds Tryd.pinned (.plain (OpenSpec.ofChange massWholeSpec)) massWholeCard

/-- THE TIED CARD OF 'headcountlaw06.MassTells'. -/
def massTellsCard : Claim7 := { stood := { row := massTellsRow, standIns := [], harness := (true, "8acb81811ed2484cbc69e3b3ed39b13c7537139c4d07cf94a97cfc65502729c4"), looks := false }, kinds := [], alts := [], laidByText := true, laidKinds := [.data], laidTests := true, laidLooks := .later }
def MassTellsCardSaid : Prop := Claim7.holds Tryd.pinned (.plain (OpenSpec.ofChange massTellsSpec)) massTellsCard

/-- THE TIED CARD OF 'headcountlaw06.MassNames'. -/
def massNamesCard : Claim7 := { stood := { row := massNamesRow, standIns := [], harness := (true, "8acb81811ed2484cbc69e3b3ed39b13c7537139c4d07cf94a97cfc65502729c4"), looks := false }, kinds := [], alts := [], laidByText := true, laidKinds := [.data], laidTests := true, laidLooks := .later }
def MassNamesCardSaid : Prop := Claim7.holds Tryd.pinned (.plain (OpenSpec.ofChange massNamesSpec)) massNamesCard

/-- THE TIED CARD OF 'headcountlaw06.MassGroup'. -/
def massGroupCard : Claim7 := { stood := { row := massGroupRow, standIns := [], harness := (true, "8acb81811ed2484cbc69e3b3ed39b13c7537139c4d07cf94a97cfc65502729c4"), looks := false }, kinds := [], alts := [], laidByText := true, laidKinds := [.data], laidTests := true, laidLooks := .later }
def MassGroupCardSaid : Prop := Claim7.holds Tryd.pinned (.plain (OpenSpec.ofChange massGroupSpec)) massGroupCard

/-- THE TIED CARD OF 'headcountlaw16.MeanNames'. -/
def meanNamesCard : Claim7 := { stood := { row := meanNamesRow, standIns := [], harness := (true, "8acb81811ed2484cbc69e3b3ed39b13c7537139c4d07cf94a97cfc65502729c4"), looks := false }, kinds := [], alts := [], laidByText := true, laidKinds := [.data], laidTests := true, laidLooks := .later }
def MeanNamesCardSaid : Prop := Claim7.holds Tryd.pinned (.plain (OpenSpec.ofChange meanNamesSpec)) meanNamesCard

/-- THE TIED CARD OF 'headcountlaw16.MeanHalves'. -/
def meanHalvesCard : Claim7 := { stood := { row := meanHalvesRow, standIns := [], harness := (true, "8acb81811ed2484cbc69e3b3ed39b13c7537139c4d07cf94a97cfc65502729c4"), looks := false }, kinds := [], alts := [], laidByText := true, laidKinds := [.data], laidTests := true, laidLooks := .later }
def MeanHalvesCardSaid : Prop := Claim7.holds Tryd.pinned (.plain (OpenSpec.ofChange meanHalvesSpec)) meanHalvesCard

/-- THE TIED CARD OF 'headcountlaw16.MeanNever'. -/
def meanNeverCard : Claim7 := { stood := { row := meanNeverRow, standIns := [], harness := (true, "8acb81811ed2484cbc69e3b3ed39b13c7537139c4d07cf94a97cfc65502729c4"), looks := false }, kinds := [], alts := [], laidByText := true, laidKinds := [.data], laidTests := true, laidLooks := .later }
def MeanNeverCardSaid : Prop := Claim7.holds Tryd.pinned (.plain (OpenSpec.ofChange meanNeverSpec)) meanNeverCard

/-- THE SECOND FORM's CARD OF 'headcountlaw02.DyadSums'. -/
def dyadSumsUptoCard : Claim7 := { stood := { row := dyadSumsUptoRow, standIns := [], harness := (true, "8acb81811ed2484cbc69e3b3ed39b13c7537139c4d07cf94a97cfc65502729c4"), looks := false }, kinds := [], alts := [], laidByText := true, laidKinds := [.data], laidTests := true, laidLooks := .later }
def DyadSumsUptoCardSaid : Prop := Claim7.holds Tryd.pinned (.plain (OpenSpec.upto dyadSumsSpec)) dyadSumsUptoCard

/-- THE SECOND FORM's CARD OF 'headcountlaw06.MassSums'. -/
def massSumsUptoCard : Claim7 := { stood := { row := massSumsUptoRow, standIns := [], harness := (true, "8acb81811ed2484cbc69e3b3ed39b13c7537139c4d07cf94a97cfc65502729c4"), looks := false }, kinds := [], alts := [], laidByText := true, laidKinds := [.data], laidTests := true, laidLooks := .later }
def MassSumsUptoCardSaid : Prop := Claim7.holds Tryd.pinned (.plain (OpenSpec.upto massSumsSpec)) massSumsUptoCard

/-- THE SECOND FORM's CARD OF 'headcountlaw02.DyadHalves'. -/
def dyadHalvesUptoCard : Claim7 := { stood := { row := dyadHalvesUptoRow, standIns := [], harness := (true, "8acb81811ed2484cbc69e3b3ed39b13c7537139c4d07cf94a97cfc65502729c4"), looks := false }, kinds := [], alts := [], laidByText := true, laidKinds := [.data], laidTests := true, laidLooks := .later }
def DyadHalvesUptoCardSaid : Prop := Claim7.holds Tryd.pinned (.plain (OpenSpec.upto dyadHalvesSpec)) dyadHalvesUptoCard

/-- THE SECOND FORM's CARD OF 'headcountlaw02.DyadGroup'. -/
def dyadGroupUptoCard : Claim7 := { stood := { row := dyadGroupUptoRow, standIns := [], harness := (true, "8acb81811ed2484cbc69e3b3ed39b13c7537139c4d07cf94a97cfc65502729c4"), looks := false }, kinds := [], alts := [], laidByText := true, laidKinds := [.data], laidTests := true, laidLooks := .later }
def DyadGroupUptoCardSaid : Prop := Claim7.holds Tryd.pinned (.plain (OpenSpec.upto dyadGroupSpec)) dyadGroupUptoCard

/-- THE SECOND FORM's CARD OF 'headcountlaw02.DyadNames'. -/
def dyadNamesUptoCard : Claim7 := { stood := { row := dyadNamesUptoRow, standIns := [], harness := (true, "8acb81811ed2484cbc69e3b3ed39b13c7537139c4d07cf94a97cfc65502729c4"), looks := false }, kinds := [], alts := [], laidByText := true, laidKinds := [.data], laidTests := true, laidLooks := .later }
def DyadNamesUptoCardSaid : Prop := Claim7.holds Tryd.pinned (.plain (OpenSpec.upto dyadNamesSpec)) dyadNamesUptoCard

/-- THE SECOND FORM's CARD OF 'headcountlaw02.DyadOne'. -/
def dyadOneUptoCard : Claim7 := { stood := { row := dyadOneUptoRow, standIns := [], harness := (true, "8acb81811ed2484cbc69e3b3ed39b13c7537139c4d07cf94a97cfc65502729c4"), looks := false }, kinds := [], alts := [], laidByText := true, laidKinds := [.data], laidTests := true, laidLooks := .later }
def DyadOneUptoCardSaid : Prop := Claim7.holds Tryd.pinned (.plain (OpenSpec.upto dyadOneSpec)) dyadOneUptoCard

/-- THE SECOND FORM's CARD OF 'headcountlaw16.MeanApart'. -/
def meanApartUptoCard : Claim7 := { stood := { row := meanApartUptoRow, standIns := [], harness := (true, "8acb81811ed2484cbc69e3b3ed39b13c7537139c4d07cf94a97cfc65502729c4"), looks := false }, kinds := [], alts := [], laidByText := true, laidKinds := [.data], laidTests := true, laidLooks := .later }
def MeanApartUptoCardSaid : Prop := Claim7.holds Tryd.pinned (.plain (OpenSpec.upto meanApartSpec)) meanApartUptoCard

/-- THE SECOND FORM's CARD OF 'headcountlaw16.MeanTells'. -/
def meanTellsUptoCard : Claim7 := { stood := { row := meanTellsUptoRow, standIns := [], harness := (true, "8acb81811ed2484cbc69e3b3ed39b13c7537139c4d07cf94a97cfc65502729c4"), looks := false }, kinds := [], alts := [], laidByText := true, laidKinds := [.data], laidTests := true, laidLooks := .later }
def MeanTellsUptoCardSaid : Prop := Claim7.holds Tryd.pinned (.plain (OpenSpec.upto meanTellsSpec)) meanTellsUptoCard

/-- THE SECOND FORM's CARD OF 'headcountlaw06.MassWhole'. -/
def massWholeUptoCard : Claim7 := { stood := { row := massWholeUptoRow, standIns := [], harness := (true, "8acb81811ed2484cbc69e3b3ed39b13c7537139c4d07cf94a97cfc65502729c4"), looks := false }, kinds := [], alts := [], laidByText := true, laidKinds := [.data], laidTests := true, laidLooks := .later }
def MassWholeUptoCardSaid : Prop := Claim7.holds Tryd.pinned (.plain (OpenSpec.upto massWholeSpec)) massWholeUptoCard

/-- THE SECOND FORM's CARD OF 'headcountlaw06.MassTells'. -/
def massTellsUptoCard : Claim7 := { stood := { row := massTellsUptoRow, standIns := [], harness := (true, "8acb81811ed2484cbc69e3b3ed39b13c7537139c4d07cf94a97cfc65502729c4"), looks := false }, kinds := [], alts := [], laidByText := true, laidKinds := [.data], laidTests := true, laidLooks := .later }
def MassTellsUptoCardSaid : Prop := Claim7.holds Tryd.pinned (.plain (OpenSpec.upto massTellsSpec)) massTellsUptoCard

/-- THE SECOND FORM's CARD OF 'headcountlaw06.MassNames'. -/
def massNamesUptoCard : Claim7 := { stood := { row := massNamesUptoRow, standIns := [], harness := (true, "8acb81811ed2484cbc69e3b3ed39b13c7537139c4d07cf94a97cfc65502729c4"), looks := false }, kinds := [], alts := [], laidByText := true, laidKinds := [.data], laidTests := true, laidLooks := .later }
def MassNamesUptoCardSaid : Prop := Claim7.holds Tryd.pinned (.plain (OpenSpec.upto massNamesSpec)) massNamesUptoCard

/-- THE SECOND FORM's CARD OF 'headcountlaw06.MassGroup'. -/
def massGroupUptoCard : Claim7 := { stood := { row := massGroupUptoRow, standIns := [], harness := (true, "8acb81811ed2484cbc69e3b3ed39b13c7537139c4d07cf94a97cfc65502729c4"), looks := false }, kinds := [], alts := [], laidByText := true, laidKinds := [.data], laidTests := true, laidLooks := .later }
def MassGroupUptoCardSaid : Prop := Claim7.holds Tryd.pinned (.plain (OpenSpec.upto massGroupSpec)) massGroupUptoCard

/-- THE SECOND FORM's CARD OF 'headcountlaw16.MeanNames'. -/
def meanNamesUptoCard : Claim7 := { stood := { row := meanNamesUptoRow, standIns := [], harness := (true, "8acb81811ed2484cbc69e3b3ed39b13c7537139c4d07cf94a97cfc65502729c4"), looks := false }, kinds := [], alts := [], laidByText := true, laidKinds := [.data], laidTests := true, laidLooks := .later }
def MeanNamesUptoCardSaid : Prop := Claim7.holds Tryd.pinned (.plain (OpenSpec.upto meanNamesSpec)) meanNamesUptoCard

/-- THE SECOND FORM's CARD OF 'headcountlaw16.MeanHalves'. -/
def meanHalvesUptoCard : Claim7 := { stood := { row := meanHalvesUptoRow, standIns := [], harness := (true, "8acb81811ed2484cbc69e3b3ed39b13c7537139c4d07cf94a97cfc65502729c4"), looks := false }, kinds := [], alts := [], laidByText := true, laidKinds := [.data], laidTests := true, laidLooks := .later }
def MeanHalvesUptoCardSaid : Prop := Claim7.holds Tryd.pinned (.plain (OpenSpec.upto meanHalvesSpec)) meanHalvesUptoCard

/-- THE SECOND FORM's CARD OF 'headcountlaw16.MeanNever'. -/
def meanNeverUptoCard : Claim7 := { stood := { row := meanNeverUptoRow, standIns := [], harness := (true, "8acb81811ed2484cbc69e3b3ed39b13c7537139c4d07cf94a97cfc65502729c4"), looks := false }, kinds := [], alts := [], laidByText := true, laidKinds := [.data], laidTests := true, laidLooks := .later }
def MeanNeverUptoCardSaid : Prop := Claim7.holds Tryd.pinned (.plain (OpenSpec.upto meanNeverSpec)) meanNeverUptoCard
end Rows
end Go.Proofs.YtlbkepiflhchdaaDoor
