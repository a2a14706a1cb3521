/-
  DERIVED. GIVEN WITH THE SEED: THE CARDS: each row of YtbbnbgllgomolaaDoorRows.lean that lists a variable, with what it lists TIED to the program's text (the seventh form; the later family's looks); each row that meets fmt, with fmt's text TOLD by the authors' own Lean function (tested against real Go, not proved from fmt's source: count such statements apart). THE CARD IS WHAT COUNTS. Prove the row's statement (the work); the ties are given (YtbbnbgllgomolaaDoorTie.lean); close each card by the builder's one call (the guide's Derived/Test/ToyasCard.lean, 'card_holds'). Laid BY PROGRAM, IN A SANDBOX (cutbox-door.mjs). By AI agents, Wed Nov 11 2026. No macro, syntax, notation, axiom, sorry.
-/
import Derived.Test.YtbbnbgllgomolaaDoorRows
import GoSem.ClaimSeven
namespace Go.Proofs.YtbbnbgllgomolaaDoor
namespace Rows

/-- THE TIED CARD OF 'headcountlaw15.PushTells'. -/
def pushTellsCard : Claim7 := { stood := { row := pushTellsRow, standIns := [], harness := (true, "e6ac452f7c91b8c3a7ab61263158154c774493edca6d7b71bc3234d56ffca8a7"), looks := false }, kinds := [], alts := [], laidByText := true, laidKinds := [.data], laidTests := true, laidLooks := .later }
def PushTellsCardSaid : Prop := Claim7.holds Tryd.pinned (.plain (OpenSpec.ofChange pushTellsSpec)) pushTellsCard

/-- THE TIED CARD OF 'headcountlaw03.RatioScales'. -/
def ratioScalesCard : Claim7 := { stood := { row := ratioScalesRow, standIns := [], harness := (true, "e6ac452f7c91b8c3a7ab61263158154c774493edca6d7b71bc3234d56ffca8a7"), looks := false }, kinds := [], alts := [], laidByText := true, laidKinds := [.data], laidTests := true, laidLooks := .later }
def RatioScalesCardSaid : Prop := Claim7.holds Tryd.pinned (.plain (OpenSpec.ofChange ratioScalesSpec)) ratioScalesCard

/-- THE TIED CARD OF 'headcountlaw03.RatioBand'. -/
def ratioBandCard : Claim7 := { stood := { row := ratioBandRow, standIns := [], harness := (true, "e6ac452f7c91b8c3a7ab61263158154c774493edca6d7b71bc3234d56ffca8a7"), looks := false }, kinds := [], alts := [], laidByText := true, laidKinds := [.data], laidTests := true, laidLooks := .later }
def RatioBandCardSaid : Prop := Claim7.holds Tryd.pinned (.plain (OpenSpec.ofChange ratioBandSpec)) ratioBandCard

/-- THE TIED CARD OF 'headcountlaw15.PushBand'. -/
def pushBandCard : Claim7 := { stood := { row := pushBandRow, standIns := [], harness := (true, "e6ac452f7c91b8c3a7ab61263158154c774493edca6d7b71bc3234d56ffca8a7"), looks := false }, kinds := [], alts := [], laidByText := true, laidKinds := [.data], laidTests := true, laidLooks := .later }
def PushBandCardSaid : Prop := Claim7.holds Tryd.pinned (.plain (OpenSpec.ofChange pushBandSpec)) pushBandCard

/-- THE TIED CARD OF 'headcountlaw15.PushNames'. -/
def pushNamesCard : Claim7 := { stood := { row := pushNamesRow, standIns := [], harness := (true, "e6ac452f7c91b8c3a7ab61263158154c774493edca6d7b71bc3234d56ffca8a7"), looks := false }, kinds := [], alts := [], laidByText := true, laidKinds := [.data], laidTests := true, laidLooks := .later }
def PushNamesCardSaid : Prop := Claim7.holds Tryd.pinned (.plain (OpenSpec.ofChange pushNamesSpec)) pushNamesCard

/-- THE TIED CARD OF 'headcountlaw15.PushKeeps'. -/
def pushKeepsCard : Claim7 := { stood := { row := pushKeepsRow, standIns := [], harness := (true, "e6ac452f7c91b8c3a7ab61263158154c774493edca6d7b71bc3234d56ffca8a7"), looks := false }, kinds := [], alts := [], laidByText := true, laidKinds := [.data], laidTests := true, laidLooks := .later }
def PushKeepsCardSaid : Prop := Claim7.holds Tryd.pinned (.plain (OpenSpec.ofChange pushKeepsSpec)) pushKeepsCard

/-- THE SECOND FORM's CARD OF 'headcountlaw15.PushTells'. -/
def pushTellsUptoCard : Claim7 := { stood := { row := pushTellsUptoRow, standIns := [], harness := (true, "e6ac452f7c91b8c3a7ab61263158154c774493edca6d7b71bc3234d56ffca8a7"), looks := false }, kinds := [], alts := [], laidByText := true, laidKinds := [.data], laidTests := true, laidLooks := .later }
def PushTellsUptoCardSaid : Prop := Claim7.holds Tryd.pinned (.plain (OpenSpec.upto pushTellsSpec)) pushTellsUptoCard

/-- THE SECOND FORM's CARD OF 'headcountlaw03.RatioScales'. -/
def ratioScalesUptoCard : Claim7 := { stood := { row := ratioScalesUptoRow, standIns := [], harness := (true, "e6ac452f7c91b8c3a7ab61263158154c774493edca6d7b71bc3234d56ffca8a7"), looks := false }, kinds := [], alts := [], laidByText := true, laidKinds := [.data], laidTests := true, laidLooks := .later }
def RatioScalesUptoCardSaid : Prop := Claim7.holds Tryd.pinned (.plain (OpenSpec.upto ratioScalesSpec)) ratioScalesUptoCard

/-- THE SECOND FORM's CARD OF 'headcountlaw03.RatioBand'. -/
def ratioBandUptoCard : Claim7 := { stood := { row := ratioBandUptoRow, standIns := [], harness := (true, "e6ac452f7c91b8c3a7ab61263158154c774493edca6d7b71bc3234d56ffca8a7"), looks := false }, kinds := [], alts := [], laidByText := true, laidKinds := [.data], laidTests := true, laidLooks := .later }
def RatioBandUptoCardSaid : Prop := Claim7.holds Tryd.pinned (.plain (OpenSpec.upto ratioBandSpec)) ratioBandUptoCard

/-- THE SECOND FORM's CARD OF 'headcountlaw15.PushBand'. -/
def pushBandUptoCard : Claim7 := { stood := { row := pushBandUptoRow, standIns := [], harness := (true, "e6ac452f7c91b8c3a7ab61263158154c774493edca6d7b71bc3234d56ffca8a7"), looks := false }, kinds := [], alts := [], laidByText := true, laidKinds := [.data], laidTests := true, laidLooks := .later }
def PushBandUptoCardSaid : Prop := Claim7.holds Tryd.pinned (.plain (OpenSpec.upto pushBandSpec)) pushBandUptoCard

/-- THE SECOND FORM's CARD OF 'headcountlaw15.PushNames'. -/
def pushNamesUptoCard : Claim7 := { stood := { row := pushNamesUptoRow, standIns := [], harness := (true, "e6ac452f7c91b8c3a7ab61263158154c774493edca6d7b71bc3234d56ffca8a7"), looks := false }, kinds := [], alts := [], laidByText := true, laidKinds := [.data], laidTests := true, laidLooks := .later }
def PushNamesUptoCardSaid : Prop := Claim7.holds Tryd.pinned (.plain (OpenSpec.upto pushNamesSpec)) pushNamesUptoCard

/-- THE SECOND FORM's CARD OF 'headcountlaw15.PushKeeps'. -/
def pushKeepsUptoCard : Claim7 := { stood := { row := pushKeepsUptoRow, standIns := [], harness := (true, "e6ac452f7c91b8c3a7ab61263158154c774493edca6d7b71bc3234d56ffca8a7"), looks := false }, kinds := [], alts := [], laidByText := true, laidKinds := [.data], laidTests := true, laidLooks := .later }
def PushKeepsUptoCardSaid : Prop := Claim7.holds Tryd.pinned (.plain (OpenSpec.upto pushKeepsSpec)) pushKeepsUptoCard
end Rows
end Go.Proofs.YtbbnbgllgomolaaDoor
