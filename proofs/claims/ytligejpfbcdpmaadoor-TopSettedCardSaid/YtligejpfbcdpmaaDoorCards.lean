/-
  DERIVED. GIVEN WITH THE SEED: THE CARDS: each row of YtligejpfbcdpmaaDoorRows.lean that lists a variable, with what it lists TIED to the program's text (the seventh form; the later family's looks); each row that meets fmt, with fmt's text TOLD by the authors' own Lean function (tested against real Go, not proved from fmt's source: count such statements apart). THE CARD IS WHAT COUNTS. Prove the row's statement (the work); the ties are given (YtligejpfbcdpmaaDoorTie.lean); close each card by the builder's one call (the guide's Derived/Test/ToyasCard.lean, 'card_holds'). Laid BY PROGRAM, IN A SANDBOX (cutbox-door.mjs). By AI agents, Wed Nov 11 2026. No macro, syntax, notation, axiom, sorry.
-/
import Derived.Test.YtligejpfbcdpmaaDoorRows
import GoSem.ClaimSeven
namespace Go.Proofs.YtligejpfbcdpmaaDoor
namespace Rows

/-- THE TIED CARD OF 'dovetailtop.TopSetted'. -/
def topSettedCard : Claim7 := { stood := { row := topSettedRow, standIns := [], harness := (true, "39129d7ddb6262bce83efb32ab583e5f1a5fee5ec11c6739fca52f511411fa96"), looks := true }, kinds := [], alts := [], laidByText := true, laidKinds := [.data, .data, .data], laidTests := true, laidLooks := .later }
def TopSettedCardSaid : Prop := Claim7.holds Tryd.pinned (.plain (OpenSpec.ofChange topSettedSpec)) topSettedCard

/-- THE TIED CARD OF 'dovetailtop.TopEnded'. -/
def topEndedCard : Claim7 := { stood := { row := topEndedRow, standIns := [], harness := (true, "39129d7ddb6262bce83efb32ab583e5f1a5fee5ec11c6739fca52f511411fa96"), looks := true }, kinds := [], alts := [], laidByText := true, laidKinds := [.data, .data, .data, .sentinel, .sentinel, .sentinel, .sentinel], laidTests := true, laidLooks := .later }
def TopEndedCardSaid : Prop := Claim7.holds Tryd.pinned (.plain (OpenSpec.ofChange topEndedSpec)) topEndedCard

/-- THE TIED CARD OF 'dovetailtop.TopPlanned'. -/
def topPlannedCard : Claim7 := { stood := { row := topPlannedRow, standIns := [], harness := (true, "39129d7ddb6262bce83efb32ab583e5f1a5fee5ec11c6739fca52f511411fa96"), looks := true }, kinds := [], alts := [], laidByText := true, laidKinds := [.data, .data, .data, .handle, .sentinel, .sentinel, .sentinel, .sentinel], laidTests := true, laidLooks := .later }
def TopPlannedCardSaid : Prop := Claim7.holds Tryd.pinned (.plain (OpenSpec.ofChange topPlannedSpec)) topPlannedCard

/-- THE TIED CARD OF 'dovetailtop.TopTrimmed'. -/
def topTrimmedCard : Claim7 := { stood := { row := topTrimmedRow, standIns := [], harness := (true, "39129d7ddb6262bce83efb32ab583e5f1a5fee5ec11c6739fca52f511411fa96"), looks := true }, kinds := [], alts := [], laidByText := true, laidKinds := [.data, .data, .data, .sentinel, .sentinel, .sentinel, .sentinel, .sentinel], laidTests := true, laidLooks := .later }
def TopTrimmedCardSaid : Prop := Claim7.holds Tryd.pinned (.plain (OpenSpec.ofChange topTrimmedSpec)) topTrimmedCard

/-- THE TIED CARD OF 'dovetailtop.TopWorded'. -/
def topWordedCard : Claim7 := { stood := { row := topWordedRow, standIns := [], harness := (true, "39129d7ddb6262bce83efb32ab583e5f1a5fee5ec11c6739fca52f511411fa96"), looks := true }, kinds := [], alts := [], laidByText := true, laidKinds := [.data, .handle, .sentinel, .sentinel, .pinned], laidTests := true, laidLooks := .later }
def TopWordedCardSaid : Prop := Claim7.holds Tryd.pinned (.plain (OpenSpec.ofChange topWordedSpec)) topWordedCard

/-- THE TIED CARD OF 'dovetailtop.TopTried'. -/
def topTriedCard : Claim7 := { stood := { row := topTriedRow, standIns := [], harness := (true, "39129d7ddb6262bce83efb32ab583e5f1a5fee5ec11c6739fca52f511411fa96"), looks := true }, kinds := [], alts := [], laidByText := true, laidKinds := [.handle, .sentinel], laidTests := true, laidLooks := .later }
def TopTriedCardSaid : Prop := Claim7.holds Tryd.pinned (.plain (OpenSpec.ofChange topTriedSpec)) topTriedCard

/-- THE TIED CARD OF 'dovetailtop.TopPaced'. -/
def topPacedCard : Claim7 := { stood := { row := topPacedRow, standIns := [], harness := (true, "39129d7ddb6262bce83efb32ab583e5f1a5fee5ec11c6739fca52f511411fa96"), looks := true }, kinds := [], alts := [], laidByText := true, laidKinds := [.sentinel, .sentinel, .sentinel], laidTests := true, laidLooks := .later }
def TopPacedCardSaid : Prop := Claim7.holds Tryd.pinned (.plain (OpenSpec.ofChange topPacedSpec)) topPacedCard

/-- THE SECOND FORM's CARD OF 'dovetailtop.TopSetted'. -/
def topSettedUptoCard : Claim7 := { stood := { row := topSettedUptoRow, standIns := [], harness := (true, "39129d7ddb6262bce83efb32ab583e5f1a5fee5ec11c6739fca52f511411fa96"), looks := true }, kinds := [], alts := [], laidByText := true, laidKinds := [.data, .data, .data], laidTests := true, laidLooks := .later }
def TopSettedUptoCardSaid : Prop := Claim7.holds Tryd.pinned (.plain (OpenSpec.upto topSettedSpec)) topSettedUptoCard

/-- THE SECOND FORM's CARD OF 'dovetailtop.TopEnded'. -/
def topEndedUptoCard : Claim7 := { stood := { row := topEndedUptoRow, standIns := [], harness := (true, "39129d7ddb6262bce83efb32ab583e5f1a5fee5ec11c6739fca52f511411fa96"), looks := true }, kinds := [], alts := [], laidByText := true, laidKinds := [.data, .data, .data, .sentinel, .sentinel, .sentinel, .sentinel], laidTests := true, laidLooks := .later }
def TopEndedUptoCardSaid : Prop := Claim7.holds Tryd.pinned (.plain (OpenSpec.upto topEndedSpec)) topEndedUptoCard

/-- THE SECOND FORM's CARD OF 'dovetailtop.TopPlanned'. -/
def topPlannedUptoCard : Claim7 := { stood := { row := topPlannedUptoRow, standIns := [], harness := (true, "39129d7ddb6262bce83efb32ab583e5f1a5fee5ec11c6739fca52f511411fa96"), looks := true }, kinds := [], alts := [], laidByText := true, laidKinds := [.data, .data, .data, .handle, .sentinel, .sentinel, .sentinel, .sentinel], laidTests := true, laidLooks := .later }
def TopPlannedUptoCardSaid : Prop := Claim7.holds Tryd.pinned (.plain (OpenSpec.upto topPlannedSpec)) topPlannedUptoCard

/-- THE SECOND FORM's CARD OF 'dovetailtop.TopTrimmed'. -/
def topTrimmedUptoCard : Claim7 := { stood := { row := topTrimmedUptoRow, standIns := [], harness := (true, "39129d7ddb6262bce83efb32ab583e5f1a5fee5ec11c6739fca52f511411fa96"), looks := true }, kinds := [], alts := [], laidByText := true, laidKinds := [.data, .data, .data, .sentinel, .sentinel, .sentinel, .sentinel, .sentinel], laidTests := true, laidLooks := .later }
def TopTrimmedUptoCardSaid : Prop := Claim7.holds Tryd.pinned (.plain (OpenSpec.upto topTrimmedSpec)) topTrimmedUptoCard

/-- THE SECOND FORM's CARD OF 'dovetailtop.TopWorded'. -/
def topWordedUptoCard : Claim7 := { stood := { row := topWordedUptoRow, standIns := [], harness := (true, "39129d7ddb6262bce83efb32ab583e5f1a5fee5ec11c6739fca52f511411fa96"), looks := true }, kinds := [], alts := [], laidByText := true, laidKinds := [.data, .handle, .sentinel, .sentinel, .pinned], laidTests := true, laidLooks := .later }
def TopWordedUptoCardSaid : Prop := Claim7.holds Tryd.pinned (.plain (OpenSpec.upto topWordedSpec)) topWordedUptoCard

/-- THE SECOND FORM's CARD OF 'dovetailtop.TopTried'. -/
def topTriedUptoCard : Claim7 := { stood := { row := topTriedUptoRow, standIns := [], harness := (true, "39129d7ddb6262bce83efb32ab583e5f1a5fee5ec11c6739fca52f511411fa96"), looks := true }, kinds := [], alts := [], laidByText := true, laidKinds := [.handle, .sentinel], laidTests := true, laidLooks := .later }
def TopTriedUptoCardSaid : Prop := Claim7.holds Tryd.pinned (.plain (OpenSpec.upto topTriedSpec)) topTriedUptoCard

/-- THE SECOND FORM's CARD OF 'dovetailtop.TopPaced'. -/
def topPacedUptoCard : Claim7 := { stood := { row := topPacedUptoRow, standIns := [], harness := (true, "39129d7ddb6262bce83efb32ab583e5f1a5fee5ec11c6739fca52f511411fa96"), looks := true }, kinds := [], alts := [], laidByText := true, laidKinds := [.sentinel, .sentinel, .sentinel], laidTests := true, laidLooks := .later }
def TopPacedUptoCardSaid : Prop := Claim7.holds Tryd.pinned (.plain (OpenSpec.upto topPacedSpec)) topPacedUptoCard
end Rows
end Go.Proofs.YtligejpfbcdpmaaDoor
