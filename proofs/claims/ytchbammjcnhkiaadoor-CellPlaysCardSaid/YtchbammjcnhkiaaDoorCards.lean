/-
  DERIVED. GIVEN WITH THE SEED: THE CARDS: each row of YtchbammjcnhkiaaDoorRows.lean that lists a variable, with what it lists TIED to the program's text (the seventh form; the later family's looks); each row that meets fmt, with fmt's text TOLD by the authors' own Lean function (tested against real Go, not proved from fmt's source: count such statements apart). THE CARD IS WHAT COUNTS. Prove the row's statement (the work); the ties are given (YtchbammjcnhkiaaDoorTie.lean); close each card by the builder's one call (the guide's Derived/Test/ToyasCard.lean, 'card_holds'). Laid BY PROGRAM, IN A SANDBOX (cutbox-door.mjs). By AI agents, Wed Nov 11 2026. No macro, syntax, notation, axiom, sorry.
-/
import Derived.Test.YtchbammjcnhkiaaDoorRows
import GoSem.ClaimSeven
namespace Go.Proofs.YtchbammjcnhkiaaDoor
namespace Rows

/-- THE TIED CARD OF 'onceweblaw11.CellOnce'. -/
def cellOnceCard : Claim7 := { stood := { row := cellOnceRow, standIns := [], harness := (true, "01d45f1a3ca1d984d98b5f3813591cdd3023af76773f00395eb9b3305a19c7e7"), looks := false }, kinds := [], alts := [], laidByText := true, laidKinds := [.widerDeep, .data, .widerDeep], laidTests := true, laidLooks := .later }
def CellOnceCardSaid : Prop := Claim7.holds Tryd.pinned (.plain (OpenSpec.ofChange cellOnceSpec)) cellOnceCard

/-- THE TIED CARD OF 'onceweblaw11.CellBounds'. -/
def cellBoundsCard : Claim7 := { stood := { row := cellBoundsRow, standIns := [], harness := (true, "01d45f1a3ca1d984d98b5f3813591cdd3023af76773f00395eb9b3305a19c7e7"), looks := false }, kinds := [], alts := [], laidByText := true, laidKinds := [.widerDeep, .data, .widerDeep], laidTests := true, laidLooks := .later }
def CellBoundsCardSaid : Prop := Claim7.holds Tryd.pinned (.plain (OpenSpec.ofChange cellBoundsSpec)) cellBoundsCard

/-- THE TIED CARD OF 'onceweblaw11.CellStays'. -/
def cellStaysCard : Claim7 := { stood := { row := cellStaysRow, standIns := [], harness := (true, "01d45f1a3ca1d984d98b5f3813591cdd3023af76773f00395eb9b3305a19c7e7"), looks := false }, kinds := [], alts := [], laidByText := true, laidKinds := [.widerDeep, .data, .widerDeep], laidTests := true, laidLooks := .later }
def CellStaysCardSaid : Prop := Claim7.holds Tryd.pinned (.plain (OpenSpec.ofChange cellStaysSpec)) cellStaysCard

/-- THE TIED CARD OF 'onceweblaw11.CellPlays'. -/
def cellPlaysCard : Claim7 := { stood := { row := cellPlaysRow, standIns := [], harness := (true, "01d45f1a3ca1d984d98b5f3813591cdd3023af76773f00395eb9b3305a19c7e7"), looks := false }, kinds := [], alts := [], laidByText := true, laidKinds := [.widerDeep, .data, .widerDeep], laidTests := true, laidLooks := .later }
def CellPlaysCardSaid : Prop := Claim7.holds Tryd.pinned (.plain (OpenSpec.ofChange cellPlaysSpec)) cellPlaysCard

/-- THE SECOND FORM's CARD OF 'onceweblaw11.CellOnce'. -/
def cellOnceUptoCard : Claim7 := { stood := { row := cellOnceUptoRow, standIns := [], harness := (true, "01d45f1a3ca1d984d98b5f3813591cdd3023af76773f00395eb9b3305a19c7e7"), looks := false }, kinds := [], alts := [], laidByText := true, laidKinds := [.widerDeep, .data, .widerDeep], laidTests := true, laidLooks := .later }
def CellOnceUptoCardSaid : Prop := Claim7.holds Tryd.pinned (.plain (OpenSpec.upto cellOnceSpec)) cellOnceUptoCard

/-- THE SECOND FORM's CARD OF 'onceweblaw11.CellBounds'. -/
def cellBoundsUptoCard : Claim7 := { stood := { row := cellBoundsUptoRow, standIns := [], harness := (true, "01d45f1a3ca1d984d98b5f3813591cdd3023af76773f00395eb9b3305a19c7e7"), looks := false }, kinds := [], alts := [], laidByText := true, laidKinds := [.widerDeep, .data, .widerDeep], laidTests := true, laidLooks := .later }
def CellBoundsUptoCardSaid : Prop := Claim7.holds Tryd.pinned (.plain (OpenSpec.upto cellBoundsSpec)) cellBoundsUptoCard

/-- THE SECOND FORM's CARD OF 'onceweblaw11.CellStays'. -/
def cellStaysUptoCard : Claim7 := { stood := { row := cellStaysUptoRow, standIns := [], harness := (true, "01d45f1a3ca1d984d98b5f3813591cdd3023af76773f00395eb9b3305a19c7e7"), looks := false }, kinds := [], alts := [], laidByText := true, laidKinds := [.widerDeep, .data, .widerDeep], laidTests := true, laidLooks := .later }
def CellStaysUptoCardSaid : Prop := Claim7.holds Tryd.pinned (.plain (OpenSpec.upto cellStaysSpec)) cellStaysUptoCard

/-- THE SECOND FORM's CARD OF 'onceweblaw11.CellPlays'. -/
def cellPlaysUptoCard : Claim7 := { stood := { row := cellPlaysUptoRow, standIns := [], harness := (true, "01d45f1a3ca1d984d98b5f3813591cdd3023af76773f00395eb9b3305a19c7e7"), looks := false }, kinds := [], alts := [], laidByText := true, laidKinds := [.widerDeep, .data, .widerDeep], laidTests := true, laidLooks := .later }
def CellPlaysUptoCardSaid : Prop := Claim7.holds Tryd.pinned (.plain (OpenSpec.upto cellPlaysSpec)) cellPlaysUptoCard
end Rows
end Go.Proofs.YtchbammjcnhkiaaDoor
