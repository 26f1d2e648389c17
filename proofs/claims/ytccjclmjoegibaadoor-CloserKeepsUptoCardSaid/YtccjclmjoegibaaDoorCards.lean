/-
  DERIVED. GIVEN WITH THE SEED: THE CARDS: each row of YtccjclmjoegibaaDoorRows.lean that lists a variable, with what it lists TIED to the program's text (the seventh form; the later family's looks); each row that meets fmt, with fmt's text TOLD by the authors' own Lean function (tested against real Go, not proved from fmt's source: count such statements apart). THE CARD IS WHAT COUNTS. Prove the row's statement (the work); the ties are given (YtccjclmjoegibaaDoorTie.lean); close each card by the builder's one call (the guide's Derived/Test/ToyasCard.lean, 'card_holds'). Laid BY PROGRAM, IN A SANDBOX (cutbox-door.mjs). By AI agents, Wed Nov 11 2026. No macro, syntax, notation, axiom, sorry.
-/
import Derived.Test.YtccjclmjoegibaaDoorRows
import GoSem.ClaimSeven
namespace Go.Proofs.YtccjclmjoegibaaDoor
namespace Rows

/-- THE TIED CARD OF 'onceweblaw19.CloserReverse'. -/
def closerReverseCard : Claim7 := { stood := { row := closerReverseRow, standIns := [], harness := (true, "4c9359e4c05686d281e730f9cf7aeda6f868e8b273ebed2dffc8ecd7a02a8b91"), looks := true }, kinds := [], alts := [], laidByText := true, laidKinds := [.widerDeep], laidTests := true, laidLooks := .later }
def CloserReverseCardSaid : Prop := Claim7.holds Tryd.pinned (.plain (OpenSpec.ofChange closerReverseSpec)) closerReverseCard

/-- THE TIED CARD OF 'onceweblaw19.CloserOnce'. -/
def closerOnceCard : Claim7 := { stood := { row := closerOnceRow, standIns := [], harness := (true, "4c9359e4c05686d281e730f9cf7aeda6f868e8b273ebed2dffc8ecd7a02a8b91"), looks := true }, kinds := [], alts := [], laidByText := true, laidKinds := [.widerDeep], laidTests := true, laidLooks := .later }
def CloserOnceCardSaid : Prop := Claim7.holds Tryd.pinned (.plain (OpenSpec.ofChange closerOnceSpec)) closerOnceCard

/-- THE TIED CARD OF 'onceweblaw19.CloserOrders'. -/
def closerOrdersCard : Claim7 := { stood := { row := closerOrdersRow, standIns := [], harness := (true, "4c9359e4c05686d281e730f9cf7aeda6f868e8b273ebed2dffc8ecd7a02a8b91"), looks := true }, kinds := [], alts := [], laidByText := true, laidKinds := [.widerDeep], laidTests := true, laidLooks := .later }
def CloserOrdersCardSaid : Prop := Claim7.holds Tryd.pinned (.plain (OpenSpec.ofChange closerOrdersSpec)) closerOrdersCard

/-- THE TIED CARD OF 'onceweblaw19.CloserFails'. -/
def closerFailsCard : Claim7 := { stood := { row := closerFailsRow, standIns := [], harness := (true, "4c9359e4c05686d281e730f9cf7aeda6f868e8b273ebed2dffc8ecd7a02a8b91"), looks := true }, kinds := [], alts := [], laidByText := true, laidKinds := [.widerDeep, .data, .widerDeep], laidTests := true, laidLooks := .later }
def CloserFailsCardSaid : Prop := Claim7.holds Tryd.pinned (.plain (OpenSpec.ofChange closerFailsSpec)) closerFailsCard

/-- THE TIED CARD OF 'onceweblaw19.CloserKeeps'. -/
def closerKeepsCard : Claim7 := { stood := { row := closerKeepsRow, standIns := [], harness := (true, "4c9359e4c05686d281e730f9cf7aeda6f868e8b273ebed2dffc8ecd7a02a8b91"), looks := true }, kinds := [], alts := [], laidByText := true, laidKinds := [.widerDeep, .data, .widerDeep], laidTests := true, laidLooks := .later }
def CloserKeepsCardSaid : Prop := Claim7.holds Tryd.pinned (.plain (OpenSpec.ofChange closerKeepsSpec)) closerKeepsCard

/-- THE SECOND FORM's CARD OF 'onceweblaw19.CloserReverse'. -/
def closerReverseUptoCard : Claim7 := { stood := { row := closerReverseUptoRow, standIns := [], harness := (true, "4c9359e4c05686d281e730f9cf7aeda6f868e8b273ebed2dffc8ecd7a02a8b91"), looks := true }, kinds := [], alts := [], laidByText := true, laidKinds := [.widerDeep], laidTests := true, laidLooks := .later }
def CloserReverseUptoCardSaid : Prop := Claim7.holds Tryd.pinned (.plain (OpenSpec.upto closerReverseSpec)) closerReverseUptoCard

/-- THE SECOND FORM's CARD OF 'onceweblaw19.CloserOnce'. -/
def closerOnceUptoCard : Claim7 := { stood := { row := closerOnceUptoRow, standIns := [], harness := (true, "4c9359e4c05686d281e730f9cf7aeda6f868e8b273ebed2dffc8ecd7a02a8b91"), looks := true }, kinds := [], alts := [], laidByText := true, laidKinds := [.widerDeep], laidTests := true, laidLooks := .later }
def CloserOnceUptoCardSaid : Prop := Claim7.holds Tryd.pinned (.plain (OpenSpec.upto closerOnceSpec)) closerOnceUptoCard

/-- THE SECOND FORM's CARD OF 'onceweblaw19.CloserOrders'. -/
def closerOrdersUptoCard : Claim7 := { stood := { row := closerOrdersUptoRow, standIns := [], harness := (true, "4c9359e4c05686d281e730f9cf7aeda6f868e8b273ebed2dffc8ecd7a02a8b91"), looks := true }, kinds := [], alts := [], laidByText := true, laidKinds := [.widerDeep], laidTests := true, laidLooks := .later }
def CloserOrdersUptoCardSaid : Prop := Claim7.holds Tryd.pinned (.plain (OpenSpec.upto closerOrdersSpec)) closerOrdersUptoCard

/-- THE SECOND FORM's CARD OF 'onceweblaw19.CloserFails'. -/
def closerFailsUptoCard : Claim7 := { stood := { row := closerFailsUptoRow, standIns := [], harness := (true, "4c9359e4c05686d281e730f9cf7aeda6f868e8b273ebed2dffc8ecd7a02a8b91"), looks := true }, kinds := [], alts := [], laidByText := true, laidKinds := [.widerDeep, .data, .widerDeep], laidTests := true, laidLooks := .later }
def CloserFailsUptoCardSaid : Prop := Claim7.holds Tryd.pinned (.plain (OpenSpec.upto closerFailsSpec)) closerFailsUptoCard

/-- THE SECOND FORM's CARD OF 'onceweblaw19.CloserKeeps'. -/
def closerKeepsUptoCard : Claim7 := { stood := { row := closerKeepsUptoRow, standIns := [], harness := (true, "4c9359e4c05686d281e730f9cf7aeda6f868e8b273ebed2dffc8ecd7a02a8b91"), looks := true }, kinds := [], alts := [], laidByText := true, laidKinds := [.widerDeep, .data, .widerDeep], laidTests := true, laidLooks := .later }
def CloserKeepsUptoCardSaid : Prop := Claim7.holds Tryd.pinned (.plain (OpenSpec.upto closerKeepsSpec)) closerKeepsUptoCard
end Rows
end Go.Proofs.YtccjclmjoegibaaDoor
