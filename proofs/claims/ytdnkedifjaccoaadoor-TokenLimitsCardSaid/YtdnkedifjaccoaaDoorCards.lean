/-
  DERIVED. GIVEN WITH THE SEED: THE CARDS: each row of YtdnkedifjaccoaaDoorRows.lean that lists a variable, with what it lists TIED to the program's text (the seventh form; the later family's looks); each row that meets fmt, with fmt's text TOLD by the authors' own Lean function (tested against real Go, not proved from fmt's source: count such statements apart). THE CARD IS WHAT COUNTS. Prove the row's statement (the work); the ties are given (YtdnkedifjaccoaaDoorTie.lean); close each card by the builder's one call (the guide's Derived/Test/ToyasCard.lean, 'card_holds'). Laid BY PROGRAM, IN A SANDBOX (cutbox-door.mjs). By AI agents, Wed Nov 11 2026. No macro, syntax, notation, axiom, sorry.
-/
import Derived.Test.YtdnkedifjaccoaaDoorRows
import GoSem.ClaimSeven
namespace Go.Proofs.YtdnkedifjaccoaaDoor
namespace Rows

/-- THE TIED CARD OF 'onceweblaw04.TokenSplits'. -/
def tokenSplitsCard : Claim7 := { stood := { row := tokenSplitsRow, standIns := [], harness := (true, "5f5f18a1ba130290458e4ec45e87dcb464293469720b7be990b0d004ff1054eb"), looks := false }, kinds := [], alts := [], laidByText := true, laidKinds := [.widerDeep, .data, .widerDeep], laidTests := true, laidLooks := .later }
def TokenSplitsCardSaid : Prop := Claim7.holds Tryd.pinned (.plain (OpenSpec.ofChange tokenSplitsSpec)) tokenSplitsCard

/-- THE TIED CARD OF 'onceweblaw04.TokenStays'. -/
def tokenStaysCard : Claim7 := { stood := { row := tokenStaysRow, standIns := [], harness := (true, "5f5f18a1ba130290458e4ec45e87dcb464293469720b7be990b0d004ff1054eb"), looks := false }, kinds := [], alts := [], laidByText := true, laidKinds := [.widerDeep, .data, .widerDeep], laidTests := true, laidLooks := .later }
def TokenStaysCardSaid : Prop := Claim7.holds Tryd.pinned (.plain (OpenSpec.ofChange tokenStaysSpec)) tokenStaysCard

/-- THE TIED CARD OF 'onceweblaw04.TokenHangs'. -/
def tokenHangsCard : Claim7 := { stood := { row := tokenHangsRow, standIns := [], harness := (true, "5f5f18a1ba130290458e4ec45e87dcb464293469720b7be990b0d004ff1054eb"), looks := false }, kinds := [], alts := [], laidByText := true, laidKinds := [.widerDeep, .data, .widerDeep], laidTests := true, laidLooks := .later }
def TokenHangsCardSaid : Prop := Claim7.holds Tryd.pinned (.plain (OpenSpec.ofChange tokenHangsSpec)) tokenHangsCard

/-- THE TIED CARD OF 'onceweblaw04.TokenLimits'. -/
def tokenLimitsCard : Claim7 := { stood := { row := tokenLimitsRow, standIns := [], harness := (true, "5f5f18a1ba130290458e4ec45e87dcb464293469720b7be990b0d004ff1054eb"), looks := false }, kinds := [], alts := [], laidByText := true, laidKinds := [.widerDeep, .data, .widerDeep], laidTests := true, laidLooks := .later }
def TokenLimitsCardSaid : Prop := Claim7.holds Tryd.pinned (.plain (OpenSpec.ofChange tokenLimitsSpec)) tokenLimitsCard

/-- THE SECOND FORM's CARD OF 'onceweblaw04.TokenSplits'. -/
def tokenSplitsUptoCard : Claim7 := { stood := { row := tokenSplitsUptoRow, standIns := [], harness := (true, "5f5f18a1ba130290458e4ec45e87dcb464293469720b7be990b0d004ff1054eb"), looks := false }, kinds := [], alts := [], laidByText := true, laidKinds := [.widerDeep, .data, .widerDeep], laidTests := true, laidLooks := .later }
def TokenSplitsUptoCardSaid : Prop := Claim7.holds Tryd.pinned (.plain (OpenSpec.upto tokenSplitsSpec)) tokenSplitsUptoCard

/-- THE SECOND FORM's CARD OF 'onceweblaw04.TokenStays'. -/
def tokenStaysUptoCard : Claim7 := { stood := { row := tokenStaysUptoRow, standIns := [], harness := (true, "5f5f18a1ba130290458e4ec45e87dcb464293469720b7be990b0d004ff1054eb"), looks := false }, kinds := [], alts := [], laidByText := true, laidKinds := [.widerDeep, .data, .widerDeep], laidTests := true, laidLooks := .later }
def TokenStaysUptoCardSaid : Prop := Claim7.holds Tryd.pinned (.plain (OpenSpec.upto tokenStaysSpec)) tokenStaysUptoCard

/-- THE SECOND FORM's CARD OF 'onceweblaw04.TokenHangs'. -/
def tokenHangsUptoCard : Claim7 := { stood := { row := tokenHangsUptoRow, standIns := [], harness := (true, "5f5f18a1ba130290458e4ec45e87dcb464293469720b7be990b0d004ff1054eb"), looks := false }, kinds := [], alts := [], laidByText := true, laidKinds := [.widerDeep, .data, .widerDeep], laidTests := true, laidLooks := .later }
def TokenHangsUptoCardSaid : Prop := Claim7.holds Tryd.pinned (.plain (OpenSpec.upto tokenHangsSpec)) tokenHangsUptoCard

/-- THE SECOND FORM's CARD OF 'onceweblaw04.TokenLimits'. -/
def tokenLimitsUptoCard : Claim7 := { stood := { row := tokenLimitsUptoRow, standIns := [], harness := (true, "5f5f18a1ba130290458e4ec45e87dcb464293469720b7be990b0d004ff1054eb"), looks := false }, kinds := [], alts := [], laidByText := true, laidKinds := [.widerDeep, .data, .widerDeep], laidTests := true, laidLooks := .later }
def TokenLimitsUptoCardSaid : Prop := Claim7.holds Tryd.pinned (.plain (OpenSpec.upto tokenLimitsSpec)) tokenLimitsUptoCard
end Rows
end Go.Proofs.YtdnkedifjaccoaaDoor
