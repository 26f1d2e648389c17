/-
  NARROWER THAN 'FOR EVERY INPUT', by the rows' own cells (each row's printed sentence says how): CellOnce: laid · CellBounds: laid · CellStays: laid · CellPlays: laid.
  DERIVED. THE GIVEN ROWS OF THIS SEAT. 4 by the template 'for every input the law returns true; each argument reads behind the call as it read before'; 0 by the template 'total and deterministic' (their statements: YtchbammjcnhkiaaDoorTotals.lean).
  GIVEN WITH THE SEED: the statements are not yours to turn. If you find one false, say at which input.
  Laid BY PROGRAM, IN A SANDBOX (cutbox-rows.mjs): the forced cells as the released guide's own fill.sh prints them over the translation 188c2470bed50ba6… (all of the seat's roots in one cut). By AI agents, Wed Nov 11 2026. No macro, syntax, notation, axiom, sorry.
-/
import Derived.Test.YtchbammjcnhkiaaDoorChecked
import GoSem.Claim
import GoSem.ClaimJoined
import GoSem.ClaimMapViews
import Derived.JoinedTies
import Derived.KernelRfl
namespace Go.Proofs.YtchbammjcnhkiaaDoor
/- THE CELL 'sum', in the pinned program and in every row, IS THE sha256 OF THE DUMP (.gsa) THAT YtchbammjcnhkiaaDoorProg.lean LOADS. Nothing in Lean hashes anything: it is a label: what it is worth is what the hold of that sum in a sandbox is worth. -/
noncomputable def Tryd.pinned : Pinned := { name := "ytchbammjcnhkiaadoor", sum := "188c2470bed50ba6973d5f62b737ded3957691dce688fa3b909d72000826e933", checked := Tryd.checked }
namespace Rows
def none {H : Type} : Left H := { results := [], args := [] }

/- WHAT THE LISTED PACKAGE-LEVEL VARIABLES READ AS WHEN THE CALL BEGINS. Each datum BY PROGRAM (the guide's laid-datum.mjs) off the statement by which the dump's own 'gosem.cut.vars' lays the variable. In a bare row this is a premise. The card (YtchbammjcnhkiaaDoorCards.lean) ties it to the program's text. -/
def laid_onceweb_lex_keys {H : Type} : DataW H := .agg [.lit (.string [99, 101, 108, 108]), .lit (.string [97, 103, 97, 105, 110]), .lit (.string [116, 114, 105, 101, 115]), .lit (.string [98, 97, 115, 101]), .lit (.string [102, 97, 99, 116, 111, 114]), .lit (.string [99, 97, 112]), .lit (.string [99, 108, 111, 115, 101]), .lit (.string [102, 105, 110, 101]), .lit (.string [102, 97, 105, 108]), .lit (.string [112, 97, 110, 105, 99]), .lit (.string [105, 102]), .lit (.string [116, 104, 101, 110]), .lit (.string [101, 108, 115, 101]), .lit (.string [116, 114, 121]), .lit (.string [119, 97, 105, 116]), .lit (.string [108, 101, 116]), .lit (.string [105, 110]), .lit (.string [105, 116, 101, 109]), .lit (.string [115, 105, 122, 101])]
def laid_onceweb_fail_sorts {H : Type} : DataW H := .agg [.lit (.int .i64 0), .lit (.int .i64 1), .lit (.int .i64 1), .lit (.int .i64 1), .lit (.int .i64 1), .lit (.int .i64 1), .lit (.int .i64 1), .lit (.int .i64 1), .lit (.int .i64 2), .lit (.int .i64 3), .lit (.int .i64 4), .lit (.int .i64 1)]
def laid_onceweb_fail_values {H : Type} : DataW H := .agg [.lit (.string [108, 105, 115, 116]), .lit (.string [97, 100, 100]), .lit (.string [115, 117, 98]), .lit (.string [109, 117, 108]), .lit (.string [106, 111, 105, 110]), .lit (.string [105, 116, 101, 109]), .lit (.string [115, 105, 122, 101]), .lit (.string [105, 102]), .lit (.string [102, 97, 105, 108]), .lit (.string [112, 97, 110, 105, 99])]

/-- 'onceweblaw11.CellOnce': WHATEVER THE INPUT: true; the input reads as it did. -/
def cellOnceSpec : ChangeSpec := { name := "cellOnce", fn := fun _ => fun
  | [d1, d2] => { results := [.lit (.bool true)], args := [d1, d2] }
  | _ => none }
def cellOnceRow : OpenClaim := { program := "ytchbammjcnhkiaadoor", sum := "188c2470bed50ba6973d5f62b737ded3957691dce688fa3b909d72000826e933", func := "onceweb/onceweblaw11.CellOnce", spec := "cellOnce", unfollowed := true, recurses := true, named := ["onceweb/fail.sorts", "onceweb/fail.values", "onceweb/lex.keys"], apart := false, laid := [("onceweb/lex.keys", laid_onceweb_lex_keys), ("onceweb/fail.sorts", laid_onceweb_fail_sorts), ("onceweb/fail.values", laid_onceweb_fail_values)] }
def CellOnceSaid : Prop := cellOnceRow.holds Tryd.pinned (OpenSpec.ofChange cellOnceSpec)

/-- ITS FALSE NEIGHBOUR: 'it returns false'. Refute it at one input. -/
def cellOnceWrong : ChangeSpec := { name := "cellOnce", fn := fun _ => fun
  | [d1, d2] => { results := [.lit (.bool false)], args := [d1, d2] }
  | _ => none }
def CellOnceWrongFalsely : Prop := cellOnceRow.holds Tryd.pinned (OpenSpec.ofChange cellOnceWrong)

/-- 'onceweblaw11.CellBounds': WHATEVER THE INPUT: true; the input reads as it did. -/
def cellBoundsSpec : ChangeSpec := { name := "cellBounds", fn := fun _ => fun
  | [d1, d2] => { results := [.lit (.bool true)], args := [d1, d2] }
  | _ => none }
def cellBoundsRow : OpenClaim := { program := "ytchbammjcnhkiaadoor", sum := "188c2470bed50ba6973d5f62b737ded3957691dce688fa3b909d72000826e933", func := "onceweb/onceweblaw11.CellBounds", spec := "cellBounds", unfollowed := true, recurses := true, named := ["onceweb/fail.sorts", "onceweb/fail.values", "onceweb/lex.keys"], apart := false, laid := [("onceweb/lex.keys", laid_onceweb_lex_keys), ("onceweb/fail.sorts", laid_onceweb_fail_sorts), ("onceweb/fail.values", laid_onceweb_fail_values)] }
def CellBoundsSaid : Prop := cellBoundsRow.holds Tryd.pinned (OpenSpec.ofChange cellBoundsSpec)

/-- ITS FALSE NEIGHBOUR: 'it returns false'. Refute it at one input. -/
def cellBoundsWrong : ChangeSpec := { name := "cellBounds", fn := fun _ => fun
  | [d1, d2] => { results := [.lit (.bool false)], args := [d1, d2] }
  | _ => none }
def CellBoundsWrongFalsely : Prop := cellBoundsRow.holds Tryd.pinned (OpenSpec.ofChange cellBoundsWrong)

/-- 'onceweblaw11.CellStays': WHATEVER THE INPUT: true; the input reads as it did. -/
def cellStaysSpec : ChangeSpec := { name := "cellStays", fn := fun _ => fun
  | [d1, d2] => { results := [.lit (.bool true)], args := [d1, d2] }
  | _ => none }
def cellStaysRow : OpenClaim := { program := "ytchbammjcnhkiaadoor", sum := "188c2470bed50ba6973d5f62b737ded3957691dce688fa3b909d72000826e933", func := "onceweb/onceweblaw11.CellStays", spec := "cellStays", unfollowed := true, recurses := true, named := ["onceweb/fail.sorts", "onceweb/fail.values", "onceweb/lex.keys"], apart := false, laid := [("onceweb/lex.keys", laid_onceweb_lex_keys), ("onceweb/fail.sorts", laid_onceweb_fail_sorts), ("onceweb/fail.values", laid_onceweb_fail_values)] }
def CellStaysSaid : Prop := cellStaysRow.holds Tryd.pinned (OpenSpec.ofChange cellStaysSpec)

/-- ITS FALSE NEIGHBOUR: 'it returns false'. Refute it at one input. -/
def cellStaysWrong : ChangeSpec := { name := "cellStays", fn := fun _ => fun
  | [d1, d2] => { results := [.lit (.bool false)], args := [d1, d2] }
  | _ => none }
def CellStaysWrongFalsely : Prop := cellStaysRow.holds Tryd.pinned (OpenSpec.ofChange cellStaysWrong)

/-- 'onceweblaw11.CellPlays': WHATEVER THE INPUT: true; the input reads as it did. -/
def cellPlaysSpec : ChangeSpec := { name := "cellPlays", fn := fun _ => fun
  | [d1, d2] => { results := [.lit (.bool true)], args := [d1, d2] }
  | _ => none }
def cellPlaysRow : OpenClaim := { program := "ytchbammjcnhkiaadoor", sum := "188c2470bed50ba6973d5f62b737ded3957691dce688fa3b909d72000826e933", func := "onceweb/onceweblaw11.CellPlays", spec := "cellPlays", unfollowed := true, recurses := true, named := ["onceweb/fail.sorts", "onceweb/fail.values", "onceweb/lex.keys"], apart := false, laid := [("onceweb/lex.keys", laid_onceweb_lex_keys), ("onceweb/fail.sorts", laid_onceweb_fail_sorts), ("onceweb/fail.values", laid_onceweb_fail_values)] }
def CellPlaysSaid : Prop := cellPlaysRow.holds Tryd.pinned (OpenSpec.ofChange cellPlaysSpec)

/-- ITS FALSE NEIGHBOUR: 'it returns false'. Refute it at one input. -/
def cellPlaysWrong : ChangeSpec := { name := "cellPlays", fn := fun _ => fun
  | [d1, d2] => { results := [.lit (.bool false)], args := [d1, d2] }
  | _ => none }
def CellPlaysWrongFalsely : Prop := cellPlaysRow.holds Tryd.pinned (OpenSpec.ofChange cellPlaysWrong)

/- THE SECOND FORM. 'bulk': how many values and letters a reading holds, each counted each time it is reached (what is shared counts as often as it is met; a slice's spare places count too). A statement '..UptoSaid' is the law's where the arguments, and the package variables that the reading takes, are together of bulk at most 1048576: NARROWER than '..Said'. Prove '..Said' where nothing that the law and all that it calls make is longer than what came in: it says more and counts as full. Else prove '..UptoSaid'. A law counts once. -/
mutual
def uptoBulk {H : Type} : DataW H → Nat
  | .lit (.string bytes) => bytes.length + 1
  | .lit _ => 1
  | .nil => 1
  | .ptr d => uptoBulk d + 1
  | .slice elems spare => uptoBulkAll elems + uptoBulkAll spare + 1
  | .agg parts => uptoBulkAll parts + 1
  | .iface _ d => uptoBulk d + 1
  | .map entries => uptoBulkEntries entries + 1
  | .held _ => 1
def uptoBulkAll {H : Type} : List (DataW H) → Nat
  | [] => 0
  | d :: r => uptoBulk d + uptoBulkAll r
def uptoBulkEntries {H : Type} : List (Lit × DataW H) → Nat
  | [] => 0
  | x :: r => uptoBulkEntry x + uptoBulkEntries r
def uptoBulkEntry {H : Type} : Lit × DataW H → Nat
  | (.string bytes, d) => bytes.length + uptoBulk d + 1
  | (_, d) => uptoBulk d + 1
 end
def uptoSmall : (H : Type) → List (DataW H) → Bool := fun _ ds => decide (uptoBulkAll ds ≤ 1048576)
def OpenSpec.upto (s : _root_.Go.ChangeSpec) : _root_.Go.OpenSpec := { _root_.Go.OpenSpec.ofChange s with cond := some uptoSmall }

/-- 'onceweblaw11.CellOnce', WHERE WHAT IT READS IS OF BULK AT MOST 1048576: true; the input reads as it did. -/
def cellOnceUptoRow : OpenClaim := { program := "ytchbammjcnhkiaadoor", sum := "188c2470bed50ba6973d5f62b737ded3957691dce688fa3b909d72000826e933", func := "onceweb/onceweblaw11.CellOnce", spec := "cellOnce", unfollowed := true, recurses := true, named := ["onceweb/fail.sorts", "onceweb/fail.values", "onceweb/lex.keys"], apart := false, laid := [("onceweb/lex.keys", laid_onceweb_lex_keys), ("onceweb/fail.sorts", laid_onceweb_fail_sorts), ("onceweb/fail.values", laid_onceweb_fail_values)], narrowed := true }
def CellOnceUptoSaid : Prop := cellOnceUptoRow.holds Tryd.pinned (OpenSpec.upto cellOnceSpec)

/-- 'onceweblaw11.CellBounds', WHERE WHAT IT READS IS OF BULK AT MOST 1048576: true; the input reads as it did. -/
def cellBoundsUptoRow : OpenClaim := { program := "ytchbammjcnhkiaadoor", sum := "188c2470bed50ba6973d5f62b737ded3957691dce688fa3b909d72000826e933", func := "onceweb/onceweblaw11.CellBounds", spec := "cellBounds", unfollowed := true, recurses := true, named := ["onceweb/fail.sorts", "onceweb/fail.values", "onceweb/lex.keys"], apart := false, laid := [("onceweb/lex.keys", laid_onceweb_lex_keys), ("onceweb/fail.sorts", laid_onceweb_fail_sorts), ("onceweb/fail.values", laid_onceweb_fail_values)], narrowed := true }
def CellBoundsUptoSaid : Prop := cellBoundsUptoRow.holds Tryd.pinned (OpenSpec.upto cellBoundsSpec)

/-- 'onceweblaw11.CellStays', WHERE WHAT IT READS IS OF BULK AT MOST 1048576: true; the input reads as it did. -/
def cellStaysUptoRow : OpenClaim := { program := "ytchbammjcnhkiaadoor", sum := "188c2470bed50ba6973d5f62b737ded3957691dce688fa3b909d72000826e933", func := "onceweb/onceweblaw11.CellStays", spec := "cellStays", unfollowed := true, recurses := true, named := ["onceweb/fail.sorts", "onceweb/fail.values", "onceweb/lex.keys"], apart := false, laid := [("onceweb/lex.keys", laid_onceweb_lex_keys), ("onceweb/fail.sorts", laid_onceweb_fail_sorts), ("onceweb/fail.values", laid_onceweb_fail_values)], narrowed := true }
def CellStaysUptoSaid : Prop := cellStaysUptoRow.holds Tryd.pinned (OpenSpec.upto cellStaysSpec)

/-- 'onceweblaw11.CellPlays', WHERE WHAT IT READS IS OF BULK AT MOST 1048576: true; the input reads as it did. -/
def cellPlaysUptoRow : OpenClaim := { program := "ytchbammjcnhkiaadoor", sum := "188c2470bed50ba6973d5f62b737ded3957691dce688fa3b909d72000826e933", func := "onceweb/onceweblaw11.CellPlays", spec := "cellPlays", unfollowed := true, recurses := true, named := ["onceweb/fail.sorts", "onceweb/fail.values", "onceweb/lex.keys"], apart := false, laid := [("onceweb/lex.keys", laid_onceweb_lex_keys), ("onceweb/fail.sorts", laid_onceweb_fail_sorts), ("onceweb/fail.values", laid_onceweb_fail_values)], narrowed := true }
def CellPlaysUptoSaid : Prop := cellPlaysUptoRow.holds Tryd.pinned (OpenSpec.upto cellPlaysSpec)

end Rows
end Go.Proofs.YtchbammjcnhkiaaDoor
