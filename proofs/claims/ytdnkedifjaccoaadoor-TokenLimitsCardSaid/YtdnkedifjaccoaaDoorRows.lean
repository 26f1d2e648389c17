/-
  NARROWER THAN 'FOR EVERY INPUT', by the rows' own cells (each row's printed sentence says how): TokenSplits: laid · TokenStays: laid · TokenHangs: laid · TokenLimits: laid.
  DERIVED. THE GIVEN ROWS OF THIS SEAT. 4 by the template 'for every input the law returns true; each argument reads behind the call as it read before'; 0 by the template 'total and deterministic' (their statements: YtdnkedifjaccoaaDoorTotals.lean).
  GIVEN WITH THE SEED: the statements are not yours to turn. If you find one false, say at which input.
  Laid BY PROGRAM, IN A SANDBOX (cutbox-rows.mjs): the forced cells as the released guide's own fill.sh prints them over the translation 63b0ddb8b5a9c432… (all of the seat's roots in one cut). By AI agents, Wed Nov 11 2026. No macro, syntax, notation, axiom, sorry.
-/
import Derived.Test.YtdnkedifjaccoaaDoorChecked
import GoSem.Claim
import GoSem.ClaimJoined
import GoSem.ClaimMapViews
import Derived.JoinedTies
import Derived.KernelRfl
namespace Go.Proofs.YtdnkedifjaccoaaDoor
/- THE CELL 'sum', in the pinned program and in every row, IS THE sha256 OF THE DUMP (.gsa) THAT YtdnkedifjaccoaaDoorProg.lean LOADS. Nothing in Lean hashes anything: it is a label: what it is worth is what the hold of that sum in a sandbox is worth. -/
noncomputable def Tryd.pinned : Pinned := { name := "ytdnkedifjaccoaadoor", sum := "63b0ddb8b5a9c432000b1a5672a713f099375dc5b7a94047d506d0925b754ac0", checked := Tryd.checked }
namespace Rows
def none {H : Type} : Left H := { results := [], args := [] }

/- WHAT THE LISTED PACKAGE-LEVEL VARIABLES READ AS WHEN THE CALL BEGINS. Each datum BY PROGRAM (the guide's laid-datum.mjs) off the statement by which the dump's own 'gosem.cut.vars' lays the variable. In a bare row this is a premise. The card (YtdnkedifjaccoaaDoorCards.lean) ties it to the program's text. -/
def laid_onceweb_lex_keys {H : Type} : DataW H := .agg [.lit (.string [99, 101, 108, 108]), .lit (.string [97, 103, 97, 105, 110]), .lit (.string [116, 114, 105, 101, 115]), .lit (.string [98, 97, 115, 101]), .lit (.string [102, 97, 99, 116, 111, 114]), .lit (.string [99, 97, 112]), .lit (.string [99, 108, 111, 115, 101]), .lit (.string [102, 105, 110, 101]), .lit (.string [102, 97, 105, 108]), .lit (.string [112, 97, 110, 105, 99]), .lit (.string [105, 102]), .lit (.string [116, 104, 101, 110]), .lit (.string [101, 108, 115, 101]), .lit (.string [116, 114, 121]), .lit (.string [119, 97, 105, 116]), .lit (.string [108, 101, 116]), .lit (.string [105, 110]), .lit (.string [105, 116, 101, 109]), .lit (.string [115, 105, 122, 101])]
def laid_onceweb_fail_sorts {H : Type} : DataW H := .agg [.lit (.int .i64 0), .lit (.int .i64 1), .lit (.int .i64 1), .lit (.int .i64 1), .lit (.int .i64 1), .lit (.int .i64 1), .lit (.int .i64 1), .lit (.int .i64 1), .lit (.int .i64 2), .lit (.int .i64 3), .lit (.int .i64 4), .lit (.int .i64 1)]
def laid_onceweb_fail_values {H : Type} : DataW H := .agg [.lit (.string [108, 105, 115, 116]), .lit (.string [97, 100, 100]), .lit (.string [115, 117, 98]), .lit (.string [109, 117, 108]), .lit (.string [106, 111, 105, 110]), .lit (.string [105, 116, 101, 109]), .lit (.string [115, 105, 122, 101]), .lit (.string [105, 102]), .lit (.string [102, 97, 105, 108]), .lit (.string [112, 97, 110, 105, 99])]

/-- 'onceweblaw04.TokenSplits': WHATEVER THE INPUT: true; the input reads as it did. -/
def tokenSplitsSpec : ChangeSpec := { name := "tokenSplits", fn := fun _ => fun
  | [d1, d2, d3] => { results := [.lit (.bool true)], args := [d1, d2, d3] }
  | _ => none }
def tokenSplitsRow : OpenClaim := { program := "ytdnkedifjaccoaadoor", sum := "63b0ddb8b5a9c432000b1a5672a713f099375dc5b7a94047d506d0925b754ac0", func := "onceweb/onceweblaw04.TokenSplits", spec := "tokenSplits", unfollowed := true, recurses := true, named := ["onceweb/lex.keys", "onceweb/fail.sorts", "onceweb/fail.values"], apart := false, laid := [("onceweb/lex.keys", laid_onceweb_lex_keys), ("onceweb/fail.sorts", laid_onceweb_fail_sorts), ("onceweb/fail.values", laid_onceweb_fail_values)] }
def TokenSplitsSaid : Prop := tokenSplitsRow.holds Tryd.pinned (OpenSpec.ofChange tokenSplitsSpec)

/-- ITS FALSE NEIGHBOUR: 'it returns false'. Refute it at one input. -/
def tokenSplitsWrong : ChangeSpec := { name := "tokenSplits", fn := fun _ => fun
  | [d1, d2, d3] => { results := [.lit (.bool false)], args := [d1, d2, d3] }
  | _ => none }
def TokenSplitsWrongFalsely : Prop := tokenSplitsRow.holds Tryd.pinned (OpenSpec.ofChange tokenSplitsWrong)

/-- 'onceweblaw04.TokenStays': WHATEVER THE INPUT: true; the input reads as it did. -/
def tokenStaysSpec : ChangeSpec := { name := "tokenStays", fn := fun _ => fun
  | [d1, d2] => { results := [.lit (.bool true)], args := [d1, d2] }
  | _ => none }
def tokenStaysRow : OpenClaim := { program := "ytdnkedifjaccoaadoor", sum := "63b0ddb8b5a9c432000b1a5672a713f099375dc5b7a94047d506d0925b754ac0", func := "onceweb/onceweblaw04.TokenStays", spec := "tokenStays", unfollowed := true, recurses := true, named := ["onceweb/lex.keys", "onceweb/fail.sorts", "onceweb/fail.values"], apart := false, laid := [("onceweb/lex.keys", laid_onceweb_lex_keys), ("onceweb/fail.sorts", laid_onceweb_fail_sorts), ("onceweb/fail.values", laid_onceweb_fail_values)] }
def TokenStaysSaid : Prop := tokenStaysRow.holds Tryd.pinned (OpenSpec.ofChange tokenStaysSpec)

/-- ITS FALSE NEIGHBOUR: 'it returns false'. Refute it at one input. -/
def tokenStaysWrong : ChangeSpec := { name := "tokenStays", fn := fun _ => fun
  | [d1, d2] => { results := [.lit (.bool false)], args := [d1, d2] }
  | _ => none }
def TokenStaysWrongFalsely : Prop := tokenStaysRow.holds Tryd.pinned (OpenSpec.ofChange tokenStaysWrong)

/-- 'onceweblaw04.TokenHangs': WHATEVER THE INPUT: true; the input reads as it did. -/
def tokenHangsSpec : ChangeSpec := { name := "tokenHangs", fn := fun _ => fun
  | [d1, d2] => { results := [.lit (.bool true)], args := [d1, d2] }
  | _ => none }
def tokenHangsRow : OpenClaim := { program := "ytdnkedifjaccoaadoor", sum := "63b0ddb8b5a9c432000b1a5672a713f099375dc5b7a94047d506d0925b754ac0", func := "onceweb/onceweblaw04.TokenHangs", spec := "tokenHangs", unfollowed := true, recurses := true, named := ["onceweb/lex.keys", "onceweb/fail.sorts", "onceweb/fail.values"], apart := false, laid := [("onceweb/lex.keys", laid_onceweb_lex_keys), ("onceweb/fail.sorts", laid_onceweb_fail_sorts), ("onceweb/fail.values", laid_onceweb_fail_values)] }
def TokenHangsSaid : Prop := tokenHangsRow.holds Tryd.pinned (OpenSpec.ofChange tokenHangsSpec)

/-- ITS FALSE NEIGHBOUR: 'it returns false'. Refute it at one input. -/
def tokenHangsWrong : ChangeSpec := { name := "tokenHangs", fn := fun _ => fun
  | [d1, d2] => { results := [.lit (.bool false)], args := [d1, d2] }
  | _ => none }
def TokenHangsWrongFalsely : Prop := tokenHangsRow.holds Tryd.pinned (OpenSpec.ofChange tokenHangsWrong)

/-- 'onceweblaw04.TokenLimits': WHATEVER THE INPUT: true; the input reads as it did. -/
def tokenLimitsSpec : ChangeSpec := { name := "tokenLimits", fn := fun _ => fun
  | [d1, d2] => { results := [.lit (.bool true)], args := [d1, d2] }
  | _ => none }
def tokenLimitsRow : OpenClaim := { program := "ytdnkedifjaccoaadoor", sum := "63b0ddb8b5a9c432000b1a5672a713f099375dc5b7a94047d506d0925b754ac0", func := "onceweb/onceweblaw04.TokenLimits", spec := "tokenLimits", unfollowed := true, recurses := true, named := ["onceweb/lex.keys", "onceweb/fail.sorts", "onceweb/fail.values"], apart := false, laid := [("onceweb/lex.keys", laid_onceweb_lex_keys), ("onceweb/fail.sorts", laid_onceweb_fail_sorts), ("onceweb/fail.values", laid_onceweb_fail_values)] }
def TokenLimitsSaid : Prop := tokenLimitsRow.holds Tryd.pinned (OpenSpec.ofChange tokenLimitsSpec)

/-- ITS FALSE NEIGHBOUR: 'it returns false'. Refute it at one input. -/
def tokenLimitsWrong : ChangeSpec := { name := "tokenLimits", fn := fun _ => fun
  | [d1, d2] => { results := [.lit (.bool false)], args := [d1, d2] }
  | _ => none }
def TokenLimitsWrongFalsely : Prop := tokenLimitsRow.holds Tryd.pinned (OpenSpec.ofChange tokenLimitsWrong)

/- THE SECOND FORM. 'bulk': how many values and letters a reading holds, each counted each time it is reached (what is shared counts as often as it is met; a slice's spare places count too). A statement '..UptoSaid' is the law's where the arguments, and the package variables that the reading takes, are together of bulk at most 1048576: NARROWER than '..Said'. Prove '..Said' where nothing that the law and all that it calls make is longer than what came in: it says more and counts as full. Else prove '..UptoSaid'. A law counts once. -/
mutual
def uptoBulk {H : Type} : DataW H → Nat
  | .lit (.string bytes) => bytes.length + 1
  | .lit _ => 1
  | .nil => 1
  | .ptr d => uptoBulk d + 1
  | .slice elems spare => uptoBulkAll elems + uptoBulkAll spare + 1
  | .agg parts => uptoBulkAll parts + 1
  | .iface _ d => uptoBulk d + 1
  | .map entries => uptoBulkEntries entries + 1
  | .held _ => 1
def uptoBulkAll {H : Type} : List (DataW H) → Nat
  | [] => 0
  | d :: r => uptoBulk d + uptoBulkAll r
def uptoBulkEntries {H : Type} : List (Lit × DataW H) → Nat
  | [] => 0
  | x :: r => uptoBulkEntry x + uptoBulkEntries r
def uptoBulkEntry {H : Type} : Lit × DataW H → Nat
  | (.string bytes, d) => bytes.length + uptoBulk d + 1
  | (_, d) => uptoBulk d + 1
 end
def uptoSmall : (H : Type) → List (DataW H) → Bool := fun _ ds => decide (uptoBulkAll ds ≤ 1048576)
def OpenSpec.upto (s : _root_.Go.ChangeSpec) : _root_.Go.OpenSpec := { _root_.Go.OpenSpec.ofChange s with cond := some uptoSmall }

/-- 'onceweblaw04.TokenSplits', WHERE WHAT IT READS IS OF BULK AT MOST 1048576: true; the input reads as it did. -/
def tokenSplitsUptoRow : OpenClaim := { program := "ytdnkedifjaccoaadoor", sum := "63b0ddb8b5a9c432000b1a5672a713f099375dc5b7a94047d506d0925b754ac0", func := "onceweb/onceweblaw04.TokenSplits", spec := "tokenSplits", unfollowed := true, recurses := true, named := ["onceweb/lex.keys", "onceweb/fail.sorts", "onceweb/fail.values"], apart := false, laid := [("onceweb/lex.keys", laid_onceweb_lex_keys), ("onceweb/fail.sorts", laid_onceweb_fail_sorts), ("onceweb/fail.values", laid_onceweb_fail_values)], narrowed := true }
def TokenSplitsUptoSaid : Prop := tokenSplitsUptoRow.holds Tryd.pinned (OpenSpec.upto tokenSplitsSpec)

/-- 'onceweblaw04.TokenStays', WHERE WHAT IT READS IS OF BULK AT MOST 1048576: true; the input reads as it did. -/
def tokenStaysUptoRow : OpenClaim := { program := "ytdnkedifjaccoaadoor", sum := "63b0ddb8b5a9c432000b1a5672a713f099375dc5b7a94047d506d0925b754ac0", func := "onceweb/onceweblaw04.TokenStays", spec := "tokenStays", unfollowed := true, recurses := true, named := ["onceweb/lex.keys", "onceweb/fail.sorts", "onceweb/fail.values"], apart := false, laid := [("onceweb/lex.keys", laid_onceweb_lex_keys), ("onceweb/fail.sorts", laid_onceweb_fail_sorts), ("onceweb/fail.values", laid_onceweb_fail_values)], narrowed := true }
def TokenStaysUptoSaid : Prop := tokenStaysUptoRow.holds Tryd.pinned (OpenSpec.upto tokenStaysSpec)

/-- 'onceweblaw04.TokenHangs', WHERE WHAT IT READS IS OF BULK AT MOST 1048576: true; the input reads as it did. -/
def tokenHangsUptoRow : OpenClaim := { program := "ytdnkedifjaccoaadoor", sum := "63b0ddb8b5a9c432000b1a5672a713f099375dc5b7a94047d506d0925b754ac0", func := "onceweb/onceweblaw04.TokenHangs", spec := "tokenHangs", unfollowed := true, recurses := true, named := ["onceweb/lex.keys", "onceweb/fail.sorts", "onceweb/fail.values"], apart := false, laid := [("onceweb/lex.keys", laid_onceweb_lex_keys), ("onceweb/fail.sorts", laid_onceweb_fail_sorts), ("onceweb/fail.values", laid_onceweb_fail_values)], narrowed := true }
def TokenHangsUptoSaid : Prop := tokenHangsUptoRow.holds Tryd.pinned (OpenSpec.upto tokenHangsSpec)

/-- 'onceweblaw04.TokenLimits', WHERE WHAT IT READS IS OF BULK AT MOST 1048576: true; the input reads as it did. -/
def tokenLimitsUptoRow : OpenClaim := { program := "ytdnkedifjaccoaadoor", sum := "63b0ddb8b5a9c432000b1a5672a713f099375dc5b7a94047d506d0925b754ac0", func := "onceweb/onceweblaw04.TokenLimits", spec := "tokenLimits", unfollowed := true, recurses := true, named := ["onceweb/lex.keys", "onceweb/fail.sorts", "onceweb/fail.values"], apart := false, laid := [("onceweb/lex.keys", laid_onceweb_lex_keys), ("onceweb/fail.sorts", laid_onceweb_fail_sorts), ("onceweb/fail.values", laid_onceweb_fail_values)], narrowed := true }
def TokenLimitsUptoSaid : Prop := tokenLimitsUptoRow.holds Tryd.pinned (OpenSpec.upto tokenLimitsSpec)

end Rows
end Go.Proofs.YtdnkedifjaccoaaDoor
