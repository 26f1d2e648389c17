/-
  NARROWER THAN 'FOR EVERY INPUT', by the rows' own cells (each row's printed sentence says how): CloserReverse: laid · CloserOnce: laid · CloserOrders: laid · CloserFails: laid · CloserKeeps: laid.
  DERIVED. THE GIVEN ROWS OF THIS SEAT. 5 by the template 'for every input the law returns true; each argument reads behind the call as it read before'; 0 by the template 'total and deterministic' (their statements: YtccjclmjoegibaaDoorTotals.lean).
  GIVEN WITH THE SEED: the statements are not yours to turn. If you find one false, say at which input.
  Laid BY PROGRAM, IN A SANDBOX (cutbox-rows.mjs): the forced cells as the released guide's own fill.sh prints them over the translation 174afaaf7d60a3d8… (all of the seat's roots in one cut). By AI agents, Wed Nov 11 2026. No macro, syntax, notation, axiom, sorry.
-/
import Derived.Test.YtccjclmjoegibaaDoorChecked
import GoSem.Claim
import GoSem.ClaimJoined
import GoSem.ClaimMapViews
import Derived.JoinedTies
import Derived.KernelRfl
namespace Go.Proofs.YtccjclmjoegibaaDoor
/- THE CELL 'sum', in the pinned program and in every row, IS THE sha256 OF THE DUMP (.gsa) THAT YtccjclmjoegibaaDoorProg.lean LOADS. Nothing in Lean hashes anything: it is a label: what it is worth is what the hold of that sum in a sandbox is worth. -/
noncomputable def Tryd.pinned : Pinned := { name := "ytccjclmjoegibaadoor", sum := "174afaaf7d60a3d8549bc7bc8d04c43decf5f7ff25adfdeb9748433427d3ee08", checked := Tryd.checked }
namespace Rows
def none {H : Type} : Left H := { results := [], args := [] }

/- WHAT THE LISTED PACKAGE-LEVEL VARIABLES READ AS WHEN THE CALL BEGINS. Each datum BY PROGRAM (the guide's laid-datum.mjs) off the statement by which the dump's own 'gosem.cut.vars' lays the variable. In a bare row this is a premise. The card (YtccjclmjoegibaaDoorCards.lean) ties it to the program's text. -/
def laid_onceweb_lex_keys {H : Type} : DataW H := .agg [.lit (.string [99, 101, 108, 108]), .lit (.string [97, 103, 97, 105, 110]), .lit (.string [116, 114, 105, 101, 115]), .lit (.string [98, 97, 115, 101]), .lit (.string [102, 97, 99, 116, 111, 114]), .lit (.string [99, 97, 112]), .lit (.string [99, 108, 111, 115, 101]), .lit (.string [102, 105, 110, 101]), .lit (.string [102, 97, 105, 108]), .lit (.string [112, 97, 110, 105, 99]), .lit (.string [105, 102]), .lit (.string [116, 104, 101, 110]), .lit (.string [101, 108, 115, 101]), .lit (.string [116, 114, 121]), .lit (.string [119, 97, 105, 116]), .lit (.string [108, 101, 116]), .lit (.string [105, 110]), .lit (.string [105, 116, 101, 109]), .lit (.string [115, 105, 122, 101])]
def laid_onceweb_fail_sorts {H : Type} : DataW H := .agg [.lit (.int .i64 0), .lit (.int .i64 1), .lit (.int .i64 1), .lit (.int .i64 1), .lit (.int .i64 1), .lit (.int .i64 1), .lit (.int .i64 1), .lit (.int .i64 1), .lit (.int .i64 2), .lit (.int .i64 3), .lit (.int .i64 4), .lit (.int .i64 1)]
def laid_onceweb_fail_values {H : Type} : DataW H := .agg [.lit (.string [108, 105, 115, 116]), .lit (.string [97, 100, 100]), .lit (.string [115, 117, 98]), .lit (.string [109, 117, 108]), .lit (.string [106, 111, 105, 110]), .lit (.string [105, 116, 101, 109]), .lit (.string [115, 105, 122, 101]), .lit (.string [105, 102]), .lit (.string [102, 97, 105, 108]), .lit (.string [112, 97, 110, 105, 99])]

/-- 'onceweblaw19.CloserReverse': WHATEVER THE INPUT: true; the input reads as it did. -/
def closerReverseSpec : ChangeSpec := { name := "closerReverse", fn := fun _ => fun
  | [d1, d2, d3] => { results := [.lit (.bool true)], args := [d1, d2, d3] }
  | _ => none }
def closerReverseRow : OpenClaim := { program := "ytccjclmjoegibaadoor", sum := "174afaaf7d60a3d8549bc7bc8d04c43decf5f7ff25adfdeb9748433427d3ee08", func := "onceweb/onceweblaw19.CloserReverse", spec := "closerReverse", unfollowed := true, recurses := true, named := ["onceweb/lex.keys"], apart := false, laid := [("onceweb/lex.keys", laid_onceweb_lex_keys)] }
def CloserReverseSaid : Prop := closerReverseRow.holds Tryd.pinned (OpenSpec.ofChange closerReverseSpec)

/-- ITS FALSE NEIGHBOUR: 'it returns false'. Refute it at one input. -/
def closerReverseWrong : ChangeSpec := { name := "closerReverse", fn := fun _ => fun
  | [d1, d2, d3] => { results := [.lit (.bool false)], args := [d1, d2, d3] }
  | _ => none }
def CloserReverseWrongFalsely : Prop := closerReverseRow.holds Tryd.pinned (OpenSpec.ofChange closerReverseWrong)

/-- 'onceweblaw19.CloserOnce': WHATEVER THE INPUT: true; the input reads as it did. -/
def closerOnceSpec : ChangeSpec := { name := "closerOnce", fn := fun _ => fun
  | [d1, d2, d3] => { results := [.lit (.bool true)], args := [d1, d2, d3] }
  | _ => none }
def closerOnceRow : OpenClaim := { program := "ytccjclmjoegibaadoor", sum := "174afaaf7d60a3d8549bc7bc8d04c43decf5f7ff25adfdeb9748433427d3ee08", func := "onceweb/onceweblaw19.CloserOnce", spec := "closerOnce", unfollowed := true, recurses := true, named := ["onceweb/lex.keys"], apart := false, laid := [("onceweb/lex.keys", laid_onceweb_lex_keys)] }
def CloserOnceSaid : Prop := closerOnceRow.holds Tryd.pinned (OpenSpec.ofChange closerOnceSpec)

/-- ITS FALSE NEIGHBOUR: 'it returns false'. Refute it at one input. -/
def closerOnceWrong : ChangeSpec := { name := "closerOnce", fn := fun _ => fun
  | [d1, d2, d3] => { results := [.lit (.bool false)], args := [d1, d2, d3] }
  | _ => none }
def CloserOnceWrongFalsely : Prop := closerOnceRow.holds Tryd.pinned (OpenSpec.ofChange closerOnceWrong)

/-- 'onceweblaw19.CloserOrders': WHATEVER THE INPUT: true; the input reads as it did. -/
def closerOrdersSpec : ChangeSpec := { name := "closerOrders", fn := fun _ => fun
  | [d1, d2, d3] => { results := [.lit (.bool true)], args := [d1, d2, d3] }
  | _ => none }
def closerOrdersRow : OpenClaim := { program := "ytccjclmjoegibaadoor", sum := "174afaaf7d60a3d8549bc7bc8d04c43decf5f7ff25adfdeb9748433427d3ee08", func := "onceweb/onceweblaw19.CloserOrders", spec := "closerOrders", unfollowed := true, recurses := true, named := ["onceweb/lex.keys"], apart := false, laid := [("onceweb/lex.keys", laid_onceweb_lex_keys)] }
def CloserOrdersSaid : Prop := closerOrdersRow.holds Tryd.pinned (OpenSpec.ofChange closerOrdersSpec)

/-- ITS FALSE NEIGHBOUR: 'it returns false'. Refute it at one input. -/
def closerOrdersWrong : ChangeSpec := { name := "closerOrders", fn := fun _ => fun
  | [d1, d2, d3] => { results := [.lit (.bool false)], args := [d1, d2, d3] }
  | _ => none }
def CloserOrdersWrongFalsely : Prop := closerOrdersRow.holds Tryd.pinned (OpenSpec.ofChange closerOrdersWrong)

/-- 'onceweblaw19.CloserFails': WHATEVER THE INPUT: true; the input reads as it did. -/
def closerFailsSpec : ChangeSpec := { name := "closerFails", fn := fun _ => fun
  | [d1, d2, d3, d4] => { results := [.lit (.bool true)], args := [d1, d2, d3, d4] }
  | _ => none }
def closerFailsRow : OpenClaim := { program := "ytccjclmjoegibaadoor", sum := "174afaaf7d60a3d8549bc7bc8d04c43decf5f7ff25adfdeb9748433427d3ee08", func := "onceweb/onceweblaw19.CloserFails", spec := "closerFails", unfollowed := true, recurses := true, named := ["onceweb/lex.keys", "onceweb/fail.sorts", "onceweb/fail.values"], apart := false, laid := [("onceweb/lex.keys", laid_onceweb_lex_keys), ("onceweb/fail.sorts", laid_onceweb_fail_sorts), ("onceweb/fail.values", laid_onceweb_fail_values)] }
def CloserFailsSaid : Prop := closerFailsRow.holds Tryd.pinned (OpenSpec.ofChange closerFailsSpec)

/-- ITS FALSE NEIGHBOUR: 'it returns false'. Refute it at one input. -/
def closerFailsWrong : ChangeSpec := { name := "closerFails", fn := fun _ => fun
  | [d1, d2, d3, d4] => { results := [.lit (.bool false)], args := [d1, d2, d3, d4] }
  | _ => none }
def CloserFailsWrongFalsely : Prop := closerFailsRow.holds Tryd.pinned (OpenSpec.ofChange closerFailsWrong)

/-- 'onceweblaw19.CloserKeeps': WHATEVER THE INPUT: true; the input reads as it did. -/
def closerKeepsSpec : ChangeSpec := { name := "closerKeeps", fn := fun _ => fun
  | [d1, d2, d3] => { results := [.lit (.bool true)], args := [d1, d2, d3] }
  | _ => none }
def closerKeepsRow : OpenClaim := { program := "ytccjclmjoegibaadoor", sum := "174afaaf7d60a3d8549bc7bc8d04c43decf5f7ff25adfdeb9748433427d3ee08", func := "onceweb/onceweblaw19.CloserKeeps", spec := "closerKeeps", unfollowed := true, recurses := true, named := ["onceweb/lex.keys", "onceweb/fail.sorts", "onceweb/fail.values"], apart := false, laid := [("onceweb/lex.keys", laid_onceweb_lex_keys), ("onceweb/fail.sorts", laid_onceweb_fail_sorts), ("onceweb/fail.values", laid_onceweb_fail_values)] }
def CloserKeepsSaid : Prop := closerKeepsRow.holds Tryd.pinned (OpenSpec.ofChange closerKeepsSpec)

/-- ITS FALSE NEIGHBOUR: 'it returns false'. Refute it at one input. -/
def closerKeepsWrong : ChangeSpec := { name := "closerKeeps", fn := fun _ => fun
  | [d1, d2, d3] => { results := [.lit (.bool false)], args := [d1, d2, d3] }
  | _ => none }
def CloserKeepsWrongFalsely : Prop := closerKeepsRow.holds Tryd.pinned (OpenSpec.ofChange closerKeepsWrong)

/- THE SECOND FORM. 'bulk': how many values and letters a reading holds, each counted each time it is reached (what is shared counts as often as it is met; a slice's spare places count too). A statement '..UptoSaid' is the law's where the arguments, and the package variables that the reading takes, are together of bulk at most 1048576: NARROWER than '..Said'. Prove '..Said' where nothing that the law and all that it calls make is longer than what came in: it says more and counts as full. Else prove '..UptoSaid'. A law counts once. -/
mutual
def uptoBulk {H : Type} : DataW H → Nat
  | .lit (.string bytes) => bytes.length + 1
  | .lit _ => 1
  | .nil => 1
  | .ptr d => uptoBulk d + 1
  | .slice elems spare => uptoBulkAll elems + uptoBulkAll spare + 1
  | .agg parts => uptoBulkAll parts + 1
  | .iface _ d => uptoBulk d + 1
  | .map entries => uptoBulkEntries entries + 1
  | .held _ => 1
def uptoBulkAll {H : Type} : List (DataW H) → Nat
  | [] => 0
  | d :: r => uptoBulk d + uptoBulkAll r
def uptoBulkEntries {H : Type} : List (Lit × DataW H) → Nat
  | [] => 0
  | x :: r => uptoBulkEntry x + uptoBulkEntries r
def uptoBulkEntry {H : Type} : Lit × DataW H → Nat
  | (.string bytes, d) => bytes.length + uptoBulk d + 1
  | (_, d) => uptoBulk d + 1
 end
def uptoSmall : (H : Type) → List (DataW H) → Bool := fun _ ds => decide (uptoBulkAll ds ≤ 1048576)
def OpenSpec.upto (s : _root_.Go.ChangeSpec) : _root_.Go.OpenSpec := { _root_.Go.OpenSpec.ofChange s with cond := some uptoSmall }

/-- 'onceweblaw19.CloserReverse', WHERE WHAT IT READS IS OF BULK AT MOST 1048576: true; the input reads as it did. -/
def closerReverseUptoRow : OpenClaim := { program := "ytccjclmjoegibaadoor", sum := "174afaaf7d60a3d8549bc7bc8d04c43decf5f7ff25adfdeb9748433427d3ee08", func := "onceweb/onceweblaw19.CloserReverse", spec := "closerReverse", unfollowed := true, recurses := true, named := ["onceweb/lex.keys"], apart := false, laid := [("onceweb/lex.keys", laid_onceweb_lex_keys)], narrowed := true }
def CloserReverseUptoSaid : Prop := closerReverseUptoRow.holds Tryd.pinned (OpenSpec.upto closerReverseSpec)

/-- 'onceweblaw19.CloserOnce', WHERE WHAT IT READS IS OF BULK AT MOST 1048576: true; the input reads as it did. -/
def closerOnceUptoRow : OpenClaim := { program := "ytccjclmjoegibaadoor", sum := "174afaaf7d60a3d8549bc7bc8d04c43decf5f7ff25adfdeb9748433427d3ee08", func := "onceweb/onceweblaw19.CloserOnce", spec := "closerOnce", unfollowed := true, recurses := true, named := ["onceweb/lex.keys"], apart := false, laid := [("onceweb/lex.keys", laid_onceweb_lex_keys)], narrowed := true }
def CloserOnceUptoSaid : Prop := closerOnceUptoRow.holds Tryd.pinned (OpenSpec.upto closerOnceSpec)

/-- 'onceweblaw19.CloserOrders', WHERE WHAT IT READS IS OF BULK AT MOST 1048576: true; the input reads as it did. -/
def closerOrdersUptoRow : OpenClaim := { program := "ytccjclmjoegibaadoor", sum := "174afaaf7d60a3d8549bc7bc8d04c43decf5f7ff25adfdeb9748433427d3ee08", func := "onceweb/onceweblaw19.CloserOrders", spec := "closerOrders", unfollowed := true, recurses := true, named := ["onceweb/lex.keys"], apart := false, laid := [("onceweb/lex.keys", laid_onceweb_lex_keys)], narrowed := true }
def CloserOrdersUptoSaid : Prop := closerOrdersUptoRow.holds Tryd.pinned (OpenSpec.upto closerOrdersSpec)

/-- 'onceweblaw19.CloserFails', WHERE WHAT IT READS IS OF BULK AT MOST 1048576: true; the input reads as it did. -/
def closerFailsUptoRow : OpenClaim := { program := "ytccjclmjoegibaadoor", sum := "174afaaf7d60a3d8549bc7bc8d04c43decf5f7ff25adfdeb9748433427d3ee08", func := "onceweb/onceweblaw19.CloserFails", spec := "closerFails", unfollowed := true, recurses := true, named := ["onceweb/lex.keys", "onceweb/fail.sorts", "onceweb/fail.values"], apart := false, laid := [("onceweb/lex.keys", laid_onceweb_lex_keys), ("onceweb/fail.sorts", laid_onceweb_fail_sorts), ("onceweb/fail.values", laid_onceweb_fail_values)], narrowed := true }
def CloserFailsUptoSaid : Prop := closerFailsUptoRow.holds Tryd.pinned (OpenSpec.upto closerFailsSpec)

/-- 'onceweblaw19.CloserKeeps', WHERE WHAT IT READS IS OF BULK AT MOST 1048576: true; the input reads as it did. -/
def closerKeepsUptoRow : OpenClaim := { program := "ytccjclmjoegibaadoor", sum := "174afaaf7d60a3d8549bc7bc8d04c43decf5f7ff25adfdeb9748433427d3ee08", func := "onceweb/onceweblaw19.CloserKeeps", spec := "closerKeeps", unfollowed := true, recurses := true, named := ["onceweb/lex.keys", "onceweb/fail.sorts", "onceweb/fail.values"], apart := false, laid := [("onceweb/lex.keys", laid_onceweb_lex_keys), ("onceweb/fail.sorts", laid_onceweb_fail_sorts), ("onceweb/fail.values", laid_onceweb_fail_values)], narrowed := true }
def CloserKeepsUptoSaid : Prop := closerKeepsUptoRow.holds Tryd.pinned (OpenSpec.upto closerKeepsSpec)

end Rows
end Go.Proofs.YtccjclmjoegibaaDoor
