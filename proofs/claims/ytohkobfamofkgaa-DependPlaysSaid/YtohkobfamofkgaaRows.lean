/-
  No cell of these rows narrows 'for every input' (looked for: loops, veiled, ifaces, maps, wideKeys, modest, calm, conditions, laid).
  DERIVED. THE GIVEN ROWS OF THIS SEAT. 6 by the template 'for every input the law returns true; each argument reads behind the call as it read before'; 0 by the template 'total and deterministic' (their statements: YtohkobfamofkgaaTotals.lean).
  GIVEN WITH THE SEED: the statements are not yours to turn. If you find one false, say at which input.
  Laid BY PROGRAM, IN A SANDBOX (cutbox-rows.mjs): the forced cells as the released guide's own fill.sh prints them over the translation c1f539ead5f78581… (all of the seat's roots in one cut). By AI agents, Wed Nov 11 2026. No macro, syntax, notation, axiom, sorry.
-/
import Derived.Test.YtohkobfamofkgaaChecked
import GoSem.Claim
import GoSem.ClaimJoined
import GoSem.ClaimMapViews
import Derived.JoinedTies
import Derived.KernelRfl
namespace Go.Proofs.Ytohkobfamofkgaa
/- THE CELL 'sum', in the pinned program and in every row, IS THE sha256 OF THE DUMP (.gsa) THAT YtohkobfamofkgaaProg.lean LOADS. Nothing in Lean hashes anything: it is a label: what it is worth is what the hold of that sum in a sandbox is worth. -/
noncomputable def Try.pinned : Pinned := { name := "ytohkobfamofkgaa", sum := "c1f539ead5f78581e0c9c70ab664896aa79e4bdabe00a793172b97e9ceaa7782", checked := Try.checked }
namespace Rows
def none {H : Type} : Left H := { results := [], args := [] }

/-- 'onceweblaw14.DependCircles': WHATEVER THE INPUT: true; the input reads as it did. -/
def dependCirclesSpec : ChangeSpec := { name := "dependCircles", fn := fun _ => fun
  | [d] => { results := [.lit (.bool true)], args := [d] }
  | _ => none }
def dependCirclesRow : OpenClaim := { program := "ytohkobfamofkgaa", sum := "c1f539ead5f78581e0c9c70ab664896aa79e4bdabe00a793172b97e9ceaa7782", func := "onceweb/onceweblaw14.DependCircles", spec := "dependCircles", apart := false }
def DependCirclesSaid : Prop := dependCirclesRow.holds Try.pinned (OpenSpec.ofChange dependCirclesSpec)

/-- ITS FALSE NEIGHBOUR: 'it returns false'. Refute it at one input. -/
def dependCirclesWrong : ChangeSpec := { name := "dependCircles", fn := fun _ => fun
  | [d] => { results := [.lit (.bool false)], args := [d] }
  | _ => none }
def DependCirclesWrongFalsely : Prop := dependCirclesRow.holds Try.pinned (OpenSpec.ofChange dependCirclesWrong)

/-- 'onceweblaw14.DependRound': WHATEVER THE INPUT: true; the input reads as it did. -/
def dependRoundSpec : ChangeSpec := { name := "dependRound", fn := fun _ => fun
  | [d] => { results := [.lit (.bool true)], args := [d] }
  | _ => none }
def dependRoundRow : OpenClaim := { program := "ytohkobfamofkgaa", sum := "c1f539ead5f78581e0c9c70ab664896aa79e4bdabe00a793172b97e9ceaa7782", func := "onceweb/onceweblaw14.DependRound", spec := "dependRound", apart := false }
def DependRoundSaid : Prop := dependRoundRow.holds Try.pinned (OpenSpec.ofChange dependRoundSpec)

/-- ITS FALSE NEIGHBOUR: 'it returns false'. Refute it at one input. -/
def dependRoundWrong : ChangeSpec := { name := "dependRound", fn := fun _ => fun
  | [d] => { results := [.lit (.bool false)], args := [d] }
  | _ => none }
def DependRoundWrongFalsely : Prop := dependRoundRow.holds Try.pinned (OpenSpec.ofChange dependRoundWrong)

/-- 'onceweblaw14.DependUndone': WHATEVER THE INPUT: true; the input reads as it did. -/
def dependUndoneSpec : ChangeSpec := { name := "dependUndone", fn := fun _ => fun
  | [d1, d2, d3] => { results := [.lit (.bool true)], args := [d1, d2, d3] }
  | _ => none }
def dependUndoneRow : OpenClaim := { program := "ytohkobfamofkgaa", sum := "c1f539ead5f78581e0c9c70ab664896aa79e4bdabe00a793172b97e9ceaa7782", func := "onceweb/onceweblaw14.DependUndone", spec := "dependUndone", unfollowed := true, recurses := true, apart := false }
def DependUndoneSaid : Prop := dependUndoneRow.holds Try.pinned (OpenSpec.ofChange dependUndoneSpec)

/-- ITS FALSE NEIGHBOUR: 'it returns false'. Refute it at one input. -/
def dependUndoneWrong : ChangeSpec := { name := "dependUndone", fn := fun _ => fun
  | [d1, d2, d3] => { results := [.lit (.bool false)], args := [d1, d2, d3] }
  | _ => none }
def DependUndoneWrongFalsely : Prop := dependUndoneRow.holds Try.pinned (OpenSpec.ofChange dependUndoneWrong)

/-- 'onceweblaw14.DependPlays': WHATEVER THE INPUT: true; the input reads as it did. -/
def dependPlaysSpec : ChangeSpec := { name := "dependPlays", fn := fun _ => fun
  | [d] => { results := [.lit (.bool true)], args := [d] }
  | _ => none }
def dependPlaysRow : OpenClaim := { program := "ytohkobfamofkgaa", sum := "c1f539ead5f78581e0c9c70ab664896aa79e4bdabe00a793172b97e9ceaa7782", func := "onceweb/onceweblaw14.DependPlays", spec := "dependPlays", unfollowed := true, recurses := true, apart := false }
def DependPlaysSaid : Prop := dependPlaysRow.holds Try.pinned (OpenSpec.ofChange dependPlaysSpec)

/-- ITS FALSE NEIGHBOUR: 'it returns false'. Refute it at one input. -/
def dependPlaysWrong : ChangeSpec := { name := "dependPlays", fn := fun _ => fun
  | [d] => { results := [.lit (.bool false)], args := [d] }
  | _ => none }
def DependPlaysWrongFalsely : Prop := dependPlaysRow.holds Try.pinned (OpenSpec.ofChange dependPlaysWrong)

/-- 'onceweblaw14.DependTells': WHATEVER THE INPUT: true; the input reads as it did. -/
def dependTellsSpec : ChangeSpec := { name := "dependTells", fn := fun _ => fun
  | [d1, d2, d3] => { results := [.lit (.bool true)], args := [d1, d2, d3] }
  | _ => none }
def dependTellsRow : OpenClaim := { program := "ytohkobfamofkgaa", sum := "c1f539ead5f78581e0c9c70ab664896aa79e4bdabe00a793172b97e9ceaa7782", func := "onceweb/onceweblaw14.DependTells", spec := "dependTells", unfollowed := true, recurses := true, apart := false }
def DependTellsSaid : Prop := dependTellsRow.holds Try.pinned (OpenSpec.ofChange dependTellsSpec)

/-- ITS FALSE NEIGHBOUR: 'it returns false'. Refute it at one input. -/
def dependTellsWrong : ChangeSpec := { name := "dependTells", fn := fun _ => fun
  | [d1, d2, d3] => { results := [.lit (.bool false)], args := [d1, d2, d3] }
  | _ => none }
def DependTellsWrongFalsely : Prop := dependTellsRow.holds Try.pinned (OpenSpec.ofChange dependTellsWrong)

/-- 'onceweblaw14.DependNever': WHATEVER THE INPUT: true; the input reads as it did. -/
def dependNeverSpec : ChangeSpec := { name := "dependNever", fn := fun _ => fun
  | [d] => { results := [.lit (.bool true)], args := [d] }
  | _ => none }
def dependNeverRow : OpenClaim := { program := "ytohkobfamofkgaa", sum := "c1f539ead5f78581e0c9c70ab664896aa79e4bdabe00a793172b97e9ceaa7782", func := "onceweb/onceweblaw14.DependNever", spec := "dependNever", unfollowed := true, recurses := true, apart := false }
def DependNeverSaid : Prop := dependNeverRow.holds Try.pinned (OpenSpec.ofChange dependNeverSpec)

/-- ITS FALSE NEIGHBOUR: 'it returns false'. Refute it at one input. -/
def dependNeverWrong : ChangeSpec := { name := "dependNever", fn := fun _ => fun
  | [d] => { results := [.lit (.bool false)], args := [d] }
  | _ => none }
def DependNeverWrongFalsely : Prop := dependNeverRow.holds Try.pinned (OpenSpec.ofChange dependNeverWrong)

/- THE SECOND FORM. 'bulk': how many values and letters a reading holds, each counted each time it is reached (what is shared counts as often as it is met; a slice's spare places count too). A statement '..UptoSaid' is the law's where the arguments, and the package variables that the reading takes, are together of bulk at most 1048576: NARROWER than '..Said'. Prove '..Said' where nothing that the law and all that it calls make is longer than what came in: it says more and counts as full. Else prove '..UptoSaid'. A law counts once. -/
mutual
def uptoBulk {H : Type} : DataW H → Nat
  | .lit (.string bytes) => bytes.length + 1
  | .lit _ => 1
  | .nil => 1
  | .ptr d => uptoBulk d + 1
  | .slice elems spare => uptoBulkAll elems + uptoBulkAll spare + 1
  | .agg parts => uptoBulkAll parts + 1
  | .iface _ d => uptoBulk d + 1
  | .map entries => uptoBulkEntries entries + 1
  | .held _ => 1
def uptoBulkAll {H : Type} : List (DataW H) → Nat
  | [] => 0
  | d :: r => uptoBulk d + uptoBulkAll r
def uptoBulkEntries {H : Type} : List (Lit × DataW H) → Nat
  | [] => 0
  | x :: r => uptoBulkEntry x + uptoBulkEntries r
def uptoBulkEntry {H : Type} : Lit × DataW H → Nat
  | (.string bytes, d) => bytes.length + uptoBulk d + 1
  | (_, d) => uptoBulk d + 1
 end
def uptoSmall : (H : Type) → List (DataW H) → Bool := fun _ ds => decide (uptoBulkAll ds ≤ 1048576)
def OpenSpec.upto (s : _root_.Go.ChangeSpec) : _root_.Go.OpenSpec := { _root_.Go.OpenSpec.ofChange s with cond := some uptoSmall }

/-- 'onceweblaw14.DependCircles', WHERE WHAT IT READS IS OF BULK AT MOST 1048576: true; the input reads as it did. -/
def dependCirclesUptoRow : OpenClaim := { program := "ytohkobfamofkgaa", sum := "c1f539ead5f78581e0c9c70ab664896aa79e4bdabe00a793172b97e9ceaa7782", func := "onceweb/onceweblaw14.DependCircles", spec := "dependCircles", apart := false, narrowed := true }
def DependCirclesUptoSaid : Prop := dependCirclesUptoRow.holds Try.pinned (OpenSpec.upto dependCirclesSpec)

/-- 'onceweblaw14.DependRound', WHERE WHAT IT READS IS OF BULK AT MOST 1048576: true; the input reads as it did. -/
def dependRoundUptoRow : OpenClaim := { program := "ytohkobfamofkgaa", sum := "c1f539ead5f78581e0c9c70ab664896aa79e4bdabe00a793172b97e9ceaa7782", func := "onceweb/onceweblaw14.DependRound", spec := "dependRound", apart := false, narrowed := true }
def DependRoundUptoSaid : Prop := dependRoundUptoRow.holds Try.pinned (OpenSpec.upto dependRoundSpec)

/-- 'onceweblaw14.DependUndone', WHERE WHAT IT READS IS OF BULK AT MOST 1048576: true; the input reads as it did. -/
def dependUndoneUptoRow : OpenClaim := { program := "ytohkobfamofkgaa", sum := "c1f539ead5f78581e0c9c70ab664896aa79e4bdabe00a793172b97e9ceaa7782", func := "onceweb/onceweblaw14.DependUndone", spec := "dependUndone", unfollowed := true, recurses := true, apart := false, narrowed := true }
def DependUndoneUptoSaid : Prop := dependUndoneUptoRow.holds Try.pinned (OpenSpec.upto dependUndoneSpec)

/-- 'onceweblaw14.DependPlays', WHERE WHAT IT READS IS OF BULK AT MOST 1048576: true; the input reads as it did. -/
def dependPlaysUptoRow : OpenClaim := { program := "ytohkobfamofkgaa", sum := "c1f539ead5f78581e0c9c70ab664896aa79e4bdabe00a793172b97e9ceaa7782", func := "onceweb/onceweblaw14.DependPlays", spec := "dependPlays", unfollowed := true, recurses := true, apart := false, narrowed := true }
def DependPlaysUptoSaid : Prop := dependPlaysUptoRow.holds Try.pinned (OpenSpec.upto dependPlaysSpec)

/-- 'onceweblaw14.DependTells', WHERE WHAT IT READS IS OF BULK AT MOST 1048576: true; the input reads as it did. -/
def dependTellsUptoRow : OpenClaim := { program := "ytohkobfamofkgaa", sum := "c1f539ead5f78581e0c9c70ab664896aa79e4bdabe00a793172b97e9ceaa7782", func := "onceweb/onceweblaw14.DependTells", spec := "dependTells", unfollowed := true, recurses := true, apart := false, narrowed := true }
def DependTellsUptoSaid : Prop := dependTellsUptoRow.holds Try.pinned (OpenSpec.upto dependTellsSpec)

/-- 'onceweblaw14.DependNever', WHERE WHAT IT READS IS OF BULK AT MOST 1048576: true; the input reads as it did. -/
def dependNeverUptoRow : OpenClaim := { program := "ytohkobfamofkgaa", sum := "c1f539ead5f78581e0c9c70ab664896aa79e4bdabe00a793172b97e9ceaa7782", func := "onceweb/onceweblaw14.DependNever", spec := "dependNever", unfollowed := true, recurses := true, apart := false, narrowed := true }
def DependNeverUptoSaid : Prop := dependNeverUptoRow.holds Try.pinned (OpenSpec.upto dependNeverSpec)

end Rows
end Go.Proofs.Ytohkobfamofkgaa
