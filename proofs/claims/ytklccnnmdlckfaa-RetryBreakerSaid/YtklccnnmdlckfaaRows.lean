/-
  No cell of these rows narrows 'for every input' (looked for: loops, veiled, ifaces, maps, wideKeys, modest, calm, conditions, laid).
  DERIVED. THE GIVEN ROWS OF THIS SEAT. 7 by the template 'for every input the law returns true; each argument reads behind the call as it read before'; 0 by the template 'total and deterministic' (their statements: YtklccnnmdlckfaaTotals.lean).
  GIVEN WITH THE SEED: the statements are not yours to turn. If you find one false, say at which input.
  Laid BY PROGRAM, IN A SANDBOX (cutbox-rows.mjs): the forced cells as the released guide's own fill.sh prints them over the translation b87ba8169abd4a36… (all of the seat's roots in one cut). By AI agents, Wed Nov 11 2026. No macro, syntax, notation, axiom, sorry.
-/
import Derived.Test.YtklccnnmdlckfaaChecked
import GoSem.Claim
import GoSem.ClaimJoined
import GoSem.ClaimMapViews
import Derived.JoinedTies
import Derived.KernelRfl
namespace Go.Proofs.Ytklccnnmdlckfaa
/- THE CELL 'sum', in the pinned program and in every row, IS THE sha256 OF THE DUMP (.gsa) THAT YtklccnnmdlckfaaProg.lean LOADS. Nothing in Lean hashes anything: it is a label: what it is worth is what the hold of that sum in a sandbox is worth. -/
noncomputable def Try.pinned : Pinned := { name := "ytklccnnmdlckfaa", sum := "b87ba8169abd4a369a53ba18db8872eb8843a89730208bff6f2a482fd1412637", checked := Try.checked }
namespace Rows
def none {H : Type} : Left H := { results := [], args := [] }

/-- 'onceweblaw12.RetryTimes': WHATEVER THE INPUT: true; the input reads as it did. -/
def retryTimesSpec : ChangeSpec := { name := "retryTimes", fn := fun _ => fun
  | [d1, d2] => { results := [.lit (.bool true)], args := [d1, d2] }
  | _ => none }
def retryTimesRow : OpenClaim := { program := "ytklccnnmdlckfaa", sum := "b87ba8169abd4a369a53ba18db8872eb8843a89730208bff6f2a482fd1412637", func := "onceweb/onceweblaw12.RetryTimes", spec := "retryTimes", apart := false }
def RetryTimesSaid : Prop := retryTimesRow.holds Try.pinned (OpenSpec.ofChange retryTimesSpec)

/-- ITS FALSE NEIGHBOUR: 'it returns false'. Refute it at one input. -/
def retryTimesWrong : ChangeSpec := { name := "retryTimes", fn := fun _ => fun
  | [d1, d2] => { results := [.lit (.bool false)], args := [d1, d2] }
  | _ => none }
def RetryTimesWrongFalsely : Prop := retryTimesRow.holds Try.pinned (OpenSpec.ofChange retryTimesWrong)

/-- 'onceweblaw12.RetryBudget': WHATEVER THE INPUT: true; the input reads as it did. -/
def retryBudgetSpec : ChangeSpec := { name := "retryBudget", fn := fun _ => fun
  | [d1, d2, d3, d4] => { results := [.lit (.bool true)], args := [d1, d2, d3, d4] }
  | _ => none }
def retryBudgetRow : OpenClaim := { program := "ytklccnnmdlckfaa", sum := "b87ba8169abd4a369a53ba18db8872eb8843a89730208bff6f2a482fd1412637", func := "onceweb/onceweblaw12.RetryBudget", spec := "retryBudget", apart := false }
def RetryBudgetSaid : Prop := retryBudgetRow.holds Try.pinned (OpenSpec.ofChange retryBudgetSpec)

/-- ITS FALSE NEIGHBOUR: 'it returns false'. Refute it at one input. -/
def retryBudgetWrong : ChangeSpec := { name := "retryBudget", fn := fun _ => fun
  | [d1, d2, d3, d4] => { results := [.lit (.bool false)], args := [d1, d2, d3, d4] }
  | _ => none }
def RetryBudgetWrongFalsely : Prop := retryBudgetRow.holds Try.pinned (OpenSpec.ofChange retryBudgetWrong)

/-- 'onceweblaw12.RetryBounds': WHATEVER THE INPUT: true; the input reads as it did. -/
def retryBoundsSpec : ChangeSpec := { name := "retryBounds", fn := fun _ => fun
  | [d1, d2, d3, d4] => { results := [.lit (.bool true)], args := [d1, d2, d3, d4] }
  | _ => none }
def retryBoundsRow : OpenClaim := { program := "ytklccnnmdlckfaa", sum := "b87ba8169abd4a369a53ba18db8872eb8843a89730208bff6f2a482fd1412637", func := "onceweb/onceweblaw12.RetryBounds", spec := "retryBounds", apart := false }
def RetryBoundsSaid : Prop := retryBoundsRow.holds Try.pinned (OpenSpec.ofChange retryBoundsSpec)

/-- ITS FALSE NEIGHBOUR: 'it returns false'. Refute it at one input. -/
def retryBoundsWrong : ChangeSpec := { name := "retryBounds", fn := fun _ => fun
  | [d1, d2, d3, d4] => { results := [.lit (.bool false)], args := [d1, d2, d3, d4] }
  | _ => none }
def RetryBoundsWrongFalsely : Prop := retryBoundsRow.holds Try.pinned (OpenSpec.ofChange retryBoundsWrong)

/-- 'onceweblaw12.RetryWaits': WHATEVER THE INPUT: true; the input reads as it did. -/
def retryWaitsSpec : ChangeSpec := { name := "retryWaits", fn := fun _ => fun
  | [d1, d2, d3, d4] => { results := [.lit (.bool true)], args := [d1, d2, d3, d4] }
  | _ => none }
def retryWaitsRow : OpenClaim := { program := "ytklccnnmdlckfaa", sum := "b87ba8169abd4a369a53ba18db8872eb8843a89730208bff6f2a482fd1412637", func := "onceweb/onceweblaw12.RetryWaits", spec := "retryWaits", apart := false }
def RetryWaitsSaid : Prop := retryWaitsRow.holds Try.pinned (OpenSpec.ofChange retryWaitsSpec)

/-- ITS FALSE NEIGHBOUR: 'it returns false'. Refute it at one input. -/
def retryWaitsWrong : ChangeSpec := { name := "retryWaits", fn := fun _ => fun
  | [d1, d2, d3, d4] => { results := [.lit (.bool false)], args := [d1, d2, d3, d4] }
  | _ => none }
def RetryWaitsWrongFalsely : Prop := retryWaitsRow.holds Try.pinned (OpenSpec.ofChange retryWaitsWrong)

/-- 'onceweblaw12.RetryRises': WHATEVER THE INPUT: true; the input reads as it did. -/
def retryRisesSpec : ChangeSpec := { name := "retryRises", fn := fun _ => fun
  | [d1, d2] => { results := [.lit (.bool true)], args := [d1, d2] }
  | _ => none }
def retryRisesRow : OpenClaim := { program := "ytklccnnmdlckfaa", sum := "b87ba8169abd4a369a53ba18db8872eb8843a89730208bff6f2a482fd1412637", func := "onceweb/onceweblaw12.RetryRises", spec := "retryRises", apart := false }
def RetryRisesSaid : Prop := retryRisesRow.holds Try.pinned (OpenSpec.ofChange retryRisesSpec)

/-- ITS FALSE NEIGHBOUR: 'it returns false'. Refute it at one input. -/
def retryRisesWrong : ChangeSpec := { name := "retryRises", fn := fun _ => fun
  | [d1, d2] => { results := [.lit (.bool false)], args := [d1, d2] }
  | _ => none }
def RetryRisesWrongFalsely : Prop := retryRisesRow.holds Try.pinned (OpenSpec.ofChange retryRisesWrong)

/-- 'onceweblaw12.RetryBreaker': WHATEVER THE INPUT: true; the input reads as it did. -/
def retryBreakerSpec : ChangeSpec := { name := "retryBreaker", fn := fun _ => fun
  | [d1, d2, d3] => { results := [.lit (.bool true)], args := [d1, d2, d3] }
  | _ => none }
def retryBreakerRow : OpenClaim := { program := "ytklccnnmdlckfaa", sum := "b87ba8169abd4a369a53ba18db8872eb8843a89730208bff6f2a482fd1412637", func := "onceweb/onceweblaw12.RetryBreaker", spec := "retryBreaker", apart := false }
def RetryBreakerSaid : Prop := retryBreakerRow.holds Try.pinned (OpenSpec.ofChange retryBreakerSpec)

/-- ITS FALSE NEIGHBOUR: 'it returns false'. Refute it at one input. -/
def retryBreakerWrong : ChangeSpec := { name := "retryBreaker", fn := fun _ => fun
  | [d1, d2, d3] => { results := [.lit (.bool false)], args := [d1, d2, d3] }
  | _ => none }
def RetryBreakerWrongFalsely : Prop := retryBreakerRow.holds Try.pinned (OpenSpec.ofChange retryBreakerWrong)

/-- 'onceweblaw12.RetryTrips': WHATEVER THE INPUT: true; the input reads as it did. -/
def retryTripsSpec : ChangeSpec := { name := "retryTrips", fn := fun _ => fun
  | [d1, d2, d3] => { results := [.lit (.bool true)], args := [d1, d2, d3] }
  | _ => none }
def retryTripsRow : OpenClaim := { program := "ytklccnnmdlckfaa", sum := "b87ba8169abd4a369a53ba18db8872eb8843a89730208bff6f2a482fd1412637", func := "onceweb/onceweblaw12.RetryTrips", spec := "retryTrips", apart := false }
def RetryTripsSaid : Prop := retryTripsRow.holds Try.pinned (OpenSpec.ofChange retryTripsSpec)

/-- ITS FALSE NEIGHBOUR: 'it returns false'. Refute it at one input. -/
def retryTripsWrong : ChangeSpec := { name := "retryTrips", fn := fun _ => fun
  | [d1, d2, d3] => { results := [.lit (.bool false)], args := [d1, d2, d3] }
  | _ => none }
def RetryTripsWrongFalsely : Prop := retryTripsRow.holds Try.pinned (OpenSpec.ofChange retryTripsWrong)

/- THE SECOND FORM. 'bulk': how many values and letters a reading holds, each counted each time it is reached (what is shared counts as often as it is met; a slice's spare places count too). A statement '..UptoSaid' is the law's where the arguments, and the package variables that the reading takes, are together of bulk at most 1048576: NARROWER than '..Said'. Prove '..Said' where nothing that the law and all that it calls make is longer than what came in: it says more and counts as full. Else prove '..UptoSaid'. A law counts once. -/
mutual
def uptoBulk {H : Type} : DataW H → Nat
  | .lit (.string bytes) => bytes.length + 1
  | .lit _ => 1
  | .nil => 1
  | .ptr d => uptoBulk d + 1
  | .slice elems spare => uptoBulkAll elems + uptoBulkAll spare + 1
  | .agg parts => uptoBulkAll parts + 1
  | .iface _ d => uptoBulk d + 1
  | .map entries => uptoBulkEntries entries + 1
  | .held _ => 1
def uptoBulkAll {H : Type} : List (DataW H) → Nat
  | [] => 0
  | d :: r => uptoBulk d + uptoBulkAll r
def uptoBulkEntries {H : Type} : List (Lit × DataW H) → Nat
  | [] => 0
  | x :: r => uptoBulkEntry x + uptoBulkEntries r
def uptoBulkEntry {H : Type} : Lit × DataW H → Nat
  | (.string bytes, d) => bytes.length + uptoBulk d + 1
  | (_, d) => uptoBulk d + 1
 end
def uptoSmall : (H : Type) → List (DataW H) → Bool := fun _ ds => decide (uptoBulkAll ds ≤ 1048576)
def OpenSpec.upto (s : _root_.Go.ChangeSpec) : _root_.Go.OpenSpec := { _root_.Go.OpenSpec.ofChange s with cond := some uptoSmall }

/-- 'onceweblaw12.RetryTimes', WHERE WHAT IT READS IS OF BULK AT MOST 1048576: true; the input reads as it did. -/
def retryTimesUptoRow : OpenClaim := { program := "ytklccnnmdlckfaa", sum := "b87ba8169abd4a369a53ba18db8872eb8843a89730208bff6f2a482fd1412637", func := "onceweb/onceweblaw12.RetryTimes", spec := "retryTimes", apart := false, narrowed := true }
def RetryTimesUptoSaid : Prop := retryTimesUptoRow.holds Try.pinned (OpenSpec.upto retryTimesSpec)

/-- 'onceweblaw12.RetryBudget', WHERE WHAT IT READS IS OF BULK AT MOST 1048576: true; the input reads as it did. -/
def retryBudgetUptoRow : OpenClaim := { program := "ytklccnnmdlckfaa", sum := "b87ba8169abd4a369a53ba18db8872eb8843a89730208bff6f2a482fd1412637", func := "onceweb/onceweblaw12.RetryBudget", spec := "retryBudget", apart := false, narrowed := true }
def RetryBudgetUptoSaid : Prop := retryBudgetUptoRow.holds Try.pinned (OpenSpec.upto retryBudgetSpec)

/-- 'onceweblaw12.RetryBounds', WHERE WHAT IT READS IS OF BULK AT MOST 1048576: true; the input reads as it did. -/
def retryBoundsUptoRow : OpenClaim := { program := "ytklccnnmdlckfaa", sum := "b87ba8169abd4a369a53ba18db8872eb8843a89730208bff6f2a482fd1412637", func := "onceweb/onceweblaw12.RetryBounds", spec := "retryBounds", apart := false, narrowed := true }
def RetryBoundsUptoSaid : Prop := retryBoundsUptoRow.holds Try.pinned (OpenSpec.upto retryBoundsSpec)

/-- 'onceweblaw12.RetryWaits', WHERE WHAT IT READS IS OF BULK AT MOST 1048576: true; the input reads as it did. -/
def retryWaitsUptoRow : OpenClaim := { program := "ytklccnnmdlckfaa", sum := "b87ba8169abd4a369a53ba18db8872eb8843a89730208bff6f2a482fd1412637", func := "onceweb/onceweblaw12.RetryWaits", spec := "retryWaits", apart := false, narrowed := true }
def RetryWaitsUptoSaid : Prop := retryWaitsUptoRow.holds Try.pinned (OpenSpec.upto retryWaitsSpec)

/-- 'onceweblaw12.RetryRises', WHERE WHAT IT READS IS OF BULK AT MOST 1048576: true; the input reads as it did. -/
def retryRisesUptoRow : OpenClaim := { program := "ytklccnnmdlckfaa", sum := "b87ba8169abd4a369a53ba18db8872eb8843a89730208bff6f2a482fd1412637", func := "onceweb/onceweblaw12.RetryRises", spec := "retryRises", apart := false, narrowed := true }
def RetryRisesUptoSaid : Prop := retryRisesUptoRow.holds Try.pinned (OpenSpec.upto retryRisesSpec)

/-- 'onceweblaw12.RetryBreaker', WHERE WHAT IT READS IS OF BULK AT MOST 1048576: true; the input reads as it did. -/
def retryBreakerUptoRow : OpenClaim := { program := "ytklccnnmdlckfaa", sum := "b87ba8169abd4a369a53ba18db8872eb8843a89730208bff6f2a482fd1412637", func := "onceweb/onceweblaw12.RetryBreaker", spec := "retryBreaker", apart := false, narrowed := true }
def RetryBreakerUptoSaid : Prop := retryBreakerUptoRow.holds Try.pinned (OpenSpec.upto retryBreakerSpec)

/-- 'onceweblaw12.RetryTrips', WHERE WHAT IT READS IS OF BULK AT MOST 1048576: true; the input reads as it did. -/
def retryTripsUptoRow : OpenClaim := { program := "ytklccnnmdlckfaa", sum := "b87ba8169abd4a369a53ba18db8872eb8843a89730208bff6f2a482fd1412637", func := "onceweb/onceweblaw12.RetryTrips", spec := "retryTrips", apart := false, narrowed := true }
def RetryTripsUptoSaid : Prop := retryTripsUptoRow.holds Try.pinned (OpenSpec.upto retryTripsSpec)

end Rows
end Go.Proofs.Ytklccnnmdlckfaa
