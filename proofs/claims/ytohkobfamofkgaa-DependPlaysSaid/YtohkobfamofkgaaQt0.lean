/- Words for the functions of Qt1: turned from what print.sh wrote for this law. -/
import Derived.Test.YtohkobfamofkgaaProg
import Derived.Below
import Derived.Deep.Draws
import Derived.Deep.AppendLies
import Derived.Maps.AppendAt
import Derived.OwnWalk
import Derived.Laws.BytesArg
import Derived.Laws.MakeOwn
import Derived.Laws.OwnMore
import Derived.Deep.OwnRows
import Derived.Tactics
import Derived.Lib.ConvBytes
import Derived.Laws.Slices
import Derived.WalkKit
import Derived.KernelRfl
import Derived.RowKit3
import Derived.Deep.LoopGhost
import Derived.Deep.QuietTactic
import Derived.BigQuiet
import Derived.WideLaws
import Derived.Deep.DeepCutAuto
import Derived.Deep.CutBlock
import Derived.Deep.RegionHeld3
import Derived.Laws.Rows
import Derived.Lib.AppendStr
import Derived.ArgAppend
import Derived.Laws.IdiomCopy
import Derived.OrdersHeld
import Derived.Laws.BitsLemmas
import Derived.RowKit
import Derived.Test.YtohkobfamofkgaaWWords
import Derived.Test.YtohkobfamofkgaaWLast
import Derived.Test.YtohkobfamofkgaaWTab
import Derived.Test.YtohkobfamofkgaaWQPut
import Derived.Test.YtohkobfamofkgaaWApart
import Derived.Test.YtohkobfamofkgaaWArr
import Derived.Test.YtohkobfamofkgaaWZeros
import Derived.Test.YtohkobfamofkgaaWFoot
import Derived.Test.YtohkobfamofkgaaWKept
import Derived.Test.YtohkobfamofkgaaWShare
import Derived.Test.YtohkobfamofkgaaWN
import Derived.Test.YtohkobfamofkgaaWFootNe
import Derived.Test.YtohkobfamofkgaaWRepsOne
import Derived.Test.YtohkobfamofkgaaWGuard
import Derived.Test.YtohkobfamofkgaaWNEv
import Derived.Test.YtohkobfamofkgaaWMore
namespace Go.Proofs.Ytohkobfamofkgaa.PDependTells
open Go.RowKit Go.Proofs.YtohkobfamofkgaaW.PrintWords Go.Proofs.YtohkobfamofkgaaW.PrintLast Go.Proofs.YtohkobfamofkgaaW.PrintMore
attribute [local go_sem] max2_int min2_int max_two min_two max_three min_three   -- for this text's walks alone
set_option linter.unusedVariables false
set_option linter.unusedSimpArgs false



def errW : Option Int → Value
  | none => .nilIface
  | some c => .iface 0 (.int .i64 c)
theorem errW_none : errW none = .nilIface := rfl
theorem errW_some (c : Int) : errW (some c) = .iface 0 (.int .i64 c) := rfl

-- the values' own types

end Go.Proofs.Ytohkobfamofkgaa.PDependTells
