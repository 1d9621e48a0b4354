-- Printed for this session by its own wip/tools/pr.sh, which calls the kit's printer. Not trusted: Lean checks it.
import Derived.Test.YtchcbncelckgeaaProg
import Derived.Below
import Derived.Deep.Draws
import Derived.Deep.AppendLies
import Derived.Maps.AppendAt
import Derived.OwnWalk
import Derived.Laws.BytesArg
import Derived.Laws.MakeOwn
import Derived.Laws.OwnMore
import Derived.Deep.OwnRows
import Derived.Tactics
import Derived.Lib.ConvBytes
import Derived.Laws.Slices
import Derived.WalkKit
import Derived.KernelRfl
import Derived.RowKit3
import Derived.Deep.LoopGhost
import Derived.Deep.QuietTactic
import Derived.BigQuiet
import Derived.WideLaws
import Derived.Deep.DeepCutAuto
import Derived.Deep.CutBlock
import Derived.Deep.RegionHeld3
import Derived.Laws.Rows
import Derived.Lib.AppendStr
import Derived.ArgAppend
import Derived.Laws.IdiomCopy
import Derived.OrdersHeld
import Derived.Laws.BitsLemmas
import Derived.RowKit
import Derived.Test.YtchcbncelckgeaaWWords
import Derived.Test.YtchcbncelckgeaaWLast
import Derived.Test.YtchcbncelckgeaaWTab
import Derived.Test.YtchcbncelckgeaaWFour
import Derived.Test.YtchcbncelckgeaaWQPut
import Derived.Test.YtchcbncelckgeaaWApart
import Derived.Test.YtchcbncelckgeaaWArr
import Derived.Test.YtchcbncelckgeaaWZeros
import Derived.Test.YtchcbncelckgeaaWFoot
import Derived.Test.YtchcbncelckgeaaWKept
import Derived.Test.YtchcbncelckgeaaWShare
import Derived.Test.YtchcbncelckgeaaWN
import Derived.Test.YtchcbncelckgeaaWFootNe
import Derived.Test.YtchcbncelckgeaaWAt
import Derived.Test.YtchcbncelckgeaaWEqStruct
import Derived.Test.YtchcbncelckgeaaWRepsOne
import Derived.Test.YtchcbncelckgeaaWInv
import Derived.Test.YtchcbncelckgeaaWInvWords
import Derived.Test.YtchcbncelckgeaaWGuard
import Derived.Test.YtchcbncelckgeaaWNEv
import Derived.Test.YtchcbncelckgeaaWMore
namespace Go.Proofs.Ytchcbncelckgeaa.PQ
open Go.RowKit Go.Proofs.YtchcbncelckgeaaW.PrintWords Go.Proofs.YtchcbncelckgeaaW.PrintLast Go.Proofs.YtchcbncelckgeaaW.PrintMore
attribute [local go_sem] max2_int min2_int max_two min_two max_three min_three max_four min_four   -- for this text's walks alone
set_option linter.unusedVariables false
set_option linter.unusedSimpArgs false



def errW : Option Int → Value
  | none => .nilIface
  | some c => .iface 0 (.int .i64 c)
theorem errW_none : errW none = .nilIface := rfl
theorem errW_some (c : Int) : errW (some c) = .iface 0 (.int .i64 c) := rfl

-- the values' own types

end Go.Proofs.Ytchcbncelckgeaa.PQ
