-- Cut (cut.py): what nobody names is left out.
import Derived.Test.YtchcbncelckgeaaWInv
import Derived.Test.YtchcbncelckgeaaWFootNe
namespace Go.Proofs.YtchcbncelckgeaaW.PrintWords
open Go.RowKit
end Go.Proofs.YtchcbncelckgeaaW.PrintWords
namespace Go.Proofs.YtchcbncelckgeaaW.PrintLast
section
variable {ops : Array Oper} {a : Act} {o og : Oper} {g : Nat} {t : Tmp} {u : Bool}
end
end Go.Proofs.YtchcbncelckgeaaW.PrintLast
