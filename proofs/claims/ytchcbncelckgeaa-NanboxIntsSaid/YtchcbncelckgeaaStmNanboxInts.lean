/- The one pure statement of NanboxInts: what is left of it without Go and memory. -/
import Derived.Test.YtchcbncelckgeaaOpen
import Derived.Test.YtchcbncelckgeaaPQ7
set_option linter.unusedVariables false
namespace Go.Proofs.Ytchcbncelckgeaa.NanboxIntsS
open Go.RowKit Go.Proofs.YtchcbncelckgeaaW.PrintWords Go.Proofs.Ytchcbncelckgeaa.Opn Go.Proofs.Ytchcbncelckgeaa.PQ
/-- THE STATEMENT. -/
def NanboxInts.Pure : Prop := ∀ (x0 : Int) (x1 : Int), (Lit.int .i64 x0).wf = true → (Lit.int .i64 x1).wf = true →  ∃ k, backstitchkeep3_NanboxInts.f k x0 x1 = some true
end Go.Proofs.Ytchcbncelckgeaa.NanboxIntsS
