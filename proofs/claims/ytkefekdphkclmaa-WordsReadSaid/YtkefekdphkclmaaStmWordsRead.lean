/- The one pure statement of WordsRead: what is left of it without Go and memory. -/
import Derived.Test.YtkefekdphkclmaaOpen
import Derived.Test.YtkefekdphkclmaaPV7
set_option linter.unusedVariables false
namespace Go.Proofs.Ytkefekdphkclmaa.WordsReadS
open Go.RowKit Go.Proofs.YtkefekdphkclmaaW.PrintWords Go.Proofs.Ytkefekdphkclmaa.Opn Go.Proofs.Ytkefekdphkclmaa.PV
/-- THE STATEMENT. -/
def WordsRead.Pure : Prop := ∀ (x0 : (List Int)), GL 8 (fun n => (Lit.int .u64 n).wf = true) x0 →  ∃ k, backstitchkeep3_WordsRead.f k x0 = some true
end Go.Proofs.Ytkefekdphkclmaa.WordsReadS
