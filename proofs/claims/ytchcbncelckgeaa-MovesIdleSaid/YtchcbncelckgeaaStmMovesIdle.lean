/- The one pure statement of MovesIdle: what is left of it without Go and memory. -/
import Derived.Test.YtchcbncelckgeaaOpen
import Derived.Test.YtchcbncelckgeaaPV4
set_option linter.unusedVariables false
namespace Go.Proofs.Ytchcbncelckgeaa.MovesIdleS
open Go.RowKit Go.Proofs.YtchcbncelckgeaaW.PrintWords Go.Proofs.Ytchcbncelckgeaa.Opn Go.Proofs.Ytchcbncelckgeaa.PV
/-- Good, of type 89. -/
def G89 (x : S89) : Prop := (Lit.int .i64 x.f0).wf = true ∧ (Lit.int .i64 x.f1).wf = true
theorem open_t89 : Opens Try.prog 89 k89 G89 := opens_struct (fun x : S89 => (x.f0, x.f1)) (fun p => ⟨p.1, p.2⟩) (fun _ => rfl) Try.underlying89 (by kernel_rfl) (opensF_cons (by kernel_rfl) (by kernel_rfl) (opens_int Try.underlying3) (opensF_one (by kernel_rfl) (by kernel_rfl) (opens_int Try.underlying3)))
/-- THE STATEMENT. -/
def MovesIdle.Pure : Prop := ∀ (x0 : (List S89)) (x1 : Int), GL 16 G89 x0 → (Lit.int .i64 x1).wf = true →  ∃ k, backstitchkeep3_MovesIdle.f k x0 x1 = some true
end Go.Proofs.Ytchcbncelckgeaa.MovesIdleS
