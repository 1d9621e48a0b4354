/- The one pure statement of OwnsTree: what is left of it without Go and memory. -/
import Derived.Test.YtoleplbmkdhgeaaOpen
import Derived.Test.YtoleplbmkdhgeaaPNOwnsTree
set_option linter.unusedVariables false
namespace Go.Proofs.Ytoleplbmkdhgeaa.OwnsTreeS
open Go.RowKit Go.Proofs.YtoleplbmkdhgeaaW.PrintWords Go.Proofs.Ytoleplbmkdhgeaa.Opn Go.Proofs.Ytoleplbmkdhgeaa.PN
/-- Good, of type 25. -/
def G25 (x : S25) : Prop := GL 24 (GL 8 (fun n => (Lit.int .i64 n).wf = true)) x.f0 ∧ GL 8 (fun n => (Lit.int .i64 n).wf = true) x.f1
theorem open_t25 : Opens Try.prog 25 k25 G25 := opens_struct (fun x : S25 => (x.f0, x.f1)) (fun p => ⟨p.1, p.2⟩) (fun _ => rfl) Try.underlying25 (by kernel_rfl) (opensF_cons (by kernel_rfl) (by kernel_rfl) (opens_slice Try.underlying22 (by kernel_rfl) (by kernel_rfl) (opens_slice Try.underlying23 (by kernel_rfl) (by kernel_rfl) (opens_int Try.underlying3))) (opensF_one (by kernel_rfl) (by kernel_rfl) (opens_slice Try.underlying23 (by kernel_rfl) (by kernel_rfl) (opens_int Try.underlying3))))
/-- THE STATEMENT. -/
def OwnsTree.Pure : Prop := ∀ (x0 : S25), G25 x0 →  ∃ k, backstitchkeep3_OwnsTree.f k x0.f0 x0.f1 = some true
end Go.Proofs.Ytoleplbmkdhgeaa.OwnsTreeS
