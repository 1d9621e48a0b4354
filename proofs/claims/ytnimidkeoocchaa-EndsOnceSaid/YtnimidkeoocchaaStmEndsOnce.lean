/- The one pure statement of EndsOnce: what is left of it without Go and memory. -/
import Derived.Test.YtnimidkeoocchaaOpen
import Derived.Test.YtnimidkeoocchaaPE16
set_option linter.unusedVariables false
namespace Go.Proofs.Ytnimidkeoocchaa.EndsOnceS
open Go.RowKit Go.Proofs.YtnimidkeoocchaaW.PrintWords Go.Proofs.Ytnimidkeoocchaa.Opn Go.Proofs.Ytnimidkeoocchaa.PE
/-- Good, of type 38. -/
def G38 (x : S38) : Prop := GL 24 (GL 8 (fun n => (Lit.int .i64 n).wf = true)) x.f0 ∧ GL 8 (fun n => (Lit.int .i64 n).wf = true) x.f1
theorem open_t38 : Opens Try.prog 38 k38 G38 := opens_struct (fun x : S38 => (x.f0, x.f1)) (fun p => ⟨p.1, p.2⟩) (fun _ => rfl) Try.underlying38 (by kernel_rfl) (opensF_cons (by kernel_rfl) (by kernel_rfl) (opens_slice Try.underlying36 (by kernel_rfl) (by kernel_rfl) (opens_slice Try.underlying29 (by kernel_rfl) (by kernel_rfl) (opens_int Try.underlying3))) (opensF_one (by kernel_rfl) (by kernel_rfl) (opens_slice Try.underlying29 (by kernel_rfl) (by kernel_rfl) (opens_int Try.underlying3))))
/-- THE STATEMENT. -/
def EndsOnce.Pure : Prop := ∀ (x0 : S38) (x1 : (List Int)), G38 x0 → GL 8 (fun n => (Lit.int .i64 n).wf = true) x1 →  ∃ k, backstitchkeep3_EndsOnce.f k x0.f0 x0.f1 x1 = some true
end Go.Proofs.Ytnimidkeoocchaa.EndsOnceS
