/- The one pure statement of GensAny: what is left of it without Go and memory. -/
import Derived.Test.YtnimidkeoocchaaOpen
import Derived.Test.YtnimidkeoocchaaPGGensAny
set_option linter.unusedVariables false
namespace Go.Proofs.Ytnimidkeoocchaa.GensAnyS
open Go.RowKit Go.Proofs.YtnimidkeoocchaaW.PrintWords Go.Proofs.Ytnimidkeoocchaa.Opn Go.Proofs.Ytnimidkeoocchaa.PG
/-- Good, of type 31. -/
def G31 (x : S31) : Prop := (Lit.int .i64 x.f0).wf = true ∧ (Lit.int .i64 x.f1).wf = true ∧ (Lit.int .i64 x.f2).wf = true ∧ (Lit.int .i64 x.f3).wf = true
theorem open_t31 : Opens Try.prog 31 k31 G31 := opens_struct (fun x : S31 => (x.f0, x.f1, x.f2, x.f3)) (fun p => ⟨p.1, p.2.1, p.2.2.1, p.2.2.2⟩) (fun _ => rfl) Try.underlying31 (by kernel_rfl) (opensF_cons (by kernel_rfl) (by kernel_rfl) (opens_int Try.underlying3) (opensF_cons (by kernel_rfl) (by kernel_rfl) (opens_int Try.underlying3) (opensF_cons (by kernel_rfl) (by kernel_rfl) (opens_int Try.underlying3) (opensF_one (by kernel_rfl) (by kernel_rfl) (opens_int Try.underlying3)))))
/-- THE STATEMENT. -/
def GensAny.Pure : Prop := ∀ (x0 : Int) (x1 : Int) (x2 : (List S31)), (Lit.int .i64 x0).wf = true → (Lit.int .i64 x1).wf = true → GL 32 G31 x2 →  ∃ k, backstitchkeep3_GensAny.f k x0 x1 x2 = some true
end Go.Proofs.Ytnimidkeoocchaa.GensAnyS
