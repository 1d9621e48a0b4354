/- The one pure statement of WordsMore: what is left of it without Go and memory. -/
import Derived.Test.YtkefekdphkclmaaOpen
import Derived.Test.YtkefekdphkclmaaPCWordsMore
set_option linter.unusedVariables false
namespace Go.Proofs.Ytkefekdphkclmaa.WordsMoreS
open Go.RowKit Go.Proofs.YtkefekdphkclmaaW.PrintWords Go.Proofs.Ytkefekdphkclmaa.Opn Go.Proofs.Ytkefekdphkclmaa.PC
/-- Good, of type 27. -/
def G27 (x : S27) : Prop := (Lit.int .i64 x.f0).wf = true ∧ (Lit.int .i64 x.f1).wf = true
theorem open_t27 : Opens Try.prog 27 k27 G27 := opens_struct (fun x : S27 => (x.f0, x.f1)) (fun p => ⟨p.1, p.2⟩) (fun _ => rfl) Try.underlying27 (by kernel_rfl) (opensF_cons (by kernel_rfl) (by kernel_rfl) (opens_int Try.underlying3) (opensF_one (by kernel_rfl) (by kernel_rfl) (opens_int Try.underlying3)))
/-- Good, of type 110. -/
def G110 (x : S110) : Prop := (Lit.int .i64 x.f0).wf = true ∧ (Lit.int .i64 x.f1).wf = true
theorem open_t110 : Opens Try.prog 110 k110 G110 := opens_struct (fun x : S110 => (x.f0, x.f1)) (fun p => ⟨p.1, p.2⟩) (fun _ => rfl) Try.underlying110 (by kernel_rfl) (opensF_cons (by kernel_rfl) (by kernel_rfl) (opens_int Try.underlying3) (opensF_one (by kernel_rfl) (by kernel_rfl) (opens_int Try.underlying3)))
/-- Good, of type 30. -/
def G30 (x : S30) : Prop := (Lit.int .i64 x.f0).wf = true ∧ (Lit.int .i64 x.f1).wf = true ∧ (Lit.int .i64 x.f2).wf = true ∧ (Lit.int .i64 x.f3).wf = true ∧ G27 x.f4 ∧ GL 16 G27 x.f5 ∧ GL 16 G110 x.f6
theorem open_t30 : Opens Try.prog 30 k30 G30 := opens_struct (fun x : S30 => (x.f0, x.f1, x.f2, x.f3, x.f4, x.f5, x.f6)) (fun p => ⟨p.1, p.2.1, p.2.2.1, p.2.2.2.1, p.2.2.2.2.1, p.2.2.2.2.2.1, p.2.2.2.2.2.2⟩) (fun _ => rfl) Try.underlying30 (by kernel_rfl) (opensF_cons (by kernel_rfl) (by kernel_rfl) (opens_int Try.underlying3) (opensF_cons (by kernel_rfl) (by kernel_rfl) (opens_int Try.underlying3) (opensF_cons (by kernel_rfl) (by kernel_rfl) (opens_int Try.underlying3) (opensF_cons (by kernel_rfl) (by kernel_rfl) (opens_int Try.underlying3) (opensF_cons (by kernel_rfl) (by kernel_rfl) open_t27 (opensF_cons (by kernel_rfl) (by kernel_rfl) (opens_slice Try.underlying22 (by kernel_rfl) (by kernel_rfl) open_t27) (opensF_one (by kernel_rfl) (by kernel_rfl) (opens_slice Try.underlying28 (by kernel_rfl) (by kernel_rfl) open_t110))))))))
/-- Good, of type 25. -/
def G25 (x : S25) : Prop := (Lit.int .i64 x.f0).wf = true ∧ (Lit.int .i64 x.f1).wf = true ∧ GL 16 G27 x.f2 ∧ GL 96 G30 x.f3
theorem open_t25 : Opens Try.prog 25 k25 G25 := opens_struct (fun x : S25 => (x.f0, x.f1, x.f2, x.f3)) (fun p => ⟨p.1, p.2.1, p.2.2.1, p.2.2.2⟩) (fun _ => rfl) Try.underlying25 (by kernel_rfl) (opensF_cons (by kernel_rfl) (by kernel_rfl) (opens_int Try.underlying3) (opensF_cons (by kernel_rfl) (by kernel_rfl) (opens_int Try.underlying3) (opensF_cons (by kernel_rfl) (by kernel_rfl) (opens_slice Try.underlying22 (by kernel_rfl) (by kernel_rfl) open_t27) (opensF_one (by kernel_rfl) (by kernel_rfl) (opens_slice Try.underlying23 (by kernel_rfl) (by kernel_rfl) open_t30)))))
/-- THE STATEMENT. -/
def WordsMore.Pure : Prop := ∀ (x0 : S25) (x1 : S27) (x2 : S30), G25 x0 → G27 x1 → G30 x2 →  ∃ k, backstitchkeep3_WordsMore.f k x0.f0 x0.f1 x0.f2 x0.f3 x1.f0 x1.f1 x2.f0 x2.f1 x2.f2 x2.f3 x2.f4.f0 x2.f4.f1 x2.f5 x2.f6 = some true
end Go.Proofs.Ytkefekdphkclmaa.WordsMoreS
