/- The one pure statement of LiveLast: what is left of it without Go and memory. -/
import Derived.Test.YtchcbncelckgeaaOpenB
import Derived.Test.YtchcbncelckgeaaPZLiveLast
set_option linter.unusedVariables false
namespace Go.Proofs.Ytchcbncelckgeaa.LiveLastS
open Go.RowKit Go.Proofs.YtchcbncelckgeaaW.PrintWords Go.Proofs.Ytchcbncelckgeaa.OpnB Go.Proofs.Ytchcbncelckgeaa.PZ
/-- Good, of type 23. -/
def G23 (x : S23) : Prop := (Lit.int .i64 x.f0).wf = true ∧ (Lit.int .i64 x.f1).wf = true
/-- How much a value of type 23 holds. -/
def m23 (x : S23) : Nat := (1 + (1)) + 1
theorem open_t23 : OpensB Try.prog 23 k23 m23 G23 := opensB_struct (fun x : S23 => (x.f0, x.f1)) (fun p => ⟨p.1, p.2⟩) (fun _ => rfl) Try.underlying23 (by kernel_rfl) (opensFB_cons (by kernel_rfl) (by kernel_rfl) (opensB_int Try.underlying3) (opensFB_one (by kernel_rfl) (by kernel_rfl) (opensB_int Try.underlying3)))
/-- Good, of type 103. -/
def G103 (x : S103) : Prop := (Lit.int .i64 x.f0).wf = true ∧ (Lit.int .i64 x.f1).wf = true ∧ (Lit.int .i64 x.f2).wf = true ∧ (Lit.int .i64 x.f3).wf = true ∧ (Lit.int .i64 x.f4).wf = true ∧ (Lit.int .i64 x.f5).wf = true ∧ G23 x.f6
/-- How much a value of type 103 holds. -/
def m103 (x : S103) : Nat := (1 + (1 + (1 + (1 + (1 + (1 + ((m23 x.f6)))))))) + 1
theorem open_t103 : OpensB Try.prog 103 k103 m103 G103 := opensB_struct (fun x : S103 => (x.f0, x.f1, x.f2, x.f3, x.f4, x.f5, x.f6)) (fun p => ⟨p.1, p.2.1, p.2.2.1, p.2.2.2.1, p.2.2.2.2.1, p.2.2.2.2.2.1, p.2.2.2.2.2.2⟩) (fun _ => rfl) Try.underlying103 (by kernel_rfl) (opensFB_cons (by kernel_rfl) (by kernel_rfl) (opensB_int Try.underlying3) (opensFB_cons (by kernel_rfl) (by kernel_rfl) (opensB_int Try.underlying3) (opensFB_cons (by kernel_rfl) (by kernel_rfl) (opensB_int Try.underlying3) (opensFB_cons (by kernel_rfl) (by kernel_rfl) (opensB_int Try.underlying3) (opensFB_cons (by kernel_rfl) (by kernel_rfl) (opensB_int Try.underlying3) (opensFB_cons (by kernel_rfl) (by kernel_rfl) (opensB_int Try.underlying3) (opensFB_one (by kernel_rfl) (by kernel_rfl) open_t23)))))))
/-- Good, of type 34. -/
def G34 (x : S34) : Prop := (Lit.int .i64 x.f0).wf = true ∧ (Lit.int .i64 x.f1).wf = true
/-- How much a value of type 34 holds. -/
def m34 (x : S34) : Nat := (1 + (1)) + 1
theorem open_t34 : OpensB Try.prog 34 k34 m34 G34 := opensB_struct (fun x : S34 => (x.f0, x.f1)) (fun p => ⟨p.1, p.2⟩) (fun _ => rfl) Try.underlying34 (by kernel_rfl) (opensFB_cons (by kernel_rfl) (by kernel_rfl) (opensB_int Try.underlying3) (opensFB_one (by kernel_rfl) (by kernel_rfl) (opensB_int Try.underlying3)))
/-- Good, of type 46. -/
def G46 (x : S46) : Prop := (Lit.int .i64 x.f0).wf = true ∧ (Lit.int .i64 x.f1).wf = true ∧ (Lit.int .i64 x.f2).wf = true ∧ GAll (fun n => (Lit.int .i64 n).wf = true) x.f3
/-- How much a value of type 46 holds. -/
def m46 (x : S46) : Nat := (1 + (1 + (1 + (((mList mOne) x.f3))))) + 1
theorem open_t46 : OpensB Try.prog 46 k46 m46 G46 := opensB_struct (fun x : S46 => (x.f0, x.f1, x.f2, x.f3)) (fun p => ⟨p.1, p.2.1, p.2.2.1, p.2.2.2⟩) (fun _ => rfl) Try.underlying46 (by kernel_rfl) (opensFB_cons (by kernel_rfl) (by kernel_rfl) (opensB_int Try.underlying3) (opensFB_cons (by kernel_rfl) (by kernel_rfl) (opensB_int Try.underlying3) (opensFB_cons (by kernel_rfl) (by kernel_rfl) (opensB_int Try.underlying3) (opensFB_one (by kernel_rfl) (by kernel_rfl) (opensB_slice Try.underlying44 (by kernel_rfl) (opensB_int Try.underlying3))))))
/-- Good, of type 31. -/
def G31 (x : S31) : Prop := (Lit.int .i64 x.f0).wf = true ∧ (Lit.int .i64 x.f1).wf = true ∧ GAll G34 x.f2 ∧ GAll G46 x.f3
/-- How much a value of type 31 holds. -/
def m31 (x : S31) : Nat := (1 + (1 + (((mList m34) x.f2) + (((mList m46) x.f3))))) + 1
theorem open_t31 : OpensB Try.prog 31 k31 m31 G31 := opensB_struct (fun x : S31 => (x.f0, x.f1, x.f2, x.f3)) (fun p => ⟨p.1, p.2.1, p.2.2.1, p.2.2.2⟩) (fun _ => rfl) Try.underlying31 (by kernel_rfl) (opensFB_cons (by kernel_rfl) (by kernel_rfl) (opensB_int Try.underlying3) (opensFB_cons (by kernel_rfl) (by kernel_rfl) (opensB_int Try.underlying3) (opensFB_cons (by kernel_rfl) (by kernel_rfl) (opensB_slice Try.underlying28 (by kernel_rfl) open_t34) (opensFB_one (by kernel_rfl) (by kernel_rfl) (opensB_slice Try.underlying29 (by kernel_rfl) open_t46)))))
/-- Good, of type 97. -/
def G97 (x : S97) : Prop := (Lit.int .i64 x.f0).wf = true ∧ (Lit.int .i64 x.f1).wf = true ∧ (Lit.int .i64 x.f2).wf = true ∧ GAll G103 x.f3 ∧ GAll G31 x.f4 ∧ G31 x.f5 ∧ G31 x.f6
/-- How much a value of type 97 holds. -/
def m97 (x : S97) : Nat := (1 + (1 + (1 + (((mList m103) x.f3) + (((mList m31) x.f4) + ((m31 x.f5) + ((m31 x.f6)))))))) + 1
theorem open_t97 : OpensB Try.prog 97 k97 m97 G97 := opensB_struct (fun x : S97 => (x.f0, x.f1, x.f2, x.f3, x.f4, x.f5, x.f6)) (fun p => ⟨p.1, p.2.1, p.2.2.1, p.2.2.2.1, p.2.2.2.2.1, p.2.2.2.2.2.1, p.2.2.2.2.2.2⟩) (fun _ => rfl) Try.underlying97 (by kernel_rfl) (opensFB_cons (by kernel_rfl) (by kernel_rfl) (opensB_int Try.underlying3) (opensFB_cons (by kernel_rfl) (by kernel_rfl) (opensB_int Try.underlying3) (opensFB_cons (by kernel_rfl) (by kernel_rfl) (opensB_int Try.underlying3) (opensFB_cons (by kernel_rfl) (by kernel_rfl) (opensB_slice Try.underlying94 (by kernel_rfl) open_t103) (opensFB_cons (by kernel_rfl) (by kernel_rfl) (opensB_slice Try.underlying95 (by kernel_rfl) open_t31) (opensFB_cons (by kernel_rfl) (by kernel_rfl) open_t31 (opensFB_one (by kernel_rfl) (by kernel_rfl) open_t31)))))))
/-- THE STATEMENT. -/
def LiveLast.Pure : Prop := ∀ (x0 : S97), G97 x0 → (m97 x0) ≤ 1048576 →  ∃ k, backstitchkeep3_LiveLast.f k x0.f0 x0.f1 x0.f2 x0.f3 x0.f4 x0.f5.f0 x0.f5.f1 x0.f5.f2 x0.f5.f3 x0.f6.f0 x0.f6.f1 x0.f6.f2 x0.f6.f3 = some true
end Go.Proofs.Ytchcbncelckgeaa.LiveLastS
