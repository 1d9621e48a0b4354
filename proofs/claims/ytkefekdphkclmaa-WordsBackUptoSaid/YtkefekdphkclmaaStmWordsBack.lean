/- The one pure statement of WordsBack: what is left of it without Go and memory. -/
import Derived.Test.YtkefekdphkclmaaOpenB
import Derived.Test.YtkefekdphkclmaaPV12
set_option linter.unusedVariables false
namespace Go.Proofs.Ytkefekdphkclmaa.WordsBackS
open Go.RowKit Go.Proofs.YtkefekdphkclmaaW.PrintWords Go.Proofs.Ytkefekdphkclmaa.OpnB Go.Proofs.Ytkefekdphkclmaa.PV
/-- Good, of type 27. -/
def G27 (x : S27) : Prop := (Lit.int .i64 x.f0).wf = true ∧ (Lit.int .i64 x.f1).wf = true
/-- How much a value of type 27 holds. -/
def m27 (x : S27) : Nat := (1 + (1)) + 1
theorem open_t27 : OpensB Try.prog 27 k27 m27 G27 := opensB_struct (fun x : S27 => (x.f0, x.f1)) (fun p => ⟨p.1, p.2⟩) (fun _ => rfl) Try.underlying27 (by kernel_rfl) (opensFB_cons (by kernel_rfl) (by kernel_rfl) (opensB_int Try.underlying3) (opensFB_one (by kernel_rfl) (by kernel_rfl) (opensB_int Try.underlying3)))
/-- Good, of type 110. -/
def G110 (x : S110) : Prop := (Lit.int .i64 x.f0).wf = true ∧ (Lit.int .i64 x.f1).wf = true
/-- How much a value of type 110 holds. -/
def m110 (x : S110) : Nat := (1 + (1)) + 1
theorem open_t110 : OpensB Try.prog 110 k110 m110 G110 := opensB_struct (fun x : S110 => (x.f0, x.f1)) (fun p => ⟨p.1, p.2⟩) (fun _ => rfl) Try.underlying110 (by kernel_rfl) (opensFB_cons (by kernel_rfl) (by kernel_rfl) (opensB_int Try.underlying3) (opensFB_one (by kernel_rfl) (by kernel_rfl) (opensB_int Try.underlying3)))
/-- Good, of type 30. -/
def G30 (x : S30) : Prop := (Lit.int .i64 x.f0).wf = true ∧ (Lit.int .i64 x.f1).wf = true ∧ (Lit.int .i64 x.f2).wf = true ∧ (Lit.int .i64 x.f3).wf = true ∧ G27 x.f4 ∧ GAll G27 x.f5 ∧ GAll G110 x.f6
/-- How much a value of type 30 holds. -/
def m30 (x : S30) : Nat := (1 + (1 + (1 + (1 + ((m27 x.f4) + (((mList m27) x.f5) + (((mList m110) x.f6)))))))) + 1
theorem open_t30 : OpensB Try.prog 30 k30 m30 G30 := opensB_struct (fun x : S30 => (x.f0, x.f1, x.f2, x.f3, x.f4, x.f5, x.f6)) (fun p => ⟨p.1, p.2.1, p.2.2.1, p.2.2.2.1, p.2.2.2.2.1, p.2.2.2.2.2.1, p.2.2.2.2.2.2⟩) (fun _ => rfl) Try.underlying30 (by kernel_rfl) (opensFB_cons (by kernel_rfl) (by kernel_rfl) (opensB_int Try.underlying3) (opensFB_cons (by kernel_rfl) (by kernel_rfl) (opensB_int Try.underlying3) (opensFB_cons (by kernel_rfl) (by kernel_rfl) (opensB_int Try.underlying3) (opensFB_cons (by kernel_rfl) (by kernel_rfl) (opensB_int Try.underlying3) (opensFB_cons (by kernel_rfl) (by kernel_rfl) open_t27 (opensFB_cons (by kernel_rfl) (by kernel_rfl) (opensB_slice Try.underlying22 (by kernel_rfl) open_t27) (opensFB_one (by kernel_rfl) (by kernel_rfl) (opensB_slice Try.underlying28 (by kernel_rfl) open_t110))))))))
/-- Good, of type 25. -/
def G25 (x : S25) : Prop := (Lit.int .i64 x.f0).wf = true ∧ (Lit.int .i64 x.f1).wf = true ∧ GAll G27 x.f2 ∧ GAll G30 x.f3
/-- How much a value of type 25 holds. -/
def m25 (x : S25) : Nat := (1 + (1 + (((mList m27) x.f2) + (((mList m30) x.f3))))) + 1
theorem open_t25 : OpensB Try.prog 25 k25 m25 G25 := opensB_struct (fun x : S25 => (x.f0, x.f1, x.f2, x.f3)) (fun p => ⟨p.1, p.2.1, p.2.2.1, p.2.2.2⟩) (fun _ => rfl) Try.underlying25 (by kernel_rfl) (opensFB_cons (by kernel_rfl) (by kernel_rfl) (opensB_int Try.underlying3) (opensFB_cons (by kernel_rfl) (by kernel_rfl) (opensB_int Try.underlying3) (opensFB_cons (by kernel_rfl) (by kernel_rfl) (opensB_slice Try.underlying22 (by kernel_rfl) open_t27) (opensFB_one (by kernel_rfl) (by kernel_rfl) (opensB_slice Try.underlying23 (by kernel_rfl) open_t30)))))
/-- THE STATEMENT. -/
def WordsBack.Pure : Prop := ∀ (x0 : S25) (x1 : (List Int)), G25 x0 → GAll (fun n => (Lit.int .u64 n).wf = true) x1 → (m25 x0) + ((mList mOne) x1) ≤ 1048576 →  ∃ k, backstitchkeep3_WordsBack.f k x0.f0 x0.f1 x0.f2 x0.f3 x1 = some true
end Go.Proofs.Ytkefekdphkclmaa.WordsBackS
