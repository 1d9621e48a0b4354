/- The one pure statement of OrderExits: what is left of it without Go and memory. -/
import Derived.Test.YtecaemebamhamaaOpenB
import Derived.Test.YtecaemebamhamaaPOOrderExits
set_option linter.unusedVariables false
namespace Go.Proofs.Ytecaemebamhamaa.OrderExitsS
open Go.RowKit Go.Proofs.YtecaemebamhamaaW.PrintWords Go.Proofs.Ytecaemebamhamaa.OpnB Go.Proofs.Ytecaemebamhamaa.PO
/-- Good, of type 35. -/
def G35 (x : S35) : Prop := (Lit.int .i64 x.f0).wf = true ∧ (Lit.int .i64 x.f1).wf = true
/-- How much a value of type 35 holds. -/
def m35 (x : S35) : Nat := (1 + (1)) + 1
theorem open_t35 : OpensB Try.prog 35 k35 m35 G35 := opensB_struct (fun x : S35 => (x.f0, x.f1)) (fun p => ⟨p.1, p.2⟩) (fun _ => rfl) Try.underlying35 (by kernel_rfl) (opensFB_cons (by kernel_rfl) (by kernel_rfl) (opensB_int Try.underlying3) (opensFB_one (by kernel_rfl) (by kernel_rfl) (opensB_int Try.underlying3)))
/-- Good, of type 37. -/
def G37 (x : S37) : Prop := (Lit.int .i64 x.f0).wf = true ∧ (Lit.int .i64 x.f1).wf = true ∧ (Lit.int .i64 x.f2).wf = true ∧ (Lit.int .i64 x.f3).wf = true ∧ (Lit.int .i64 x.f4).wf = true ∧ (Lit.int .i64 x.f5).wf = true ∧ G35 x.f6
/-- How much a value of type 37 holds. -/
def m37 (x : S37) : Nat := (1 + (1 + (1 + (1 + (1 + (1 + ((m35 x.f6)))))))) + 1
theorem open_t37 : OpensB Try.prog 37 k37 m37 G37 := opensB_struct (fun x : S37 => (x.f0, x.f1, x.f2, x.f3, x.f4, x.f5, x.f6)) (fun p => ⟨p.1, p.2.1, p.2.2.1, p.2.2.2.1, p.2.2.2.2.1, p.2.2.2.2.2.1, p.2.2.2.2.2.2⟩) (fun _ => rfl) Try.underlying37 (by kernel_rfl) (opensFB_cons (by kernel_rfl) (by kernel_rfl) (opensB_int Try.underlying3) (opensFB_cons (by kernel_rfl) (by kernel_rfl) (opensB_int Try.underlying3) (opensFB_cons (by kernel_rfl) (by kernel_rfl) (opensB_int Try.underlying3) (opensFB_cons (by kernel_rfl) (by kernel_rfl) (opensB_int Try.underlying3) (opensFB_cons (by kernel_rfl) (by kernel_rfl) (opensB_int Try.underlying3) (opensFB_cons (by kernel_rfl) (by kernel_rfl) (opensB_int Try.underlying3) (opensFB_one (by kernel_rfl) (by kernel_rfl) open_t35)))))))
/-- Good, of type 59. -/
def G59 (x : S59) : Prop := (Lit.int .i64 x.f0).wf = true ∧ (Lit.int .i64 x.f1).wf = true
/-- How much a value of type 59 holds. -/
def m59 (x : S59) : Nat := (1 + (1)) + 1
theorem open_t59 : OpensB Try.prog 59 k59 m59 G59 := opensB_struct (fun x : S59 => (x.f0, x.f1)) (fun p => ⟨p.1, p.2⟩) (fun _ => rfl) Try.underlying59 (by kernel_rfl) (opensFB_cons (by kernel_rfl) (by kernel_rfl) (opensB_int Try.underlying3) (opensFB_one (by kernel_rfl) (by kernel_rfl) (opensB_int Try.underlying3)))
/-- Good, of type 126. -/
def G126 (x : S126) : Prop := (Lit.int .i64 x.f0).wf = true ∧ G59 x.f1
/-- How much a value of type 126 holds. -/
def m126 (x : S126) : Nat := (1 + ((m59 x.f1))) + 1
theorem open_t126 : OpensB Try.prog 126 k126 m126 G126 := opensB_struct (fun x : S126 => (x.f0, x.f1)) (fun p => ⟨p.1, p.2⟩) (fun _ => rfl) Try.underlying126 (by kernel_rfl) (opensFB_cons (by kernel_rfl) (by kernel_rfl) (opensB_int Try.underlying3) (opensFB_one (by kernel_rfl) (by kernel_rfl) open_t59))
/-- Good, of type 118. -/
def G118 (x : S118) : Prop := G59 x.f0 ∧ (Lit.int .i64 x.f1).wf = true ∧ (Lit.int .i64 x.f2).wf = true ∧ GAll G59 x.f3
/-- How much a value of type 118 holds. -/
def m118 (x : S118) : Nat := ((m59 x.f0) + (1 + (1 + (((mList m59) x.f3))))) + 1
theorem open_t118 : OpensB Try.prog 118 k118 m118 G118 := opensB_struct (fun x : S118 => (x.f0, x.f1, x.f2, x.f3)) (fun p => ⟨p.1, p.2.1, p.2.2.1, p.2.2.2⟩) (fun _ => rfl) Try.underlying118 (by kernel_rfl) (opensFB_cons (by kernel_rfl) (by kernel_rfl) open_t59 (opensFB_cons (by kernel_rfl) (by kernel_rfl) (opensB_int Try.underlying3) (opensFB_cons (by kernel_rfl) (by kernel_rfl) (opensB_int Try.underlying3) (opensFB_one (by kernel_rfl) (by kernel_rfl) (opensB_slice Try.underlying55 (by kernel_rfl) open_t59)))))
/-- Good, of type 27. -/
def G27 (x : S27) : Prop := (Lit.int .i64 x.f0).wf = true ∧ (Lit.int .i64 x.f1).wf = true ∧ GAll G126 x.f2 ∧ GAll G118 x.f3
/-- How much a value of type 27 holds. -/
def m27 (x : S27) : Nat := (1 + (1 + (((mList m126) x.f2) + (((mList m118) x.f3))))) + 1
theorem open_t27 : OpensB Try.prog 27 k27 m27 G27 := opensB_struct (fun x : S27 => (x.f0, x.f1, x.f2, x.f3)) (fun p => ⟨p.1, p.2.1, p.2.2.1, p.2.2.2⟩) (fun _ => rfl) Try.underlying27 (by kernel_rfl) (opensFB_cons (by kernel_rfl) (by kernel_rfl) (opensB_int Try.underlying3) (opensFB_cons (by kernel_rfl) (by kernel_rfl) (opensB_int Try.underlying3) (opensFB_cons (by kernel_rfl) (by kernel_rfl) (opensB_slice Try.underlying24 (by kernel_rfl) open_t126) (opensFB_one (by kernel_rfl) (by kernel_rfl) (opensB_slice Try.underlying25 (by kernel_rfl) open_t118)))))
/-- Good, of type 29. -/
def G29 (x : S29) : Prop := (Lit.int .i64 x.f0).wf = true ∧ (Lit.int .i64 x.f1).wf = true ∧ (Lit.int .i64 x.f2).wf = true ∧ (Lit.int .i64 x.f3).wf = true ∧ GAll G37 x.f4 ∧ GAll G27 x.f5 ∧ G27 x.f6 ∧ G27 x.f7
/-- How much a value of type 29 holds. -/
def m29 (x : S29) : Nat := (1 + (1 + (1 + (1 + (((mList m37) x.f4) + (((mList m27) x.f5) + ((m27 x.f6) + ((m27 x.f7))))))))) + 1
theorem open_t29 : OpensB Try.prog 29 k29 m29 G29 := opensB_struct (fun x : S29 => (x.f0, x.f1, x.f2, x.f3, x.f4, x.f5, x.f6, x.f7)) (fun p => ⟨p.1, p.2.1, p.2.2.1, p.2.2.2.1, p.2.2.2.2.1, p.2.2.2.2.2.1, p.2.2.2.2.2.2.1, p.2.2.2.2.2.2.2⟩) (fun _ => rfl) Try.underlying29 (by kernel_rfl) (opensFB_cons (by kernel_rfl) (by kernel_rfl) (opensB_int Try.underlying3) (opensFB_cons (by kernel_rfl) (by kernel_rfl) (opensB_int Try.underlying3) (opensFB_cons (by kernel_rfl) (by kernel_rfl) (opensB_int Try.underlying3) (opensFB_cons (by kernel_rfl) (by kernel_rfl) (opensB_int Try.underlying3) (opensFB_cons (by kernel_rfl) (by kernel_rfl) (opensB_slice Try.underlying22 (by kernel_rfl) open_t37) (opensFB_cons (by kernel_rfl) (by kernel_rfl) (opensB_slice Try.underlying23 (by kernel_rfl) open_t27) (opensFB_cons (by kernel_rfl) (by kernel_rfl) open_t27 (opensFB_one (by kernel_rfl) (by kernel_rfl) open_t27))))))))
/-- THE STATEMENT. -/
def OrderExits.Pure : Prop := ∀ (x0 : S29), G29 x0 → (m29 x0) ≤ 1048576 →  ∃ k, backstitchkeep3_OrderExits.f k x0.f0 x0.f1 x0.f2 x0.f3 x0.f4 x0.f5 x0.f6.f0 x0.f6.f1 x0.f6.f2 x0.f6.f3 x0.f7.f0 x0.f7.f1 x0.f7.f2 x0.f7.f3 = some true
end Go.Proofs.Ytecaemebamhamaa.OrderExitsS
