/- The law LeaveSets: for every input it answers true, and leaves its arguments as they were. No conditions. -/
import Derived.Test.YtchcbncelckgeaaRows
import Derived.Test.YtchcbncelckgeaaStmLeaveSets
import Derived.Test.YtchcbncelckgeaaLeaveSetsP
import Derived.WalkKit
import Derived.ProofKit
import Derived.OpenShut
import Derived.ShutString
import Derived.ChangeOld
import Derived.Below
import Derived.SizedLaws
set_option linter.unusedVariables false
namespace Go.Proofs.Ytchcbncelckgeaa.leaveSets
open Go.ChangeShapes Go.WideShapes Go.ChangeAt Go.RowKit Go.Proofs.YtchcbncelckgeaaW.PrintWords Go.Proofs.Ytchcbncelckgeaa.Opn Go.Proofs.Ytchcbncelckgeaa.PL Go.Proofs.Ytchcbncelckgeaa.LeaveSetsS
open Go.ChangeMaps (open_string shut_string)
theorem own : ownKnob Try.prog.godebug = none := by kernel_rfl
theorem laidOut : laidOutB Try.prog = true := by kernel_rfl
set_option maxRecDepth 100000 in
theorem lifted (os : Os) (started : os.Started) (H : Type) (enc : TypeId × Value → H) :
    ReturnsInHanded {} Try.checked os 3 .any (Rows.leaveSetsSpec.pre6 enc Try.prog Try.f3 Rows.leaveSetsRow.domain false) (Rows.leaveSetsSpec.post enc Try.prog Try.f3 false true false false) := by
  refine returnsInHanded_of_change_sized (C := Try.checked) own started (by kernel_rfl) Try.func3
    (ChangeSpec.witness6 (enc := enc) (C := Try.checked) false ⟨#[], #[.agg #[.int .i64 0, .int .i64 0, .int .i64 0, .int .i64 0, .int .i64 0, .int .i64 0, .slice none 0 0, .slice none 0 0], .agg #[.int .i64 0, .int .i64 0, .slice none 0 0, .slice none 0 0], .slice none 0 0], []⟩ 8 (by kernel_rfl) (by kernel_rfl) (by kernel_rfl) (by kernel_rfl)) ?_
  intro W base args ds gs before hval0 hW hcnd hsz0 _
  have hsz : (DataW.weightsEach Try.prog (Try.f3.params.toList ++ Rows.leaveSetsSpec.plain.varTypes Try.prog) (ds ++ gs)).all (· ≤ reachBytes) = true := hsz0
  have hval : ∀ (j : Nat) t v, Try.f3.params[j]? = some t → args[j]? = some v → Value.okWide Try.prog W .any base t v := hval0
  have hW' := hW
  obtain ⟨p, q, hA0, hV, rfl, hfz, hnd⟩ := hW
  have hA : DataW.TrodAll enc Try.prog W 0 (fun _ => true) true Try.f3.params.toList args.toList ds p := hA0
  rw [Try.params3] at hA hval hsz
  obtain ⟨v0, vs0, d0, ds0, p0, q0, hargs, rfl, rfl, h0, r0⟩ := trodAll_cons hA
  obtain ⟨v1, vs1, d1, ds1, p1, q1, rfl, rfl, rfl, h1, r1⟩ := trodAll_cons r0
  obtain ⟨v2, vs2, d2, ds2, p2, q2, rfl, rfl, rfl, h2, r2⟩ := trodAll_cons r1
  obtain ⟨rfl, rfl, rfl⟩ := trodAll_nil r2
  obtain rfl : args = #[v0, v1, v2] := by cases args; simp_all
  obtain ⟨rfl, rfl⟩ := trodVars_none hV
  have k0 := h0
  have lt0 : ∀ x ∈ p0, x.block < W.heap.size := by obtain ⟨m, hm⟩ := k0; exact DataW.trod_lt m _ _ _ hm
  obtain ⟨x0, hK0, hG0⟩ : ∃ x : S27, k27.K W x v0.cells.toList ∧ G27 x := by
    obtain ⟨fuel, hf⟩ := h0
    exact open_t27 H enc W 0 _ _ fuel _ _ hf (weights_at hsz (j := 0) rfl rfl)
  obtain ⟨w0, rfl, _⟩ := okWide_struct Try.underlying27 (hval 0 27 v0 rfl rfl)
  obtain ⟨A0_6, c0_6, A0_7, c0_7, e0, l0_6, g0_6, l0_7, g0_7⟩ := k27_open hK0
  obtain rfl : w0 = #[.int .i64 x0.f0, .int .i64 x0.f1, .int .i64 x0.f2, .int .i64 x0.f3, .int .i64 x0.f4.f0, .int .i64 x0.f4.f1, .slice A0_6 x0.f5.length c0_6, .slice A0_7 x0.f6.length c0_7] := by cases w0; simpa [Value.cells] using e0
  have k1 := h1
  have lt1 : ∀ x ∈ p1, x.block < W.heap.size := by obtain ⟨m, hm⟩ := k1; exact DataW.trod_lt m _ _ _ hm
  obtain ⟨x1, hK1, hG1⟩ : ∃ x : S31, k31.K W x v1.cells.toList ∧ G31 x := by
    obtain ⟨fuel, hf⟩ := h1
    exact open_t31 H enc W 0 _ _ fuel _ _ hf (weights_at hsz (j := 1) rfl rfl)
  obtain ⟨w1, rfl, _⟩ := okWide_struct Try.underlying31 (hval 1 31 v1 rfl rfl)
  obtain ⟨A1_2, c1_2, A1_3, c1_3, e1, l1_2, g1_2, l1_3, g1_3⟩ := k31_open hK1
  obtain rfl : w1 = #[.int .i64 x1.f0, .int .i64 x1.f1, .slice A1_2 x1.f2.length c1_2, .slice A1_3 x1.f3.length c1_3] := by cases w1; simpa [Value.cells] using e1
  have k2 := h2
  have lt2 : ∀ x ∈ p2, x.block < W.heap.size := by obtain ⟨m, hm⟩ := k2; exact DataW.trod_lt m _ _ _ hm
  obtain ⟨x2, hK2, hG2⟩ : ∃ x : (List S23), (Kd.slice 23 k23).K W x v2.cells.toList ∧ GL 16 G23 x := by
    obtain ⟨fuel, hf⟩ := h2
    exact (opens_slice Try.underlying24 (by kernel_rfl) (by kernel_rfl) open_t23) H enc W 0 _ _ fuel _ _ hf (weights_at hsz (j := 2) rfl rfl)
  obtain ⟨a2, len2, cap2, rfl⟩ := okWide_slice Try.underlying24 (hval 2 24 v2 rfl rfl)
  obtain ⟨A2, c2, e2, hc2, hr2⟩ := hK2
  simp only [Value.cells] at e2
  obtain ⟨rfl, rfl, rfl⟩ : a2 = A2 ∧ len2 = x2.length ∧ cap2 = c2 := by simpa using e2
  clear hA0 hval0 hsz0 hsz
  have P : LeaveSets.Pure := Go.Proofs.Ytchcbncelckgeaa.LeaveP.leaveSets
  obtain ⟨k, hk⟩ := P x0 x1 x2 hG0 hG1 hG2
  refine (backstitchkeep3_LeaveSets.calls (k := k) (w := W) (h := hk) (hr0_6 := g0_6) (hc0_6 := l0_6) (hr0_7 := g0_7) (hc0_7 := l0_7) (hr1_2 := g1_2) (hc1_2 := l1_2) (hr1_3 := g1_3) (hc1_3 := l1_3) (hr2 := hr2) (hc2 := hc2)).mono fun e W' ⟨he, bel0⟩ => ?_
  have bel : Below W.heap.size W W' := by first | exact bel0 | exact bel0.below
  subst he
  exact ⟨_, rfl, _, _, _, [], _, [], hW', trodAll_mk1 (shut_bool Try.underlying4 _), (trodAll_cons_mk (Below.trod laidOut (by kernel_rfl) (of_decide_eq_true (by kernel_rfl)) k0 bel lt0) (trodAll_cons_mk (Below.trod laidOut (by kernel_rfl) (of_decide_eq_true (by kernel_rfl)) k1 bel lt1) (trodAll_cons_mk (Below.trod laidOut (by kernel_rfl) (of_decide_eq_true (by kernel_rfl)) k2 bel lt2) trodAll_mk0))), rfl, bel.frame _, fun h => by cases h⟩
theorem over : Rows.leaveSetsRow.holds Try.pinned (OpenSpec.ofChange Rows.leaveSetsSpec) :=
  OpenClaim.holds_of_wide 3 Try.f3 rfl rfl rfl rfl rfl rfl rfl ⟨rfl, rfl, rfl, rfl, rfl⟩ rfl rfl rfl rfl rfl (by kernel_rfl) Try.func3 (by kernel_rfl)
    (of_decide_eq_true (by kernel_rfl)) (by unfold Func.isWrapper; first | (rw [if_pos (by decide +kernel)]; kernel_rfl) | (rw [if_neg (by decide +kernel)]; exact ⟨rfl, rfl⟩))
    (fun os started H enc _ => lifted os started H enc)
theorem proved : Rows.LeaveSetsSaid := over
#print axioms proved
end Go.Proofs.Ytchcbncelckgeaa.leaveSets
namespace Go.Proofs.Ytchcbncelckgeaa
theorem leaveSets_holds : Rows.LeaveSetsSaid := leaveSets.proved
end Go.Proofs.Ytchcbncelckgeaa
