/- The law LeaveOut: for every input it answers true, and leaves its arguments as they were. No conditions. -/
import Derived.Test.YtchcbncelckgeaaRows
import Derived.Test.YtchcbncelckgeaaStmLeaveOut
import Derived.Test.YtchcbncelckgeaaLeaveOutP
import Derived.WalkKit
import Derived.ProofKit
import Derived.OpenShut
import Derived.ShutString
import Derived.ChangeOld
import Derived.Below
import Derived.SizedLaws
import Derived.JoinedCond
set_option linter.unusedVariables false
set_option linter.unusedSimpArgs false
namespace Go.Proofs.Ytchcbncelckgeaa.leaveOut
open Go.ChangeShapes Go.WideShapes Go.ChangeAt Go.RowKit Go.Proofs.YtchcbncelckgeaaW.PrintWords Go.Proofs.Ytchcbncelckgeaa.OpnB Go.Proofs.Ytchcbncelckgeaa.PM Go.Proofs.Ytchcbncelckgeaa.LeaveOutS
open Go.ChangeMaps (open_string shut_string)
theorem own : ownKnob Try.prog.godebug = none := by kernel_rfl
theorem laidOut : laidOutB Try.prog = true := by kernel_rfl
set_option maxRecDepth 100000 in
theorem contract (H : Type) (enc : TypeId × Value → H) (W : World) (base : Nat) (args : Array Value) (ds gs : List (DataW H)) (before : List MemPlace)
    (hval0 : ∀ (j : Nat) t v, Try.f6.params[j]? = some t → args[j]? = some v → Value.okWide Try.prog W .any base t v)
    (hW : DataW.Whole enc Try.prog Try.f6.params.toList Rows.leaveOutSpec.vars false W args.toList ds gs before) (hk_ : Rows.uptoSmall H (ds ++ gs) = true) :
    Calls Try.prog 6 args W fun e W' => ∃ v, e = .returned v ∧ Rows.leaveOutSpec.post enc Try.prog Try.f6 false true false false W args v W' := by
  have hval : ∀ (j : Nat) t v, Try.f6.params[j]? = some t → args[j]? = some v → Value.okWide Try.prog W .any base t v := hval0
  have hW' := hW
  obtain ⟨p, q, hA0, hV, rfl, hfz, hnd⟩ := hW
  have hA : DataW.TrodAll enc Try.prog W 0 (fun _ => true) true Try.f6.params.toList args.toList ds p := hA0
  rw [Try.params6] at hA hval
  obtain ⟨v0, vs0, d0, ds0, p0, q0, hargs, rfl, rfl, h0, r0⟩ := trodAll_cons hA
  obtain ⟨v1, vs1, d1, ds1, p1, q1, rfl, rfl, rfl, h1, r1⟩ := trodAll_cons r0
  obtain ⟨v2, vs2, d2, ds2, p2, q2, rfl, rfl, rfl, h2, r2⟩ := trodAll_cons r1
  obtain ⟨v3, vs3, d3, ds3, p3, q3, rfl, rfl, rfl, h3, r3⟩ := trodAll_cons r2
  obtain ⟨rfl, rfl, rfl⟩ := trodAll_nil r3
  obtain rfl : args = #[v0, v1, v2, v3] := by cases args; simp_all
  obtain ⟨rfl, rfl⟩ := trodVars_none hV
  have k0 := h0
  have lt0 : ∀ x ∈ p0, x.block < W.heap.size := by obtain ⟨m, hm⟩ := k0; exact DataW.trod_lt m _ _ _ hm
  obtain ⟨x0, hK0, hG0, hb0⟩ : ∃ x : S57, k57.K W x v0.cells.toList ∧ G57 x ∧ (m57 x) ≤ Rows.uptoBulk d0 := by
    obtain ⟨fuel, hf⟩ := h0
    exact open_t57 H enc W 0 _ _ fuel _ _ hf
  obtain ⟨w0, rfl, _⟩ := okWide_struct Try.underlying57 (hval 0 57 v0 rfl rfl)
  obtain ⟨A0_0, c0_0, A0_1, c0_1, A0_2, c0_2, A0_3, c0_3, A0_4, c0_4, A0_5, c0_5, e0, l0_0, g0_0, l0_1, g0_1, l0_2, g0_2, l0_3, g0_3, l0_4, g0_4, l0_5, g0_5⟩ := k57_open hK0
  obtain rfl : w0 = #[.slice A0_0 x0.f0.length c0_0, .slice A0_1 x0.f1.length c0_1, .slice A0_2 x0.f2.length c0_2, .slice A0_3 x0.f3.length c0_3, .slice A0_4 x0.f4.length c0_4, .slice A0_5 x0.f5.length c0_5, .int .i64 x0.f6, .int .i64 x0.f7] := by cases w0; simpa [Value.cells] using e0
  obtain ⟨x1, rfl, rfl, rfl, hG1⟩ := open_int Try.underlying3 (hval 1 3 v1 rfl rfl) h1
  have k2 := h2
  have lt2 : ∀ x ∈ p2, x.block < W.heap.size := by obtain ⟨m, hm⟩ := k2; exact DataW.trod_lt m _ _ _ hm
  obtain ⟨x2, hK2, hG2, hb2⟩ : ∃ x : S31, k31.K W x v2.cells.toList ∧ G31 x ∧ (m31 x) ≤ Rows.uptoBulk d2 := by
    obtain ⟨fuel, hf⟩ := h2
    exact open_t31 H enc W 0 _ _ fuel _ _ hf
  obtain ⟨w2, rfl, _⟩ := okWide_struct Try.underlying31 (hval 2 31 v2 rfl rfl)
  obtain ⟨A2_2, c2_2, A2_3, c2_3, e2, l2_2, g2_2, l2_3, g2_3⟩ := k31_open hK2
  obtain rfl : w2 = #[.int .i64 x2.f0, .int .i64 x2.f1, .slice A2_2 x2.f2.length c2_2, .slice A2_3 x2.f3.length c2_3] := by cases w2; simpa [Value.cells] using e2
  have k3 := h3
  have lt3 : ∀ x ∈ p3, x.block < W.heap.size := by obtain ⟨m, hm⟩ := k3; exact DataW.trod_lt m _ _ _ hm
  obtain ⟨x3, hK3, hG3, hb3⟩ : ∃ x : (List S23), (Kd.slice 23 k23).K W x v3.cells.toList ∧ GAll G23 x ∧ ((mList m23) x) ≤ Rows.uptoBulk d3 := by
    obtain ⟨fuel, hf⟩ := h3
    exact (opensB_slice Try.underlying24 (by kernel_rfl) open_t23) H enc W 0 _ _ fuel _ _ hf
  obtain ⟨a3, len3, cap3, rfl⟩ := okWide_slice Try.underlying24 (hval 3 24 v3 rfl rfl)
  obtain ⟨A3, c3, e3, hc3, hr3⟩ := hK3
  simp only [Value.cells] at e3
  obtain ⟨rfl, rfl, rfl⟩ : a3 = A3 ∧ len3 = x3.length ∧ cap3 = c3 := by simpa using e3
  have hbulk : Rows.uptoBulkAll _ ≤ 1048576 := of_decide_eq_true hk_
  simp only [List.append_nil, List.cons_append, List.nil_append, Rows.uptoBulkAll, Rows.uptoBulk] at hbulk
  have hm : (m57 x0) + 1 + (m31 x2) + ((mList m23) x3) ≤ 1048576 := by (try simp only [mStr]); omega
  clear hA0 hval0
  have P : LeaveOut.Pure := Lvo.leaveOut
  obtain ⟨k, hk⟩ := P x0 x1 x2 x3 hG0 hG1 hG2 hG3 hm
  refine (backstitchkeep3_LeaveOut.calls (k := k) (w := W) (h := hk) (hr0_0 := g0_0) (hc0_0 := l0_0) (hr0_1 := g0_1) (hc0_1 := l0_1) (hr0_2 := g0_2) (hc0_2 := l0_2) (hr0_3 := g0_3) (hc0_3 := l0_3) (hr0_4 := g0_4) (hc0_4 := l0_4) (hr0_5 := g0_5) (hc0_5 := l0_5) (hr2_2 := g2_2) (hc2_2 := l2_2) (hr2_3 := g2_3) (hc2_3 := l2_3) (hr3 := hr3) (hc3 := hc3)).mono fun e W' ⟨he, bel0⟩ => ?_
  have bel : Below W.heap.size W W' := by first | exact bel0 | exact bel0.below
  subst he
  exact ⟨_, rfl, _, _, _, [], _, [], hW', trodAll_mk1 (shut_bool Try.underlying4 _), (trodAll_cons_mk (Below.trod laidOut (by kernel_rfl) (of_decide_eq_true (by kernel_rfl)) k0 bel lt0) (trodAll_cons_mk (shut_int Try.underlying3 hG1) (trodAll_cons_mk (Below.trod laidOut (by kernel_rfl) (of_decide_eq_true (by kernel_rfl)) k2 bel lt2) (trodAll_cons_mk (Below.trod laidOut (by kernel_rfl) (of_decide_eq_true (by kernel_rfl)) k3 bel lt3) trodAll_mk0)))), rfl, bel.frame _, fun h => by cases h⟩
set_option maxRecDepth 100000 in
theorem lifted (os : Os) (started : os.Started) (H : Type) (enc : TypeId × Value → H) (F : Stop.Interp) :
    ReturnsInHanded {} Try.checked os 6 .any ((Rows.OpenSpec.upto Rows.leaveOutSpec).pre6 enc Try.prog Try.f6 Rows.leaveOutUptoRow.domain false) (((Rows.OpenSpec.upto Rows.leaveOutSpec).at F).post enc Try.prog Try.f6 false true false false) := by
  refine returnsInHanded_of_cond (C := Try.checked) (s := (Rows.OpenSpec.upto Rows.leaveOutSpec)) (k := Rows.uptoSmall) rfl own started (by kernel_rfl) Try.func6
    (OpenSpec.witness (enc := enc) (C := Try.checked) (s := (Rows.OpenSpec.upto Rows.leaveOutSpec)) (k := Rows.uptoSmall) rfl false ⟨#[], #[.agg #[.slice none 0 0, .slice none 0 0, .slice none 0 0, .slice none 0 0, .slice none 0 0, .slice none 0 0, .int .i64 0, .int .i64 0], .int .i64 0, .agg #[.int .i64 0, .int .i64 0, .slice none 0 0, .slice none 0 0], .slice none 0 0], []⟩ 8 (by kernel_rfl) (by kernel_rfl) (by kernel_rfl)
      (x := ([.agg [.nil, .nil, .nil, .nil, .nil, .nil, .lit (.int .i64 0), .lit (.int .i64 0)], .lit (.int .i64 0), .agg [.lit (.int .i64 0), .lit (.int .i64 0), .nil, .nil], .nil], [], [])) (by kernel_rfl) rfl (by kernel_rfl)) ?_
  intro W base args ds gs before hval hW _ hk _
  exact contract H enc W base args ds gs before hval hW hk
theorem proved : Rows.LeaveOutUptoSaid :=
  OpenClaim.holds_of_cond 6 Try.f6 rfl rfl rfl rfl rfl rfl rfl ⟨rfl, rfl, rfl, rfl, rfl⟩ rfl rfl rfl rfl rfl (by kernel_rfl) Try.func6 (by kernel_rfl)
    (of_decide_eq_true (by kernel_rfl)) (by unfold Func.isWrapper; first | (rw [if_pos (by decide +kernel)]; kernel_rfl) | (rw [if_neg (by decide +kernel)]; exact ⟨rfl, rfl⟩))
    (fun os started H enc _ F => lifted os started H enc F)
#print axioms proved
end Go.Proofs.Ytchcbncelckgeaa.leaveOut
namespace Go.Proofs.Ytchcbncelckgeaa
theorem leaveOutUpto_holds : Rows.LeaveOutUptoSaid := leaveOut.proved
end Go.Proofs.Ytchcbncelckgeaa
