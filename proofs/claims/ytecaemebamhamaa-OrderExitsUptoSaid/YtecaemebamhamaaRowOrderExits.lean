/- The law OrderExits: for every input it answers true, and leaves its arguments as they were. No conditions. -/
import Derived.Test.YtecaemebamhamaaRows
import Derived.Test.YtecaemebamhamaaStmOrderExits
import Derived.Test.YtecaemebamhamaaOrderExitsP
import Derived.WalkKit
import Derived.ProofKit
import Derived.OpenShut
import Derived.ShutString
import Derived.ChangeOld
import Derived.Below
import Derived.SizedLaws
import Derived.JoinedCond
set_option linter.unusedVariables false
set_option linter.unusedSimpArgs false
namespace Go.Proofs.Ytecaemebamhamaa.orderExits
open Go.ChangeShapes Go.WideShapes Go.ChangeAt Go.RowKit Go.Proofs.YtecaemebamhamaaW.PrintWords Go.Proofs.Ytecaemebamhamaa.OpnB Go.Proofs.Ytecaemebamhamaa.PO Go.Proofs.Ytecaemebamhamaa.OrderExitsS
open Go.ChangeMaps (open_string shut_string)
theorem own : ownKnob Try.prog.godebug = none := by kernel_rfl
theorem laidOut : laidOutB Try.prog = true := by kernel_rfl
set_option maxRecDepth 100000 in
theorem contract (H : Type) (enc : TypeId × Value → H) (W : World) (base : Nat) (args : Array Value) (ds gs : List (DataW H)) (before : List MemPlace)
    (hval0 : ∀ (j : Nat) t v, Try.f3.params[j]? = some t → args[j]? = some v → Value.okWide Try.prog W .any base t v)
    (hW : DataW.Whole enc Try.prog Try.f3.params.toList Rows.orderExitsSpec.vars false W args.toList ds gs before) (hk_ : Rows.uptoSmall H (ds ++ gs) = true) :
    Calls Try.prog 3 args W fun e W' => ∃ v, e = .returned v ∧ Rows.orderExitsSpec.post enc Try.prog Try.f3 false true false false W args v W' := by
  have hval : ∀ (j : Nat) t v, Try.f3.params[j]? = some t → args[j]? = some v → Value.okWide Try.prog W .any base t v := hval0
  have hW' := hW
  obtain ⟨p, q, hA0, hV, rfl, hfz, hnd⟩ := hW
  have hA : DataW.TrodAll enc Try.prog W 0 (fun _ => true) true Try.f3.params.toList args.toList ds p := hA0
  rw [Try.params3] at hA hval
  obtain ⟨v0, vs0, d0, ds0, p0, q0, hargs, rfl, rfl, h0, r0⟩ := trodAll_cons hA
  obtain ⟨rfl, rfl, rfl⟩ := trodAll_nil r0
  obtain rfl : args = #[v0] := by cases args; simp_all
  obtain ⟨rfl, rfl⟩ := trodVars_none hV
  have k0 := h0
  have lt0 : ∀ x ∈ p0, x.block < W.heap.size := by obtain ⟨m, hm⟩ := k0; exact DataW.trod_lt m _ _ _ hm
  obtain ⟨x0, hK0, hG0, hb0⟩ : ∃ x : S29, k29.K W x v0.cells.toList ∧ G29 x ∧ (m29 x) ≤ Rows.uptoBulk d0 := by
    obtain ⟨fuel, hf⟩ := h0
    exact open_t29 H enc W 0 _ _ fuel _ _ hf
  obtain ⟨w0, rfl, _⟩ := okWide_struct Try.underlying29 (hval 0 29 v0 rfl rfl)
  obtain ⟨A0_4, c0_4, A0_5, c0_5, A0_8, c0_8, A0_9, c0_9, A0_12, c0_12, A0_13, c0_13, e0, l0_4, g0_4, l0_5, g0_5, l0_8, g0_8, l0_9, g0_9, l0_12, g0_12, l0_13, g0_13⟩ := k29_open hK0
  obtain rfl : w0 = #[.int .i64 x0.f0, .int .i64 x0.f1, .int .i64 x0.f2, .int .i64 x0.f3, .slice A0_4 x0.f4.length c0_4, .slice A0_5 x0.f5.length c0_5, .int .i64 x0.f6.f0, .int .i64 x0.f6.f1, .slice A0_8 x0.f6.f2.length c0_8, .slice A0_9 x0.f6.f3.length c0_9, .int .i64 x0.f7.f0, .int .i64 x0.f7.f1, .slice A0_12 x0.f7.f2.length c0_12, .slice A0_13 x0.f7.f3.length c0_13] := by cases w0; simpa [Value.cells] using e0
  have hbulk : Rows.uptoBulkAll _ ≤ 1048576 := of_decide_eq_true hk_
  simp only [List.append_nil, List.cons_append, List.nil_append, Rows.uptoBulkAll, Rows.uptoBulk] at hbulk
  have hm : (m29 x0) ≤ 1048576 := by (try simp only [mStr]); omega
  clear hA0 hval0
  have P : OrderExits.Pure := Lv.orderExits
  obtain ⟨k, hk⟩ := P x0 hG0 hm
  refine (backstitchkeep3_OrderExits.calls (k := k) (w := W) (h := hk) (hr0_4 := g0_4) (hc0_4 := l0_4) (hr0_5 := g0_5) (hc0_5 := l0_5) (hr0_8 := g0_8) (hc0_8 := l0_8) (hr0_9 := g0_9) (hc0_9 := l0_9) (hr0_12 := g0_12) (hc0_12 := l0_12) (hr0_13 := g0_13) (hc0_13 := l0_13)).mono fun e W' ⟨he, bel0⟩ => ?_
  have bel : Below W.heap.size W W' := by first | exact bel0 | exact bel0.below
  subst he
  exact ⟨_, rfl, _, _, _, [], _, [], hW', trodAll_mk1 (shut_bool Try.underlying4 _), (trodAll_cons_mk (Below.trod laidOut (by kernel_rfl) (of_decide_eq_true (by kernel_rfl)) k0 bel lt0) trodAll_mk0), rfl, bel.frame _, fun h => by cases h⟩
set_option maxRecDepth 100000 in
theorem lifted (os : Os) (started : os.Started) (H : Type) (enc : TypeId × Value → H) (F : Stop.Interp) :
    ReturnsInHanded {} Try.checked os 3 .any ((Rows.OpenSpec.upto Rows.orderExitsSpec).pre6 enc Try.prog Try.f3 Rows.orderExitsUptoRow.domain false) (((Rows.OpenSpec.upto Rows.orderExitsSpec).at F).post enc Try.prog Try.f3 false true false false) := by
  refine returnsInHanded_of_cond (C := Try.checked) (s := (Rows.OpenSpec.upto Rows.orderExitsSpec)) (k := Rows.uptoSmall) rfl own started (by kernel_rfl) Try.func3
    (OpenSpec.witness (enc := enc) (C := Try.checked) (s := (Rows.OpenSpec.upto Rows.orderExitsSpec)) (k := Rows.uptoSmall) rfl false ⟨#[], #[.agg #[.int .i64 0, .int .i64 0, .int .i64 0, .int .i64 0, .slice none 0 0, .slice none 0 0, .int .i64 0, .int .i64 0, .slice none 0 0, .slice none 0 0, .int .i64 0, .int .i64 0, .slice none 0 0, .slice none 0 0]], []⟩ 8 (by kernel_rfl) (by kernel_rfl) (by kernel_rfl)
      (x := ([.agg [.lit (.int .i64 0), .lit (.int .i64 0), .lit (.int .i64 0), .lit (.int .i64 0), .nil, .nil, .agg [.lit (.int .i64 0), .lit (.int .i64 0), .nil, .nil], .agg [.lit (.int .i64 0), .lit (.int .i64 0), .nil, .nil]]], [], [])) (by kernel_rfl) rfl (by kernel_rfl)) ?_
  intro W base args ds gs before hval hW _ hk _
  exact contract H enc W base args ds gs before hval hW hk
theorem proved : Rows.OrderExitsUptoSaid :=
  OpenClaim.holds_of_cond 3 Try.f3 rfl rfl rfl rfl rfl rfl rfl ⟨rfl, rfl, rfl, rfl, rfl⟩ rfl rfl rfl rfl rfl (by kernel_rfl) Try.func3 (by kernel_rfl)
    (of_decide_eq_true (by kernel_rfl)) (by unfold Func.isWrapper; first | (rw [if_pos (by decide +kernel)]; kernel_rfl) | (rw [if_neg (by decide +kernel)]; exact ⟨rfl, rfl⟩))
    (fun os started H enc _ F => lifted os started H enc F)
#print axioms proved
end Go.Proofs.Ytecaemebamhamaa.orderExits
namespace Go.Proofs.Ytecaemebamhamaa
theorem orderExitsUpto_holds : Rows.OrderExitsUptoSaid := orderExits.proved
end Go.Proofs.Ytecaemebamhamaa
