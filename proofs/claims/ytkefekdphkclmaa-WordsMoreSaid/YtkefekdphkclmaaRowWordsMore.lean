/- The law WordsMore: for every input it answers true, and leaves its arguments as they were. No conditions. -/
import Derived.Test.YtkefekdphkclmaaRows
import Derived.Test.YtkefekdphkclmaaStmWordsMore
import Derived.Test.YtkefekdphkclmaaWordsMoreP
import Derived.WalkKit
import Derived.ProofKit
import Derived.OpenShut
import Derived.ShutString
import Derived.ChangeOld
import Derived.Below
import Derived.SizedLaws
import Derived.JoinedCond
set_option linter.unusedVariables false
set_option linter.unusedSimpArgs false
namespace Go.Proofs.Ytkefekdphkclmaa.wordsMore
open Go.ChangeShapes Go.WideShapes Go.ChangeAt Go.RowKit Go.Proofs.YtkefekdphkclmaaW.PrintWords Go.Proofs.Ytkefekdphkclmaa.Opn Go.Proofs.Ytkefekdphkclmaa.PC Go.Proofs.Ytkefekdphkclmaa.WordsMoreS
open Go.ChangeMaps (open_string shut_string)
theorem own : ownKnob Try.prog.godebug = none := by kernel_rfl
theorem laidOut : laidOutB Try.prog = true := by kernel_rfl
set_option maxRecDepth 100000 in
theorem lifted (os : Os) (started : os.Started) (H : Type) (enc : TypeId × Value → H) :
    ReturnsInHanded {} Try.checked os 3 .any (Rows.wordsMoreSpec.pre6 enc Try.prog Try.f3 Rows.wordsMoreRow.domain false) (Rows.wordsMoreSpec.post enc Try.prog Try.f3 false true false false) := by
  refine returnsInHanded_of_change_sized (C := Try.checked) own started (by kernel_rfl) Try.func3
    (ChangeSpec.witness6 (enc := enc) (C := Try.checked) false ⟨#[], #[.agg #[.int .i64 0, .int .i64 0, .slice none 0 0, .slice none 0 0], .agg #[.int .i64 0, .int .i64 0], .agg #[.int .i64 0, .int .i64 0, .int .i64 0, .int .i64 0, .int .i64 0, .int .i64 0, .slice none 0 0, .slice none 0 0]], []⟩ 8 (by kernel_rfl) (by kernel_rfl) (by kernel_rfl) (by kernel_rfl)) ?_
  intro W base args ds gs before hval0 hW hcnd hsz0 _
  have hsz : (DataW.weightsEach Try.prog (Try.f3.params.toList ++ Rows.wordsMoreSpec.plain.varTypes Try.prog) (ds ++ gs)).all (· ≤ reachBytes) = true := hsz0
  have hval : ∀ (j : Nat) t v, Try.f3.params[j]? = some t → args[j]? = some v → Value.okWide Try.prog W .any base t v := hval0
  have hW' := hW
  obtain ⟨p, q, hA0, hV, rfl, hfz, hnd⟩ := hW
  have hA : DataW.TrodAll enc Try.prog W 0 (fun _ => true) true Try.f3.params.toList args.toList ds p := hA0
  rw [Try.params3] at hA hval hsz
  obtain ⟨v0, vs0, d0, ds0, p0, q0, hargs, rfl, rfl, h0, r0⟩ := trodAll_cons hA
  obtain ⟨v1, vs1, d1, ds1, p1, q1, rfl, rfl, rfl, h1, r1⟩ := trodAll_cons r0
  obtain ⟨v2, vs2, d2, ds2, p2, q2, rfl, rfl, rfl, h2, r2⟩ := trodAll_cons r1
  obtain ⟨rfl, rfl, rfl⟩ := trodAll_nil r2
  obtain rfl : args = #[v0, v1, v2] := by cases args; simp_all
  obtain ⟨rfl, rfl⟩ := trodVars_none hV
  have k0 := h0
  have lt0 : ∀ x ∈ p0, x.block < W.heap.size := by obtain ⟨m, hm⟩ := k0; exact DataW.trod_lt m _ _ _ hm
  obtain ⟨x0, hK0, hG0⟩ : ∃ x : S25, k25.K W x v0.cells.toList ∧ G25 x := by
    obtain ⟨fuel, hf⟩ := h0
    exact open_t25 H enc W 0 _ _ fuel _ _ hf (weights_at hsz (j := 0) rfl rfl)
  obtain ⟨w0, rfl, _⟩ := okWide_struct Try.underlying25 (hval 0 25 v0 rfl rfl)
  obtain ⟨A0_2, c0_2, A0_3, c0_3, e0, l0_2, g0_2, l0_3, g0_3⟩ := k25_open hK0
  obtain rfl : w0 = #[.int .i64 x0.f0, .int .i64 x0.f1, .slice A0_2 x0.f2.length c0_2, .slice A0_3 x0.f3.length c0_3] := by cases w0; simpa [Value.cells] using e0
  have k1 := h1
  have lt1 : ∀ x ∈ p1, x.block < W.heap.size := by obtain ⟨m, hm⟩ := k1; exact DataW.trod_lt m _ _ _ hm
  obtain ⟨x1, hK1, hG1⟩ : ∃ x : S27, k27.K W x v1.cells.toList ∧ G27 x := by
    obtain ⟨fuel, hf⟩ := h1
    exact open_t27 H enc W 0 _ _ fuel _ _ hf (weights_at hsz (j := 1) rfl rfl)
  obtain ⟨w1, rfl, _⟩ := okWide_struct Try.underlying27 (hval 1 27 v1 rfl rfl)
  have e1 := k27_open hK1
  obtain rfl : w1 = #[.int .i64 x1.f0, .int .i64 x1.f1] := by cases w1; simpa [Value.cells] using e1
  have k2 := h2
  have lt2 : ∀ x ∈ p2, x.block < W.heap.size := by obtain ⟨m, hm⟩ := k2; exact DataW.trod_lt m _ _ _ hm
  obtain ⟨x2, hK2, hG2⟩ : ∃ x : S30, k30.K W x v2.cells.toList ∧ G30 x := by
    obtain ⟨fuel, hf⟩ := h2
    exact open_t30 H enc W 0 _ _ fuel _ _ hf (weights_at hsz (j := 2) rfl rfl)
  obtain ⟨w2, rfl, _⟩ := okWide_struct Try.underlying30 (hval 2 30 v2 rfl rfl)
  obtain ⟨A2_6, c2_6, A2_7, c2_7, e2, l2_6, g2_6, l2_7, g2_7⟩ := k30_open hK2
  obtain rfl : w2 = #[.int .i64 x2.f0, .int .i64 x2.f1, .int .i64 x2.f2, .int .i64 x2.f3, .int .i64 x2.f4.f0, .int .i64 x2.f4.f1, .slice A2_6 x2.f5.length c2_6, .slice A2_7 x2.f6.length c2_7] := by cases w2; simpa [Value.cells] using e2
  clear hA0 hval0 hsz0 hsz
  have P : WordsMore.Pure := Wrt.wordsMore
  obtain ⟨k, hk⟩ := P x0 x1 x2 hG0 hG1 hG2
  refine (backstitchkeep3_WordsMore.calls (k := k) (w := W) (h := hk) (hr0_2 := g0_2) (hc0_2 := l0_2) (hr0_3 := g0_3) (hc0_3 := l0_3) (hr2_6 := g2_6) (hc2_6 := l2_6) (hr2_7 := g2_7) (hc2_7 := l2_7)).mono fun e W' ⟨he, bel0⟩ => ?_
  have bel : Below W.heap.size W W' := by first | exact bel0 | exact bel0.below
  subst he
  exact ⟨_, rfl, _, _, _, [], _, [], hW', trodAll_mk1 (shut_bool Try.underlying4 _), (trodAll_cons_mk (Below.trod laidOut (by kernel_rfl) (of_decide_eq_true (by kernel_rfl)) k0 bel lt0) (trodAll_cons_mk (Below.trod laidOut (by kernel_rfl) (of_decide_eq_true (by kernel_rfl)) k1 bel lt1) (trodAll_cons_mk (Below.trod laidOut (by kernel_rfl) (of_decide_eq_true (by kernel_rfl)) k2 bel lt2) trodAll_mk0))), rfl, bel.frame _, fun h => by cases h⟩
theorem over : Rows.wordsMoreRow.holds Try.pinned (OpenSpec.ofChange Rows.wordsMoreSpec) :=
  OpenClaim.holds_of_wide 3 Try.f3 rfl rfl rfl rfl rfl rfl rfl ⟨rfl, rfl, rfl, rfl, rfl⟩ rfl rfl rfl rfl rfl (by kernel_rfl) Try.func3 (by kernel_rfl)
    (of_decide_eq_true (by kernel_rfl)) (by unfold Func.isWrapper; first | (rw [if_pos (by decide +kernel)]; kernel_rfl) | (rw [if_neg (by decide +kernel)]; exact ⟨rfl, rfl⟩))
    (fun os started H enc _ => lifted os started H enc)
theorem proved : Rows.WordsMoreSaid := over
#print axioms proved
end Go.Proofs.Ytkefekdphkclmaa.wordsMore
namespace Go.Proofs.Ytkefekdphkclmaa
theorem wordsMore_holds : Rows.WordsMoreSaid := wordsMore.proved
end Go.Proofs.Ytkefekdphkclmaa
