-- Printed (pr.sh).
import Derived.Test.YtoleplbmkdhgeaaPQ0
namespace Go.Proofs.Ytoleplbmkdhgeaa.PQ
open Go.RowKit Go.Proofs.YtoleplbmkdhgeaaW.PrintWords Go.Proofs.YtoleplbmkdhgeaaW.PrintLast Go.Proofs.YtoleplbmkdhgeaaW.PrintMore
attribute [local go_sem] max2_int min2_int max_two min_two max_three min_three max_four min_four   -- for this text's walks alone
set_option linter.unusedVariables false
set_option linter.unusedSimpArgs false

/-! ### backstitchref3_Tag: function 61 (proved by hand) -/
def backstitchref3_Tag.f (a0 : Int) : Option (Int) := if a0 = 0 then some 65529 else if a0 = 1 then some 65530 else if a0 = 2 then some 65531 else if a0 = 3 then some 0 else if a0 = 4 then some 65532 else if a0 = 5 then some 65533 else if a0 = 6 then some 65534 else none
set_option maxHeartbeats 8000000 in
set_option maxRecDepth 100000 in
theorem backstitchref3_Tag.calls (a0 : Int) (r : Int) (w : World) (h : backstitchref3_Tag.f a0 = some r) :
    Calls Try.prog 61 #[.int .i64 a0] w fun e w' => e = .returned (.int .u64 r) ∧ Drawn0 w w' := by
  unfold backstitchref3_Tag.f at h
  have hq : 0 ≤ a0 ∧ a0 ≤ 6 := by
    repeat' split at h
    all_goals first | omega | (cases h; done)
  have i0 : ∀ W : World, (Instr.index 117 (.agg #[.int .u64 65529, .int .u64 65530, .int .u64 65531, .int .u64 0, .int .u64 65532, .int .u64 65533, .int .u64 65534]) (.int .i64 0)).run Try.prog W = .ok (.int .u64 65529) W := fun _ => by kernel_rfl
  have i1 : ∀ W : World, (Instr.index 117 (.agg #[.int .u64 65529, .int .u64 65530, .int .u64 65531, .int .u64 0, .int .u64 65532, .int .u64 65533, .int .u64 65534]) (.int .i64 1)).run Try.prog W = .ok (.int .u64 65530) W := fun _ => by kernel_rfl
  have i2 : ∀ W : World, (Instr.index 117 (.agg #[.int .u64 65529, .int .u64 65530, .int .u64 65531, .int .u64 0, .int .u64 65532, .int .u64 65533, .int .u64 65534]) (.int .i64 2)).run Try.prog W = .ok (.int .u64 65531) W := fun _ => by kernel_rfl
  have i3 : ∀ W : World, (Instr.index 117 (.agg #[.int .u64 65529, .int .u64 65530, .int .u64 65531, .int .u64 0, .int .u64 65532, .int .u64 65533, .int .u64 65534]) (.int .i64 3)).run Try.prog W = .ok (.int .u64 0) W := fun _ => by kernel_rfl
  have i4 : ∀ W : World, (Instr.index 117 (.agg #[.int .u64 65529, .int .u64 65530, .int .u64 65531, .int .u64 0, .int .u64 65532, .int .u64 65533, .int .u64 65534]) (.int .i64 4)).run Try.prog W = .ok (.int .u64 65532) W := fun _ => by kernel_rfl
  have i5 : ∀ W : World, (Instr.index 117 (.agg #[.int .u64 65529, .int .u64 65530, .int .u64 65531, .int .u64 0, .int .u64 65532, .int .u64 65533, .int .u64 65534]) (.int .i64 5)).run Try.prog W = .ok (.int .u64 65533) W := fun _ => by kernel_rfl
  have i6 : ∀ W : World, (Instr.index 117 (.agg #[.int .u64 65529, .int .u64 65530, .int .u64 65531, .int .u64 0, .int .u64 65532, .int .u64 65533, .int .u64 65534]) (.int .i64 6)).run Try.prog W = .ok (.int .u64 65534) W := fun _ => by kernel_rfl
  have hi : ∀ W : World, (Instr.index 117 (.agg #[.int .u64 65529, .int .u64 65530, .int .u64 65531, .int .u64 0, .int .u64 65532, .int .u64 65533, .int .u64 65534]) (.int .i64 a0)).run Try.prog W = .ok (.int .u64 r) W := by
    intro W
    have hc : a0 = 0 ∨ a0 = 1 ∨ a0 = 2 ∨ a0 = 3 ∨ a0 = 4 ∨ a0 = 5 ∨ a0 = 6 := by omega
    rcases hc with rfl | rfl | rfl | rfl | rfl | rfl | rfl <;> (simp at h; subst h; with_reducible first | exact i0 W | exact i1 W | exact i2 W | exact i3 W | exact i4 W | exact i5 W | exact i6 W)
  clear i0 i1 i2 i3 i4 i5 i6
  go_enter Try.func61, Try.ntmps61
  go_wp2
  go_ret
  exact ⟨rfl, by repeat (first | exact Drawn0.refl _ | apply Drawn0.step)⟩

end Go.Proofs.Ytoleplbmkdhgeaa.PQ
