/- The law function LiveLast: what it answers. -/
import Derived.Test.YtchcbncelckgeaaLvLa
set_option linter.unusedVariables false
set_option linter.unusedSimpArgs false
namespace Go.Proofs.Ytchcbncelckgeaa.PZ
open Go.RowKit Go.Proofs.YtchcbncelckgeaaW.PrintWords Go.Proofs.YtchcbncelckgeaaW.PrintLast Go.Proofs.YtchcbncelckgeaaW.PrintMore Go.Proofs.Ytchcbncelckgeaa.Hnd Go.Proofs.Ytchcbncelckgeaa.Lv
open Classical in
noncomputable def backstitchkeep3_LiveLast.f (k : Nat) (a0_0 a0_1 a0_2 : Int) (l0_3 : List S103) (l0_4 : List S31) (a0_5 a0_6 : Int) (l0_7 : List S34) (l0_8 : List S46) (a0_9 a0_10 : Int) (l0_11 : List S34) (l0_12 : List S46) : Option Bool := if TSz (⟨a0_0, a0_1, a0_2, l0_3, l0_4, ⟨a0_5, a0_6, l0_7, l0_8⟩, ⟨a0_9, a0_10, l0_11, l0_12⟩⟩ : S97) then some true else none
theorem backstitchkeep3_LiveLast.calls (k : Nat) (a0_0 a0_1 a0_2 : Int) (A0_3 : Option Addr) (c0_3 : Nat) (l0_3 : List S103) (A0_4 : Option Addr) (c0_4 : Nat) (l0_4 : List S31) (a0_5 a0_6 : Int) (A0_7 : Option Addr) (c0_7 : Nat) (l0_7 : List S34) (A0_8 : Option Addr) (c0_8 : Nat) (l0_8 : List S46) (a0_9 a0_10 : Int) (A0_11 : Option Addr) (c0_11 : Nat) (l0_11 : List S34) (A0_12 : Option Addr) (c0_12 : Nat) (l0_12 : List S46) (r : Bool) (w : World) (hr0_3 : Kd.C k103 w A0_3 l0_3.length l0_3) (hc0_3 : l0_3.length ≤ c0_3) (hr0_4 : Kd.C k31 w A0_4 l0_4.length l0_4) (hc0_4 : l0_4.length ≤ c0_4) (hr0_7 : Kd.C k34 w A0_7 l0_7.length l0_7) (hc0_7 : l0_7.length ≤ c0_7) (hr0_8 : Kd.C k46 w A0_8 l0_8.length l0_8) (hc0_8 : l0_8.length ≤ c0_8) (hr0_11 : Kd.C k34 w A0_11 l0_11.length l0_11) (hc0_11 : l0_11.length ≤ c0_11) (hr0_12 : Kd.C k46 w A0_12 l0_12.length l0_12) (hc0_12 : l0_12.length ≤ c0_12)
    (h : backstitchkeep3_LiveLast.f k a0_0 a0_1 a0_2 l0_3 l0_4 a0_5 a0_6 l0_7 l0_8 a0_9 a0_10 l0_11 l0_12 = some r) :
    Calls Try.prog 14 #[.agg #[.int .i64 a0_0, .int .i64 a0_1, .int .i64 a0_2, .slice A0_3 l0_3.length c0_3, .slice A0_4 l0_4.length c0_4, .int .i64 a0_5, .int .i64 a0_6, .slice A0_7 l0_7.length c0_7, .slice A0_8 l0_8.length c0_8, .int .i64 a0_9, .int .i64 a0_10, .slice A0_11 l0_11.length c0_11, .slice A0_12 l0_12.length c0_12]] w fun e w' => e = .returned (.bool r) ∧ Below w.heap.size w w' := by
  unfold backstitchkeep3_LiveLast.f at h
  have hok : TSz (⟨a0_0, a0_1, a0_2, l0_3, l0_4, ⟨a0_5, a0_6, l0_7, l0_8⟩, ⟨a0_9, a0_10, l0_11, l0_12⟩⟩ : S97) := by
    by_cases hx : TSz (⟨a0_0, a0_1, a0_2, l0_3, l0_4, ⟨a0_5, a0_6, l0_7, l0_8⟩, ⟨a0_9, a0_10, l0_11, l0_12⟩⟩ : S97)
    · exact hx
    · rw [if_neg hx] at h; exact absurd h (by simp)
  rw [if_pos hok] at h
  obtain rfl := Option.some.inj h
  exact last_calls w (⟨a0_0, a0_1, a0_2, l0_3, l0_4, ⟨a0_5, a0_6, l0_7, l0_8⟩, ⟨a0_9, a0_10, l0_11, l0_12⟩⟩ : S97) ⟨hr0_3, hc0_3, hr0_4, hc0_4, hr0_7, hc0_7, hr0_8, hc0_8, hr0_11, hc0_11, hr0_12, hc0_12⟩ hok
end Go.Proofs.Ytchcbncelckgeaa.PZ
