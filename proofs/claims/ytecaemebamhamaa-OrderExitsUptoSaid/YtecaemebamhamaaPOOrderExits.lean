/- The law function OrderExits: what it answers. -/
import Derived.Test.YtecaemebamhamaaOrEx
set_option linter.unusedVariables false
set_option linter.unusedSimpArgs false
namespace Go.Proofs.Ytecaemebamhamaa.PO
open Go.RowKit Go.Proofs.YtecaemebamhamaaW.PrintWords Go.Proofs.YtecaemebamhamaaW.PrintLast Go.Proofs.YtecaemebamhamaaW.PrintMore Go.Proofs.Ytecaemebamhamaa.Hnd Go.Proofs.Ytecaemebamhamaa.Lv
open Classical in
noncomputable def backstitchkeep3_OrderExits.f (k : Nat) (a0_0 a0_1 a0_2 a0_3 : Int) (l0_4 : List S37) (l0_5 : List S27) (a0_6 a0_7 : Int) (l0_8 : List S126) (l0_9 : List S118) (a0_10 a0_11 : Int) (l0_12 : List S126) (l0_13 : List S118) : Option Bool := if CSz (⟨a0_0, a0_1, a0_2, a0_3, l0_4, l0_5, ⟨a0_6, a0_7, l0_8, l0_9⟩, ⟨a0_10, a0_11, l0_12, l0_13⟩⟩ : S29) then some true else none
theorem backstitchkeep3_OrderExits.calls (k : Nat) (a0_0 a0_1 a0_2 a0_3 : Int) (A0_4 : Option Addr) (c0_4 : Nat) (l0_4 : List S37) (A0_5 : Option Addr) (c0_5 : Nat) (l0_5 : List S27) (a0_6 a0_7 : Int) (A0_8 : Option Addr) (c0_8 : Nat) (l0_8 : List S126) (A0_9 : Option Addr) (c0_9 : Nat) (l0_9 : List S118) (a0_10 a0_11 : Int) (A0_12 : Option Addr) (c0_12 : Nat) (l0_12 : List S126) (A0_13 : Option Addr) (c0_13 : Nat) (l0_13 : List S118) (r : Bool) (w : World) (hr0_4 : Kd.C k37 w A0_4 l0_4.length l0_4) (hc0_4 : l0_4.length ≤ c0_4) (hr0_5 : Kd.C k27 w A0_5 l0_5.length l0_5) (hc0_5 : l0_5.length ≤ c0_5) (hr0_8 : Kd.C k126 w A0_8 l0_8.length l0_8) (hc0_8 : l0_8.length ≤ c0_8) (hr0_9 : Kd.C k118 w A0_9 l0_9.length l0_9) (hc0_9 : l0_9.length ≤ c0_9) (hr0_12 : Kd.C k126 w A0_12 l0_12.length l0_12) (hc0_12 : l0_12.length ≤ c0_12) (hr0_13 : Kd.C k118 w A0_13 l0_13.length l0_13) (hc0_13 : l0_13.length ≤ c0_13)
    (h : backstitchkeep3_OrderExits.f k a0_0 a0_1 a0_2 a0_3 l0_4 l0_5 a0_6 a0_7 l0_8 l0_9 a0_10 a0_11 l0_12 l0_13 = some r) :
    Calls Try.prog 3 #[.agg #[.int .i64 a0_0, .int .i64 a0_1, .int .i64 a0_2, .int .i64 a0_3, .slice A0_4 l0_4.length c0_4, .slice A0_5 l0_5.length c0_5, .int .i64 a0_6, .int .i64 a0_7, .slice A0_8 l0_8.length c0_8, .slice A0_9 l0_9.length c0_9, .int .i64 a0_10, .int .i64 a0_11, .slice A0_12 l0_12.length c0_12, .slice A0_13 l0_13.length c0_13]] w fun e w' => e = .returned (.bool r) ∧ Below w.heap.size w w' := by
  unfold backstitchkeep3_OrderExits.f at h
  have hok : CSz (⟨a0_0, a0_1, a0_2, a0_3, l0_4, l0_5, ⟨a0_6, a0_7, l0_8, l0_9⟩, ⟨a0_10, a0_11, l0_12, l0_13⟩⟩ : S29) := by
    by_cases hx : CSz (⟨a0_0, a0_1, a0_2, a0_3, l0_4, l0_5, ⟨a0_6, a0_7, l0_8, l0_9⟩, ⟨a0_10, a0_11, l0_12, l0_13⟩⟩ : S29)
    · exact hx
    · rw [if_neg hx] at h; exact absurd h (by simp)
  rw [if_pos hok] at h
  obtain rfl := Option.some.inj h
  exact exits_calls w (⟨a0_0, a0_1, a0_2, a0_3, l0_4, l0_5, ⟨a0_6, a0_7, l0_8, l0_9⟩, ⟨a0_10, a0_11, l0_12, l0_13⟩⟩ : S29) ⟨hr0_4, hc0_4, hr0_5, hc0_5, hr0_8, hc0_8, hr0_9, hc0_9, hr0_12, hc0_12, hr0_13, hc0_13⟩ hok
end Go.Proofs.Ytecaemebamhamaa.PO
