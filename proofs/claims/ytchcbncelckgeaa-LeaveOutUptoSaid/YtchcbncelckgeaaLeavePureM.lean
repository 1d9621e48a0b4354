/- Leaving by an exit, in plain lists: what the printed functions of package leave compute. -/
import Derived.Test.YtchcbncelckgeaaPM6
import Derived.Test.YtchcbncelckgeaaPM6
set_option linter.unusedVariables false
set_option linter.unusedSimpArgs false
namespace Go.Proofs.Ytchcbncelckgeaa.LeavePM
open Go.RowKit Go.Proofs.YtchcbncelckgeaaW.PrintWords Go.Proofs.Ytchcbncelckgeaa.PM

theorem wrap_up (i : Int) (h0 : -4611686018427387904 ≤ i) (h : i ≤ 4611686018427387904) : wrap64 (i + 1) = i + 1 := by unfold wrap64; omega
theorem wrap_down (i : Int) (h0 : -4611686018427387904 ≤ i) (h : i ≤ 4611686018427387904) : wrap64 (i - 1) = i - 1 := by unfold wrap64; omega
theorem raise {α : Type} {f : Nat → Option α} (h : ∀ k, LeO (f k) (f (k + 1))) {k m : Nat} (hkm : k ≤ m) {r : α} (hr : f k = some r) : f m = some r := by
  induction hkm with
  | refl => exact hr
  | step _ ih => exact h _ _ ih

theorem told_one (k : Nat) (v : Int) (vals : List S23) (hk : 2 ≤ k) : leave_told.f k [v] vals = some (if v < 0 ∨ v ≥ (vals.length : Int) then ([], false) else ([rd_T23 vals v], true)) := by
  obtain ⟨k, rfl⟩ : ∃ m, k = m + 2 := ⟨k - 2, by omega⟩
  unfold leave_told.f
  have e : rd [v] 0 = v := rfl
  simp only [leave_told.l0, List.length_singleton, e]
  rw [if_pos (by decide), if_pos (by decide), if_pos (by decide)]
  by_cases h1 : v < 0
  · rw [if_pos h1, if_pos (.inl h1)]
  · rw [if_neg h1]
    by_cases h2 : v ≥ (vals.length : Int)
    · rw [if_pos h2, if_pos (.inr h2)]
    · have hno : ¬ (v < 0 ∨ v ≥ (vals.length : Int)) := by omega
      rw [if_neg hno, if_neg h2, if_pos (show 0 ≤ v by omega), if_pos (show v < (vals.length : Int) by omega), if_pos (show ([] : List S23).length < 8796093022208 by decide)]
      have e2 : wrap64 (0 + 1) = 1 := by unfold wrap64; omega
      rw [e2]
      simp
/-- May a set be done? -/
def may (vals : List S23) (n : Nat) (s : S34) : Bool := decide (0 ≤ s.f1) && decide (s.f1 < vals.length) && decide (0 ≤ s.f0) && decide (s.f0 < n)
def doset (vals : List S23) (regs : List S23) (s : S34) : List S23 := regs.set s.f0.toNat (rd_T23 vals s.f1)
theorem doset_length (vals regs : List S23) (s : S34) : (doset vals regs s).length = regs.length := by simp [doset]
theorem fold_length (vals : List S23) : ∀ (l : List S34) (regs : List S23), (l.foldl (doset vals) regs).length = regs.length
  | [], _ => rfl
  | s :: l, regs => by rw [List.foldl_cons, fold_length vals l, doset_length]
abbrev Fr := Int × Int × Int × Int × Int × Int × List S23 × List S111 × Int
/-- The frame behind an exit. -/
def fr (vals : List S23) (a0 a2 a3 a4 a5 : Int) (at_ : Int) (l : List S34) (regs : List S23) (tries : List S111) : Fr :=
  if l.all (may vals regs.length) = true then (a0, at_, a2, a3, a4, a5, l.foldl (doset vals) regs, tries, 0) else (0, 0, 0, 0, 0, 0, [], [], 3)
theorem rdT34 (l : List S34) (i : Nat) (h : i < l.length) : rd_T34 l (i : Int) = l[i] := by
  unfold rd_T34
  simp [List.getD_eq_getElem?_getD, h]
theorem frame_l0 (vals : List S23) (l : List S34) (hl : l.length ≤ 4611686018427387904) (a0 a1 a2 a3 a4 a5 at_ st : Int) (tries : List S111) (mk : List S46) (ss : List S34) : ∀ (d i k : Nat) (regs : List S23), l.length - i = d → i ≤ l.length → d + 3 ≤ k →
    leave_Frame.l0 k vals l (l.length : Int) (i : Int) a0 a1 a2 a3 a4 a5 regs tries at_ st ss mk = some (fr vals a0 a2 a3 a4 a5 at_ (l.drop i) regs tries) := by
  intro d
  induction d with
  | zero =>
    intro i k regs hd hi hk
    obtain ⟨k, rfl⟩ : ∃ m, k = m + 1 := ⟨k - 1, by omega⟩
    simp only [leave_Frame.l0]
    rw [if_neg (by omega), List.drop_eq_nil_of_le (by omega)]
    rfl
  | succ d ih =>
    intro i k regs hd hi hk
    obtain ⟨k, rfl⟩ : ∃ m, k = m + 1 := ⟨k - 1, by omega⟩
    have hlt : i < l.length := by omega
    simp only [leave_Frame.l0]
    rw [if_pos (by omega), if_pos (by omega), if_pos (by omega), told_one k _ vals (by omega), rdT34 l i hlt, List.drop_eq_getElem_cons hlt]
    simp only [Option.bind_some]
    by_cases h1 : l[i].f1 < 0 ∨ l[i].f1 ≥ (vals.length : Int)
    · rw [if_pos h1, if_neg (by simp)]
      unfold fr
      rw [if_neg (by simp only [List.all_cons, may]; simp; intro _ _; omega)]
    · rw [if_neg h1, if_pos rfl]
      by_cases h2 : l[i].f0 < 0
      · rw [if_pos h2]
        unfold fr
        rw [if_neg (by simp only [List.all_cons, may]; simp; intro _ _ _; omega)]
      · rw [if_neg h2]
        by_cases h3 : l[i].f0 ≥ (regs.length : Int)
        · rw [if_pos h3]
          unfold fr
          rw [if_neg (by simp only [List.all_cons, may]; simp; intro _ _ _ _; omega)]
        · rw [if_neg h3, if_pos (by simp), if_pos (by omega), if_pos (by omega)]
          have e1 : (regs.set (l[i].f0 : Int).toNat (⟨(rd_T23 [rd_T23 vals l[i].f1] 0).f0, (rd_T23 [rd_T23 vals l[i].f1] 0).f1⟩ : S23)) = doset vals regs l[i] := rfl
          rw [wrap_up (i : Int) (by omega) (by omega)]
          have := ih (i + 1) k (doset vals regs l[i]) (by omega) (by omega) (by omega)
          rw [show ((i + 1 : Nat) : Int) = (i : Int) + 1 from by omega] at this
          rw [e1, this]
          unfold fr
          rw [doset_length, List.foldl_cons, List.all_cons]
          have hm : may vals regs.length l[i] = true := by
            simp only [may, Bool.and_eq_true, decide_eq_true_eq]; omega
          rw [hm, Bool.true_and]
theorem clone_vals (l : List S23) (h : l.length * 16 ≤ 140737488351232) : api_Val_40.f l = some l := by
  unfold api_Val_40.f
  simp only [Option.bind_some, List.length_nil, List.nil_append]
  rw [if_pos (by omega)]
theorem clone_tries (l : List S111) (h : l.length * 16 ≤ 140737488351232) : api_Try_41.f l = some l := by
  unfold api_Try_41.f
  simp only [Option.bind_some, List.length_nil, List.nil_append]
  rw [if_pos (by omega)]
theorem frame_f (k : Nat) (a0 a1 a2 a3 a4 a5 : Int) (regs : List S23) (tries : List S111) (at_ st : Int) (l : List S34) (mk : List S46) (vals : List S23) (h1 : regs.length * 16 ≤ 140737488351232) (h2 : tries.length * 16 ≤ 140737488351232) (hl : l.length ≤ 4611686018427387904) (hk : l.length + 3 ≤ k) :
    leave_Frame.f k a0 a1 a2 a3 a4 a5 regs tries at_ st l mk vals = some (fr vals a0 a2 a3 a4 a5 at_ l regs tries) := by
  unfold leave_Frame.f
  rw [clone_vals regs h1, clone_tries tries h2]
  simp only [Option.bind_some]
  exact frame_l0 vals l hl a0 a1 a2 a3 a4 a5 at_ st tries mk l l.length 0 k regs rfl (by omega) hk
theorem leftBy_f (k : Nat) (hk : 4 ≤ k) : backstitchkeep3_leftBy.f k = some true := by
  unfold backstitchkeep3_leftBy.f
  rw [frame_f k _ _ _ _ _ _ _ _ _ _ _ _ _ (by decide) (by decide) (by decide) (by simpa using hk)]
  decide
/-- Lists that are one are said to be. -/
theorem eq_vals (l : List S23) (hl : l.length ≤ 4611686018427387904) : ∀ (d i k : Nat), l.length - i = d → i ≤ l.length → d < k → api_Val_22.l0 k l l (l.length : Int) (i : Int) = some true := by
  intro d
  induction d with
  | zero =>
    intro i k hd hi hk
    obtain ⟨k, rfl⟩ : ∃ m, k = m + 1 := ⟨k - 1, by omega⟩
    simp only [api_Val_22.l0]
    rw [if_neg (by omega)]
  | succ d ih =>
    intro i k hd hi hk
    obtain ⟨k, rfl⟩ : ∃ m, k = m + 1 := ⟨k - 1, by omega⟩
    simp only [api_Val_22.l0]
    rw [if_pos (by omega), if_pos (by omega), if_pos (by omega), if_pos (by omega), if_neg (by simp), wrap_up (i : Int) (by omega) (by omega)]
    have := ih (i + 1) k (by omega) (by omega) (by omega)
    rw [show ((i + 1 : Nat) : Int) = (i : Int) + 1 from by omega] at this
    exact this
theorem eq_tries (l : List S111) (hl : l.length ≤ 4611686018427387904) : ∀ (d i k : Nat), l.length - i = d → i ≤ l.length → d < k → api_Try_43.l0 k l l (l.length : Int) (i : Int) = some true := by
  intro d
  induction d with
  | zero =>
    intro i k hd hi hk
    obtain ⟨k, rfl⟩ : ∃ m, k = m + 1 := ⟨k - 1, by omega⟩
    simp only [api_Try_43.l0]
    rw [if_neg (by omega)]
  | succ d ih =>
    intro i k hd hi hk
    obtain ⟨k, rfl⟩ : ∃ m, k = m + 1 := ⟨k - 1, by omega⟩
    simp only [api_Try_43.l0]
    rw [if_pos (by omega), if_pos (by omega), if_pos (by omega), if_pos (by omega), if_neg (by simp), wrap_up (i : Int) (by omega) (by omega)]
    have := ih (i + 1) k (by omega) (by omega) (by omega)
    rw [show ((i + 1 : Nat) : Int) = (i : Int) + 1 from by omega] at this
    exact this
theorem same_frame (k : Nat) (a0 a1 a2 a3 a4 a5 : Int) (regs : List S23) (tries : List S111) (h1 : regs.length ≤ 4611686018427387904) (h2 : tries.length ≤ 4611686018427387904) (hk : regs.length + tries.length < k) :
    backstitchkeep3_sameFrame.f k a0 a1 a2 a3 a4 a5 regs tries a0 a1 a2 a3 a4 a5 regs tries = some true := by
  unfold backstitchkeep3_sameFrame.f
  have e1 : api_Val_22.f k regs regs = some true := by
    unfold api_Val_22.f; rw [if_pos rfl]; exact eq_vals regs h1 regs.length 0 k rfl (by omega) (by omega)
  have e2 : api_Try_43.f k tries tries = some true := by
    unfold api_Try_43.f; rw [if_pos rfl]; exact eq_tries tries h2 tries.length 0 k rfl (by omega) (by omega)
  rw [e1, e2]
  simp
end Go.Proofs.Ytchcbncelckgeaa.LeavePM
