/- The law LeaveSets over the printed functions: plain lists, no program. -/
import Derived.Test.YtchcbncelckgeaaLeavePure
import Derived.Test.YtchcbncelckgeaaStmLeaveSets
set_option linter.unusedVariables false
set_option linter.unusedSimpArgs false
namespace Go.Proofs.Ytchcbncelckgeaa.LeaveP
open Go.RowKit Go.Proofs.YtchcbncelckgeaaW.PrintWords Go.Proofs.Ytchcbncelckgeaa.Opn Go.Proofs.Ytchcbncelckgeaa.PL

/-- No two set one register. -/
def Apart (l : List S34) : Prop := ∀ i j (hi : i < l.length) (hj : j < l.length), j < i → l[j].f0 ≠ l[i].f0
theorem fr_reverse (vals : List S23) (a0 a2 a3 a4 a5 at_ : Int) (l : List S34) (regs : List S23) (tries : List S111) (h : Apart l) :
    fr vals a0 a2 a3 a4 a5 at_ l.reverse regs tries = fr vals a0 a2 a3 a4 a5 at_ l regs tries := by
  unfold fr
  rw [List.all_reverse]
  by_cases ha : l.all (may vals regs.length) = true
  · rw [if_pos ha, if_pos ha]
    congr 7
    refine List.Perm.foldl_eq' (List.reverse_perm l) ?_ regs
    intro x hx y hy z
    rw [List.mem_reverse] at hx hy
    obtain ⟨i, hi, rfl⟩ := List.getElem_of_mem hx
    obtain ⟨j, hj, rfl⟩ := List.getElem_of_mem hy
    have hmi := List.all_eq_true.1 ha _ hx
    have hmj := List.all_eq_true.1 ha _ hy
    simp only [may, Bool.and_eq_true, decide_eq_true_eq] at hmi hmj
    unfold doset
    by_cases hij : i = j
    · subst hij; rfl
    · have hne : l[i].f0 ≠ l[j].f0 := by
        rcases Nat.lt_or_gt_of_ne hij with hlt | hlt
        · exact h j i hj hi hlt
        · exact (h i j hi hj hlt).symm
      rw [List.set_comm]
      omega
  · rw [if_neg ha, if_neg ha]

section
variable (vals : List S23) (l : List S34) (a0 a1 a2 a3 a4 a5 at_ st : Int) (regs : List S23) (tries : List S111) (mk : List S46)
  (hr : regs.length * 16 ≤ 140737488351232) (ht : tries.length * 16 ≤ 140737488351232) (hl : l.length * 16 ≤ 140737488351232)
include hr ht hl
theorem last_round (hA : Apart l) (k : Nat) (hk : regs.length + tries.length + l.length + 8 ≤ k) :
    backstitchkeep3_LeaveSets.l0 k vals l.reverse (-1) a0 a1 a2 a3 a4 a5 regs tries at_ st l mk = some true := by
  obtain ⟨k, rfl⟩ : ∃ m, k = m + 1 := ⟨k - 1, by omega⟩
  simp only [backstitchkeep3_LeaveSets.l0]
  rw [if_neg (by omega), frame_f k _ _ _ _ _ _ _ _ _ _ _ _ _ hr ht (by omega) (by omega), frame_f k _ _ _ _ _ _ _ _ _ _ l.reverse _ _ hr ht (by simp; omega) (by simp; omega), leftBy_f k (by omega), fr_reverse vals _ _ _ _ _ _ l regs tries hA]
  simp only [Option.bind_some, if_true]
  unfold fr
  by_cases ha : l.all (may vals regs.length) = true
  · rw [if_pos ha]
    have hlen := fold_length vals l regs
    dsimp only
    rw [same_frame k _ _ _ _ _ _ _ _ (by omega) (by omega) (by omega)]
    rfl
  · rw [if_neg ha, same_frame k _ _ _ _ _ _ _ _ (by simp) (by simp) (by simp; omega)]
    rfl
theorem rounds (c : Nat) : c ≤ l.length → (∀ i j (hi : i < l.length) (hj : j < l.length), c ≤ i → j < i → l[j].f0 ≠ l[i].f0) → ∀ k, regs.length + tries.length + l.length + 8 + c * (c + 3) ≤ k →
    backstitchkeep3_LeaveSets.l0 k vals (l.drop c).reverse ((c : Int) - 1) a0 a1 a2 a3 a4 a5 regs tries at_ st l mk = some true := by
  induction c with
  | zero =>
    intro _ hA k hk
    exact last_round vals l a0 a1 a2 a3 a4 a5 at_ st regs tries mk hr ht hl (fun i j hi hj => hA i j hi hj (by omega)) k (by omega)
  | succ c ih =>
    intro hc hA k hk
    have hlt : c < l.length := by omega
    have hcc : (c + 1) * (c + 1 + 3) = c * (c + 3) + 2 * c + 4 := by
      have e1 : (c + 1) * (c + 1 + 3) = (c + 1) * c + (c + 1) * 4 := Nat.mul_add (c + 1) c 4
      have e2 : (c + 1) * c = c * c + c := Nat.succ_mul c c
      have e3 : c * (c + 3) = c * c + c * 3 := Nat.mul_add c c 3
      omega
    obtain ⟨k, rfl⟩ : ∃ m, k = m + 1 := ⟨k - 1, by omega⟩
    simp only [backstitchkeep3_LeaveSets.l0]
    rw [if_pos (by omega)]
    have e1 : ((c + 1 : Nat) : Int) - 1 = (c : Int) := by omega
    rw [e1]
    -- the inner rounds
    have inner : ∀ (d j k : Nat), c - j = d → j ≤ c → (∀ q (hq : q < l.length), q < j → l[q].f0 ≠ l[c].f0) → regs.length + tries.length + l.length + 8 + c * (c + 3) + d + 1 ≤ k →
        backstitchkeep3_LeaveSets.l1 k vals (l.drop (c + 1)).reverse (c : Int) (c : Int) (j : Int) a0 a1 a2 a3 a4 a5 regs tries at_ st l mk = some true := by
      intro d
      induction d with
      | zero =>
        intro j k hd hj hq hk
        obtain rfl : j = c := by omega
        obtain ⟨k, rfl⟩ : ∃ m, k = m + 1 := ⟨k - 1, by omega⟩
        simp only [backstitchkeep3_LeaveSets.l1]
        rw [if_neg (by omega), if_pos (by omega), if_pos (by omega), if_pos (by simp; omega), rdT34 l j hlt, wrap_down (j : Int) (by omega) (by omega)]
        have := ih (by omega) (fun i q hi hq' hci hqi => by
          rcases Nat.eq_or_lt_of_le hci with h | h
          · subst h; exact hq q hq' hqi
          · exact hA i q hi hq' h hqi) k (by omega)
        rw [List.drop_eq_getElem_cons hlt, List.reverse_cons] at this
        exact this
      | succ d ihd =>
        intro j k hd hj hq hk
        obtain ⟨k, rfl⟩ : ∃ m, k = m + 1 := ⟨k - 1, by omega⟩
        have hjl : j < l.length := by omega
        simp only [backstitchkeep3_LeaveSets.l1]
        rw [if_pos (by omega), if_pos (by omega), if_pos (by omega), if_pos (by omega), if_pos (by omega), rdT34 l j hjl, rdT34 l c hlt]
        by_cases he : l[j].f0 = l[c].f0
        · rw [if_pos he, leftBy_f k (by omega)]; rfl
        · rw [if_neg he, wrap_up (j : Int) (by omega) (by omega)]
          have := ihd (j + 1) k (by omega) (by omega) (fun q hq' hqj => by
            rcases Nat.eq_or_lt_of_le (Nat.le_of_lt_succ hqj) with h | h
            · subst h; exact he
            · exact hq q hq' h) (by omega)
          rw [show ((j + 1 : Nat) : Int) = (j : Int) + 1 from by omega] at this
          exact this
    exact inner c 0 k (by omega) (by omega) (fun q _ h => by omega) (by omega)
end
theorem leaveSets : LeaveSetsS.LeaveSets.Pure := by
  intro x0 x1 x2 h0 h1 h2
  obtain ⟨_, _, _, _, _, hr, ht⟩ := h0
  obtain ⟨_, _, hl, _⟩ := h1
  refine ⟨x0.f5.length + x0.f6.length + x1.f2.length + 8 + x1.f2.length * (x1.f2.length + 3), ?_⟩
  unfold backstitchkeep3_LeaveSets.f
  rw [leftBy_f _ (by omega)]
  simp only [Option.bind_some, if_true]
  have := rounds x2 x1.f2 x0.f0 x0.f1 x0.f2 x0.f3 x0.f4.f0 x0.f4.f1 x1.f0 x1.f1 x0.f5 x0.f6 x1.f3 hr.1 ht.1 hl.1 x1.f2.length (Nat.le_refl _) (fun i j hi hj h => by omega) _ (Nat.le_refl _)
  have hb := hl.1
  rw [List.drop_length, List.reverse_nil] at this
  rw [wrap_down _ (by omega) (by omega)]
  exact this
end Go.Proofs.Ytchcbncelckgeaa.LeaveP
