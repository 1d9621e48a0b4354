/- What is reached: the least set that has the roots, and what its things have. Plain lists, no pairs. -/
import Derived.Test.YtoleplbmkdhgeaaReach
set_option linter.unusedVariables false
set_option linter.unusedSimpArgs false
namespace Go.Proofs.Ytoleplbmkdhgeaa.Rch
open Go.RowKit Go.Proofs.Ytoleplbmkdhgeaa.PN

inductive Lf (has : List (List Int)) (roots : List Int) : Int → Prop
  | root {n : Int} : n ∈ roots → Lf has roots n
  | has {n k : Int} : Lf has roots n → k ∈ has.getD n.toNat [] → Lf has roots k
/-- Seen. -/
def Sn (s : List Bool × List Int) (n : Int) : Prop := s.1.getD n.toNat false = true
theorem getD_true_false (l : List Bool) (i : Nat) (h : i < l.length) : l.getD i true = l.getD i false := by
  rw [List.getD_eq_getElem?_getD, List.getD_eq_getElem?_getD, List.getElem?_eq_getElem h]; rfl
section
variable {N : Nat}
theorem push_sn {s : List Bool × List Int} (hs : s.1.length = N) {n m : Int} (hn : 0 ≤ n ∧ n < (N : Int)) (hm : 0 ≤ m ∧ m < (N : Int)) : Sn (push s n) m ↔ Sn s m ∨ m = n := by
  unfold Sn push
  rw [getD_true_false _ _ (by omega)]
  by_cases h : s.1.getD n.toNat false = true
  · rw [if_pos h]
    exact ⟨.inl, fun h2 => h2.elim id (fun e => by rw [e]; exact h)⟩
  · rw [if_neg h]
    simp only
    by_cases e : m = n
    · subst e
      simp [List.getD_eq_getElem?_getD, show m.toNat < s.1.length from by omega]
    · have : n.toNat ≠ m.toNat := by omega
      simp [List.getD_eq_getElem?_getD, List.getElem?_set_ne this, e]
theorem push_todo {s : List Bool × List Int} {n m : Int} : m ∈ (push s n).2 → m ∈ s.2 ∨ m = n := by
  unfold push
  split
  · exact .inl
  · intro h; simpa using h
theorem push_todo_mono {s : List Bool × List Int} {n m : Int} (h : m ∈ s.2) : m ∈ (push s n).2 := by
  unfold push
  split
  · exact h
  · simp [h]
theorem push_new {s : List Bool × List Int} (hs : s.1.length = N) {n : Int} (hn : 0 ≤ n ∧ n < (N : Int)) : Sn s n ∨ n ∈ (push s n).2 := by
  unfold Sn push
  rw [getD_true_false _ _ (by omega)]
  by_cases h : s.1.getD n.toNat false = true
  · exact .inl h
  · rw [if_neg h]; exact .inr (by simp)
theorem reachL_sn (l : List Int) : ∀ {s : List Bool × List Int}, s.1.length = N → InR N l → ∀ {m : Int}, 0 ≤ m ∧ m < (N : Int) → (Sn (reachL s l) m ↔ Sn s m ∨ m ∈ l) := by
  induction l with
  | nil => intro s _ _ m _; simp [reachL]
  | cons x l ih =>
    intro s hs hl m hm
    rw [reachL, List.foldl_cons, ← reachL, ih (by rw [push_length]; exact hs) (fun y hy => hl y (by simp [hy])) hm, push_sn hs (hl x (by simp)) hm, List.mem_cons]
    exact ⟨fun h => h.elim (fun h => h.elim .inl (fun h => .inr (.inl h))) (fun h => .inr (.inr h)), fun h => h.elim (fun h => .inl (.inl h)) (fun h => h.elim (fun h => .inl (.inr h)) .inr)⟩
theorem reachL_todo_mono (l : List Int) : ∀ {s : List Bool × List Int} {m : Int}, m ∈ s.2 → m ∈ (reachL s l).2 := by
  induction l with
  | nil => intro s m h; exact h
  | cons x l ih => intro s m h; rw [reachL, List.foldl_cons, ← reachL]; exact ih (push_todo_mono h)
theorem reachL_todo (l : List Int) : ∀ {s : List Bool × List Int} {m : Int}, m ∈ (reachL s l).2 → m ∈ s.2 ∨ m ∈ l := by
  induction l with
  | nil => intro s m h; exact .inl h
  | cons x l ih =>
    intro s m h
    rw [reachL, List.foldl_cons, ← reachL] at h
    rcases ih h with h | h
    · rcases push_todo h with h | h
      · exact .inl h
      · exact .inr (by simp [h])
    · exact .inr (by simp [h])
theorem reachL_new (l : List Int) : ∀ {s : List Bool × List Int}, s.1.length = N → InR N l → ∀ {m : Int}, m ∈ l → Sn s m ∨ m ∈ (reachL s l).2 := by
  induction l with
  | nil => intro s _ _ m h; simp at h
  | cons x l ih =>
    intro s hs hl m h
    rw [reachL, List.foldl_cons, ← reachL]
    have hx := hl x (by simp)
    rcases List.mem_cons.1 h with rfl | h
    · rcases push_new hs hx with h | h
      · exact .inl h
      · exact .inr (reachL_todo_mono l h)
    · have hm := hl m (by simp [h])
      rcases ih (s := push s x) (by rw [push_length]; exact hs) (fun y hy => hl y (by simp [hy])) h with h2 | h2
      · rcases (push_sn hs hx hm).1 h2 with h2 | h2
        · exact .inl h2
        · subst h2
          rcases push_new hs hx with h3 | h3
          · exact .inl h3
          · exact .inr (reachL_todo_mono l h3)
      · exact .inr h2
/-- Things to do are seen; of a thing that is seen and not to be done all that it has is seen. -/
structure RInv (N : Nat) (has : List (List Int)) (s : List Bool × List Int) : Prop where
  len : s.1.length = N
  inr : InR N s.2
  todo : ∀ x ∈ s.2, Sn s x
  done : ∀ n : Int, 0 ≤ n ∧ n < (N : Int) → Sn s n → n ∈ s.2 ∨ ∀ k ∈ has.getD n.toNat [], Sn s k
variable {has : List (List Int)}
theorem row_in (hh : ∀ l ∈ has, InR N l) (i : Nat) : InR N (has.getD i []) := by
  rw [List.getD_eq_getElem?_getD]
  cases hg : has[i]? with
  | none => intro x hx; simp at hx
  | some l => exact hh l (List.mem_of_getElem? hg)
theorem RInv.reach (hh : ∀ l ∈ has, InR N l) {s : List Bool × List Int} (h : RInv N has s) {l : List Int} (hl : InR N l) : RInv N has (reachL s l) := by
  refine ⟨by rw [reachL_length]; exact h.len, reachL_in l h.inr hl, fun x hx => ?_, fun n hn hs => ?_⟩
  · have hxr : 0 ≤ x ∧ x < (N : Int) := (reachL_in l h.inr hl) x hx
    rw [reachL_sn l h.len hl hxr]
    rcases reachL_todo l hx with hx | hx
    · exact .inl (h.todo x hx)
    · exact .inr hx
  · rcases (reachL_sn l h.len hl hn).1 hs with h2 | h2
    · rcases h.done n hn h2 with h3 | h3
      · exact .inl (reachL_todo_mono l h3)
      · exact .inr (fun k hk => (reachL_sn l h.len hl (row_in hh _ k hk)).2 (.inl (h3 k hk)))
    · rcases reachL_new l h.len hl h2 with h3 | h3
      · rcases h.done n hn h3 with h4 | h4
        · exact .inl (reachL_todo_mono l h4)
        · exact .inr (fun k hk => (reachL_sn l h.len hl (row_in hh _ k hk)).2 (.inl (h4 k hk)))
      · exact .inl h3
theorem mem_dropLast {l : List Int} {x : Int} (h : x ∈ l) : x ∈ l.dropLast ∨ x = l.getLastD 0 := by
  have hne : l ≠ [] := by rintro rfl; simp at h
  rw [List.getLastD_eq_getLast?, List.getLast?_eq_some_getLast hne]
  rw [← List.dropLast_concat_getLast hne] at h
  rcases List.mem_append.1 h with h | h
  · exact .inl h
  · exact .inr (by simpa using h)
theorem RInv.step (hh : ∀ l ∈ has, InR N l) {s : List Bool × List Int} (h : RInv N has s) (hz : s.2 ≠ []) : RInv N has (reachL (s.1, s.2.dropLast) (has.getD (s.2.getLastD 0).toNat [])) := by
  have hl := row_in hh (s.2.getLastD 0).toNat
  have hlen : (s.1, s.2.dropLast).1.length = N := h.len
  have hin : InR N (s.1, s.2.dropLast).2 := fun x hx => h.inr x (List.dropLast_subset _ hx)
  refine ⟨by rw [reachL_length]; exact h.len, reachL_in _ hin hl, fun x hx => ?_, fun n hn hs => ?_⟩
  · have hxr := reachL_in _ hin hl x hx
    rw [reachL_sn _ hlen hl hxr]
    rcases reachL_todo _ hx with hx | hx
    · exact .inl (h.todo x (List.dropLast_subset _ hx))
    · exact .inr hx
  · rcases (reachL_sn _ hlen hl hn).1 hs with h2 | h2
    · rcases h.done n hn h2 with h3 | h3
      · rcases mem_dropLast h3 with h4 | h4
        · exact .inl (reachL_todo_mono _ h4)
        · subst h4
          exact .inr (fun k hk => (reachL_sn _ hlen hl (row_in hh _ k hk)).2 (.inr hk))
      · exact .inr (fun k hk => (reachL_sn _ hlen hl (row_in hh _ k hk)).2 (.inl (h3 k hk)))
    · rcases reachL_new _ hlen hl h2 with h3 | h3
      · rcases h.done n hn h3 with h4 | h4
        · rcases mem_dropLast h4 with h5 | h5
          · exact .inl (reachL_todo_mono _ h5)
          · subst h5
            exact .inr (fun k hk => (reachL_sn _ hlen hl (row_in hh _ k hk)).2 (.inr hk))
        · exact .inr (fun k hk => (reachL_sn _ hlen hl (row_in hh _ k hk)).2 (.inl (h4 k hk)))
      · exact .inl h3
theorem allL_done : ∀ (k : Nat) (s : List Bool × List Int), meas s ≤ k → (allL has k s).2 = []
  | 0, s, h => by
    unfold meas at h
    exact List.eq_nil_of_length_eq_zero (by show s.2.length = 0; omega)
  | k + 1, s, h => by
    rw [allL]
    split
    · assumption
    · rename_i hz
      exact allL_done k _ (by have := step_meas s (has.getD (s.2.getLastD 0).toNat []) hz; omega)
/-- What all keeps, reaches, and no more. -/
theorem allL_spec (hh : ∀ l ∈ has, InR N l) (Q : Int → Prop) (hQ : ∀ n k : Int, Q n → k ∈ has.getD n.toNat [] → Q k) : ∀ (k : Nat) (s : List Bool × List Int), RInv N has s → (∀ n : Int, 0 ≤ n ∧ n < (N : Int) → Sn s n → Q n) →
    RInv N has (allL has k s) ∧ (∀ n : Int, 0 ≤ n ∧ n < (N : Int) → Sn s n → Sn (allL has k s) n) ∧ (∀ n : Int, 0 ≤ n ∧ n < (N : Int) → Sn (allL has k s) n → Q n)
  | 0, s, h, hq => ⟨h, fun _ _ h => h, hq⟩
  | k + 1, s, h, hq => by
    rw [allL]
    split
    · exact ⟨h, fun _ _ h => h, hq⟩
    · rename_i hz
      have hl := row_in hh (s.2.getLastD 0).toNat
      have hlen : (s.1, s.2.dropLast).1.length = N := h.len
      obtain ⟨h1, h2, h3⟩ := allL_spec hh Q hQ k _ (h.step hh hz) (fun n hn hs => by
        rcases (reachL_sn _ hlen hl hn).1 hs with h4 | h4
        · exact hq n hn h4
        · exact hQ _ n (hq _ (h.inr _ (last_mem s.2 hz)) (h.todo _ (last_mem s.2 hz))) h4)
      exact ⟨h1, fun n hn hs => h2 n hn ((reachL_sn _ hlen hl hn).2 (.inl hs)), h3⟩
theorem start_rinv (n : Nat) : RInv n has (List.replicate n false, []) := by
  refine ⟨by simp, fun x hx => by simp at hx, fun x hx => by simp at hx, fun m hm hs => ?_⟩
  unfold Sn at hs
  simp [List.getD_eq_getElem?_getD, List.getElem?_replicate] at hs
  split at hs <;> simp at hs
theorem start_sn (n : Nat) (m : Int) : ¬ Sn (List.replicate n false, []) m := by
  intro hs
  unfold Sn at hs
  simp [List.getD_eq_getElem?_getD, List.getElem?_replicate] at hs
  split at hs <;> simp at hs
end
theorem Lf.range {has : List (List Int)} {roots : List Int} (hh : ∀ l ∈ has, InR has.length l) (hr : InR has.length roots) {n : Int} (h : Lf has roots n) : 0 ≤ n ∧ n < (has.length : Int) := by
  cases h with
  | root h => exact hr n h
  | has _ hk => exact row_in hh _ n hk
theorem Lf.mono {has : List (List Int)} {r r' : List Int} (hr : ∀ n ∈ r, n ∈ r') {n : Int} (h : Lf has r n) : Lf has r' n := by
  induction h with
  | root h => exact .root (hr _ h)
  | has _ hk ih => exact .has ih hk
/-- WHAT From ANSWERS. -/
theorem fromL_iff {has : List (List Int)} {l : List Int} (hh : ∀ l ∈ has, InR has.length l) (hl : InR has.length l) :
    (fromL has l).length = has.length ∧ ∀ n : Int, 0 ≤ n ∧ n < (has.length : Int) → ((fromL has l).getD n.toNat false = true ↔ Lf has l n) := by
  have hi := (start_rinv (has := has) has.length).reach hh hl
  obtain ⟨a1, a2, a3⟩ := allL_spec hh (Lf has l) (fun n k h hk => .has h hk) (meas (reachL (List.replicate has.length false, []) l)) _ hi (fun n hn hs => by
    rcases (reachL_sn l (by simp) hl hn).1 hs with h | h
    · exact absurd h (start_sn _ _)
    · exact .root h)
  have a4 := allL_done (has := has) _ (reachL (List.replicate has.length false, []) l) (Nat.le_refl _)
  refine ⟨fromL_length has l, fun n hn => ⟨fun h => a3 n hn h, fun h => ?_⟩⟩
  show Sn (allL has (meas (reachL (List.replicate has.length false, []) l)) (reachL (List.replicate has.length false, []) l)) n
  induction h with
  | root h => exact a2 _ hn ((reachL_sn l (by simp) hl hn).2 (.inr h))
  | has h hk ih =>
    rcases a1.done _ (h.range hh hl) (ih (h.range hh hl)) with h2 | h2
    · rw [a4] at h2; simp at h2
    · exact h2 _ hk
/-- Two lists of bools that say the same are one. -/
theorem bools_ext {a b : List Bool} {n : Nat} (ha : a.length = n) (hb : b.length = n) (h : ∀ i : Int, 0 ≤ i ∧ i < (n : Int) → (a.getD i.toNat false = true ↔ b.getD i.toNat false = true)) : a = b := by
  apply List.ext_getElem (ha.trans hb.symm)
  intro i h1 h2
  have := h (i : Int) (by omega)
  simp only [Int.toNat_natCast, List.getD_eq_getElem?_getD, List.getElem?_eq_getElem h1, List.getElem?_eq_getElem h2, Option.getD_some] at this
  rw [Bool.eq_iff_iff]
  exact this
end Go.Proofs.Ytoleplbmkdhgeaa.Rch
