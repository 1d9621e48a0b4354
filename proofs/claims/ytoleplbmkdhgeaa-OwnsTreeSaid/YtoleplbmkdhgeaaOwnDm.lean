/- Who keeps whom, told over functions: rounds over an order find the dominators. No program. -/
import Derived.Test.YtoleplbmkdhgeaaProg
set_option linter.unusedVariables false
set_option linter.unusedSimpArgs false
set_option linter.unusedSectionVars false
namespace Go.Proofs.Ytoleplbmkdhgeaa.Own

/-- A way from a root, its last thing first. -/
inductive Pth (root : Int → Prop) (edge : Int → Int → Prop) : List Int → Prop
  | root {n : Int} : root n → Pth root edge [n]
  | step {p n : Int} {l : List Int} : Pth root edge (p :: l) → edge p n → Pth root edge (n :: p :: l)
def Dom (root : Int → Prop) (edge : Int → Int → Prop) (d n : Int) : Prop := ∀ l, Pth root edge (n :: l) → d ∈ n :: l
/-- An order in which things were left, turned round. -/
structure Rp (root : Int → Prop) (edge : Int → Int → Prop) (rpo : List Int) (pos : Int → Int) (prd : Int → List Int) : Prop where
  nod : rpo.Nodup
  at_ : ∀ i (h : i < rpo.length), pos rpo[i] = (i : Int)
  nn : ∀ x ∈ rpo, 0 ≤ x
  prd : ∀ n ∈ rpo, ∀ p, p ∈ prd n ↔ (p = -1 ∧ root n) ∨ (p ∈ rpo ∧ edge p n)
  rt : ∀ n, root n → n ∈ rpo
  clo : ∀ p ∈ rpo, ∀ n, edge p n → n ∈ rpo
  pth : ∀ n ∈ rpo, ∃ l, Pth root edge (n :: l) ∧ ∀ y ∈ l, pos y < pos n
def upd (dm : Int → Int) (n v : Int) : Int → Int := fun x => if x = n then v else dm x
def meetF (pos dm : Int → Int) : Nat → Int → Int → Int
  | 0, a, _ => a
  | k + 1, a, b => if a = b then a else if a = -1 ∨ b = -1 then -1 else if pos a > pos b then meetF pos dm k (dm a) b else meetF pos dm k a (dm b)
def at1 (pos dm : Int → Int) (K : Nat) (at_ k : Int) : Int := if k ≠ -1 ∧ dm k = -2 then at_ else if at_ = -2 then k else meetF pos dm K at_ k
def atF (pos dm : Int → Int) (K : Nat) (l : List Int) : Int := l.foldl (at1 pos dm K) (-2)
def stepF (pos : Int → Int) (prd : Int → List Int) (K : Nat) (s : (Int → Int) × Bool) (n : Int) : (Int → Int) × Bool :=
  if atF pos s.1 K (prd n) ≠ -2 ∧ atF pos s.1 K (prd n) ≠ s.1 n then (upd s.1 n (atF pos s.1 K (prd n)), true) else s
def roundF (pos : Int → Int) (prd : Int → List Int) (K : Nat) (rpo : List Int) (dm : Int → Int) : (Int → Int) × Bool := rpo.foldl (stepF pos prd K) (dm, false)
/-- The second one is the first one, or keeps it by steps. -/
inductive Up (dm : Int → Int) : Int → Int → Prop
  | refl {a : Int} : 0 ≤ a → Up dm a a
  | step {a b : Int} : 0 ≤ a → Up dm (dm a) b → Up dm a b
theorem Up.nn {dm : Int → Int} {a b : Int} (h : Up dm a b) : 0 ≤ a := by cases h <;> assumption
theorem Up.nn2 {dm : Int → Int} {a b : Int} (h : Up dm a b) : 0 ≤ b := by
  induction h with
  | refl h => exact h
  | step _ _ ih => exact ih
theorem Up.trans {dm : Int → Int} {a b c : Int} (h : Up dm a b) (h2 : Up dm b c) : Up dm a c := by
  induction h with
  | refl _ => exact h2
  | step h0 _ ih => exact .step h0 (ih h2)
theorem up_neg {dm : Int → Int} {b : Int} {a : Int} (ha : a < 0) : ¬ Up dm a b := fun h => by have := h.nn; omega
section
variable {root : Int → Prop} {edge : Int → Int → Prop} {rpo : List Int} {pos : Int → Int} {prd : Int → List Int} (R : Rp root edge rpo pos prd)
include R
theorem Rp.pos_inj {x y : Int} (hx : x ∈ rpo) (hy : y ∈ rpo) (h : pos x = pos y) : x = y := by
  obtain ⟨i, hi, rfl⟩ := List.getElem_of_mem hx
  obtain ⟨j, hj, rfl⟩ := List.getElem_of_mem hy
  rw [R.at_ i hi, R.at_ j hj] at h
  have : i = j := by omega
  subst this
  rfl
theorem Rp.pos_bd {x : Int} (hx : x ∈ rpo) : 0 ≤ pos x ∧ pos x < (rpo.length : Int) := by
  obtain ⟨i, hi, rfl⟩ := List.getElem_of_mem hx
  rw [R.at_ i hi]
  omega
theorem Rp.pth_in : ∀ {l : List Int}, Pth root edge l → ∀ x ∈ l, x ∈ rpo := by
  intro l h
  induction h with
  | root h => intro x hx; rw [List.mem_singleton.1 hx]; exact R.rt _ h
  | step h1 h2 ih =>
    intro x hx
    rcases List.mem_cons.1 hx with h | h
    · rw [h]; exact R.clo _ (ih _ (List.mem_cons_self ..)) _ h2
    · exact ih x h
end
/-- A state of the tree that has sense. -/
def Wf (rpo : List Int) (pos dm : Int → Int) : Prop := ∀ n ∈ rpo, dm n = -2 ∨ dm n = -1 ∨ (dm n ∈ rpo ∧ dm (dm n) ≠ -2 ∧ pos (dm n) < pos n)
/-- What may be asked where things meet: nobody, or a thing that has been told. -/
def Ok (rpo : List Int) (dm : Int → Int) (a : Int) : Prop := a = -1 ∨ (a ∈ rpo ∧ dm a ≠ -2)
section
variable {root : Int → Prop} {edge : Int → Int → Prop} {rpo : List Int} {pos : Int → Int} {prd : Int → List Int} (R : Rp root edge rpo pos prd) {dm : Int → Int} (W : Wf rpo pos dm)
include R W
theorem ok_dm {a : Int} (ha : a ∈ rpo) (h : dm a ≠ -2) : Ok rpo dm (dm a) ∧ (dm a ≠ -1 → pos (dm a) < pos a) := by
  rcases W a ha with h1 | h1 | ⟨h1, h2, h3⟩
  · exact absurd h1 h
  · exact ⟨.inl h1, fun h => absurd h1 h⟩
  · exact ⟨.inr ⟨h1, h2⟩, fun _ => h3⟩
theorem up_pos : ∀ {a y : Int}, Up dm a y → a ∈ rpo → dm a ≠ -2 → y ∈ rpo ∧ dm y ≠ -2 ∧ pos y ≤ pos a := by
  intro a y h
  induction h with
  | refl _ => intro ha h2; exact ⟨ha, h2, Int.le_refl _⟩
  | step h0 h1 ih =>
    intro ha h2
    obtain ⟨h3, h4⟩ := ok_dm R W ha h2
    rcases h3 with h3 | ⟨h3, h5⟩
    · rw [h3] at h1; exact absurd h1 (up_neg (by omega))
    · obtain ⟨q1, q2, q3⟩ := ih h3 h5
      have hne := R.nn _ h3
      have := h4 (by omega)
      exact ⟨q1, q2, by omega⟩
theorem meet_ok : ∀ (K : Nat) (a b : Int), Ok rpo dm a → Ok rpo dm b → (if a = -1 then 0 else (pos a).toNat + 1) + (if b = -1 then 0 else (pos b).toNat + 1) ≤ K →
    Ok rpo dm (meetF pos dm K a b) ∧ (∀ y, Up dm (meetF pos dm K a b) y ↔ Up dm a y ∧ Up dm b y) ∧ (meetF pos dm K a b = -1 ∨ (a ≠ -1 ∧ b ≠ -1 ∧ pos (meetF pos dm K a b) ≤ pos a ∧ pos (meetF pos dm K a b) ≤ pos b)) := by
  intro K
  induction K with
  | zero =>
    intro a b ha hb hK
    have h1 : a = -1 := by
      by_cases h : a = -1
      · exact h
      · rw [if_neg h] at hK; omega
    have h2 : b = -1 := by
      by_cases h : b = -1
      · exact h
      · rw [if_neg h] at hK; omega
    subst h1
    subst h2
    exact ⟨.inl rfl, fun y => ⟨fun h => absurd h (up_neg (show (-1 : Int) < 0 by decide)), fun h => absurd h.1 (up_neg (by decide))⟩, .inl rfl⟩
  | succ K ih =>
    intro a b ha hb hK
    unfold meetF
    by_cases h : a = b
    · subst h
      rw [if_pos rfl]
      refine ⟨ha, fun y => ⟨fun h => ⟨h, h⟩, fun h => h.1⟩, ?_⟩
      by_cases h1 : a = -1
      · exact .inl h1
      · exact .inr ⟨h1, h1, Int.le_refl _, Int.le_refl _⟩
    rw [if_neg h]
    by_cases h1 : a = -1 ∨ b = -1
    · rw [if_pos h1]
      refine ⟨.inl rfl, fun y => ⟨fun h => absurd h (up_neg (by decide)), fun h => ?_⟩, .inl rfl⟩
      rcases h1 with rfl | rfl
      · exact absurd h.1 (up_neg (by decide))
      · exact absurd h.2 (up_neg (by decide))
    rw [if_neg h1]
    have ha1 : a ≠ -1 := fun e => h1 (.inl e)
    have hb1 : b ≠ -1 := fun e => h1 (.inr e)
    rcases ha with ha | ⟨ha, ha2⟩
    · exact absurd ha ha1
    rcases hb with hb | ⟨hb, hb2⟩
    · exact absurd hb hb1
    rw [if_neg ha1, if_neg hb1] at hK
    have pa := (R.pos_bd ha).1
    have pb := (R.pos_bd hb).1
    by_cases hp : pos a > pos b
    · rw [if_pos hp]
      obtain ⟨h2, h3⟩ := ok_dm R W ha ha2
      obtain ⟨g1, g2, g3⟩ := ih (dm a) b h2 (.inr ⟨hb, hb2⟩) (by
        rw [if_neg hb1]
        split
        · omega
        · rename_i h4
          have := h3 h4
          rcases h2 with h2 | ⟨h2, _⟩
          · exact absurd h2 h4
          have := (R.pos_bd h2).1
          omega)
      refine ⟨g1, fun y => ?_, ?_⟩
      · rw [g2 y]
        constructor
        · exact fun h => ⟨.step (R.nn _ ha) h.1, h.2⟩
        · intro h
          refine ⟨?_, h.2⟩
          cases h.1 with
          | refl _ => have := (up_pos R W h.2 hb hb2).2.2; omega
          | step _ h => exact h
      · rcases g3 with g3 | ⟨g3, g4, g5, g6⟩
        · exact .inl g3
        · have := h3 g3
          exact .inr ⟨ha1, hb1, by omega, by omega⟩
    · rw [if_neg hp]
      have hpb : pos a < pos b := by
        rcases Int.lt_or_eq_of_le (Int.not_lt.1 hp) with h | h
        · exact h
        · exact absurd (R.pos_inj ha hb h) ‹¬ a = b›
      obtain ⟨h2, h3⟩ := ok_dm R W hb hb2
      obtain ⟨g1, g2, g3⟩ := ih a (dm b) (.inr ⟨ha, ha2⟩) h2 (by
        rw [if_neg ha1]
        split
        · omega
        · rename_i h4
          have := h3 h4
          rcases h2 with h2 | ⟨h2, _⟩
          · exact absurd h2 h4
          have := (R.pos_bd h2).1
          omega)
      refine ⟨g1, fun y => ?_, ?_⟩
      · rw [g2 y]
        constructor
        · exact fun h => ⟨h.1, .step (R.nn _ hb) h.2⟩
        · intro h
          refine ⟨h.1, ?_⟩
          cases h.2 with
          | refl _ => have := (up_pos R W h.1 ha ha2).2.2; omega
          | step _ h => exact h
      · rcases g3 with g3 | ⟨g3, g4, g5, g6⟩
        · exact .inl g3
        · have := h3 g4
          exact .inr ⟨ha1, hb1, by omega, by omega⟩
theorem ok_ne {a : Int} (h : Ok rpo dm a) : a ≠ -2 := by
  rcases h with h | ⟨h, _⟩
  · omega
  · have := R.nn _ h; omega
def Act (dm : Int → Int) (k : Int) : Prop := ¬ (k ≠ -1 ∧ dm k = -2)
theorem act_ok {k : Int} (hk : k = -1 ∨ k ∈ rpo) (h : Act dm k) : Ok rpo dm k := by
  rcases hk with hk | hk
  · exact .inl hk
  · exact .inr ⟨hk, fun e => h ⟨by have := R.nn _ hk; omega, e⟩⟩
theorem ok_len {a : Int} (h : Ok rpo dm a) : (if a = -1 then 0 else (pos a).toNat + 1) ≤ rpo.length := by
  rcases h with h | ⟨h, _⟩
  · rw [if_pos h]; omega
  · have := R.pos_bd h
    split <;> omega
theorem at_ok {K : Nat} (hK : 2 * rpo.length ≤ K) : ∀ (l : List Int) (a0 : Int), (a0 = -2 ∨ Ok rpo dm a0) → (∀ k ∈ l, k = -1 ∨ k ∈ rpo) →
    ((a0 = -2 ∧ ∀ k ∈ l, ¬ Act dm k) ∧ l.foldl (at1 pos dm K) a0 = -2) ∨
    (Ok rpo dm (l.foldl (at1 pos dm K) a0) ∧ (∀ y, Up dm (l.foldl (at1 pos dm K) a0) y ↔ (a0 ≠ -2 → Up dm a0 y) ∧ ∀ k ∈ l, Act dm k → Up dm k y) ∧
      (l.foldl (at1 pos dm K) a0 = -1 ∨ ((∀ k ∈ l, Act dm k → k ≠ -1 ∧ pos (l.foldl (at1 pos dm K) a0) ≤ pos k) ∧ (a0 ≠ -2 → a0 ≠ -1 ∧ pos (l.foldl (at1 pos dm K) a0) ≤ pos a0))) ∧ (a0 ≠ -2 ∨ ∃ k ∈ l, Act dm k)) := by
  intro l
  induction l with
  | nil =>
    intro a0 h0 _
    by_cases h : a0 = -2
    · exact .inl ⟨⟨h, fun k hk => by simp at hk⟩, h⟩
    · have h1 : Ok rpo dm a0 := h0.resolve_left h
      refine .inr ⟨h1, fun y => ⟨fun h2 => ⟨fun _ => h2, fun k hk => by simp at hk⟩, fun h2 => h2.1 h⟩, ?_, .inl h⟩
      by_cases h3 : a0 = -1
      · exact .inl h3
      · exact .inr ⟨fun k hk => by simp at hk, fun _ => ⟨h3, Int.le_refl _⟩⟩
  | cons k l ih =>
    intro a0 h0 hl
    have hl' : ∀ x ∈ l, x = -1 ∨ x ∈ rpo := fun x hx => hl x (List.mem_cons_of_mem _ hx)
    rw [List.foldl_cons]
    by_cases hk : Act dm k
    · have hko := act_ok R W (hl k (List.mem_cons_self ..)) hk
      have hk2 := ok_ne R W hko
      have e1 : at1 pos dm K a0 k = if a0 = -2 then k else meetF pos dm K a0 k := by unfold at1; rw [if_neg hk]
      by_cases h : a0 = -2
      · rw [e1, if_pos h]
        rcases ih k (.inr hko) hl' with ⟨⟨g1, _⟩, _⟩ | ⟨g1, g2, g3, g4⟩
        · exact absurd g1 hk2
        · refine .inr ⟨g1, fun y => ?_, ?_, .inr ⟨k, List.mem_cons_self .., hk⟩⟩
          · rw [g2 y]
            constructor
            · intro q
              refine ⟨fun h2 => absurd h h2, fun x hx hax => ?_⟩
              rcases List.mem_cons.1 hx with rfl | hx
              · exact q.1 hk2
              · exact q.2 x hx hax
            · exact fun q => ⟨fun _ => q.2 k (List.mem_cons_self ..) hk, fun x hx hax => q.2 x (List.mem_cons_of_mem _ hx) hax⟩
          · rcases g3 with g3 | ⟨g3, g5⟩
            · exact .inl g3
            · refine .inr ⟨fun x hx hax => ?_, fun h2 => absurd h h2⟩
              rcases List.mem_cons.1 hx with rfl | hx
              · exact g5 hk2
              · exact g3 x hx hax
      · rw [e1, if_neg h]
        have h1 : Ok rpo dm a0 := h0.resolve_left h
        obtain ⟨m1, m2, m3⟩ := meet_ok R W K a0 k h1 hko (by have := ok_len R W h1; have := ok_len R W hko; omega)
        have m4 := ok_ne R W m1
        rcases ih _ (.inr m1) hl' with ⟨⟨g1, _⟩, _⟩ | ⟨g1, g2, g3, g4⟩
        · exact absurd g1 m4
        · refine .inr ⟨g1, fun y => ?_, ?_, .inl h⟩
          · rw [g2 y]
            constructor
            · intro q
              have q1 := (m2 y).1 (q.1 m4)
              refine ⟨fun _ => q1.1, fun x hx hax => ?_⟩
              rcases List.mem_cons.1 hx with rfl | hx
              · exact q1.2
              · exact q.2 x hx hax
            · exact fun q => ⟨fun _ => (m2 y).2 ⟨q.1 h, q.2 k (List.mem_cons_self ..) hk⟩, fun x hx hax => q.2 x (List.mem_cons_of_mem _ hx) hax⟩
          · rcases g3 with g3 | ⟨g3, g5⟩
            · exact .inl g3
            · obtain ⟨g6, g7⟩ := g5 m4
              rcases m3 with m3 | ⟨m5, m6, m7, m8⟩
              · exact absurd m3 g6
              · refine .inr ⟨fun x hx hax => ?_, fun _ => ⟨m5, by omega⟩⟩
                rcases List.mem_cons.1 hx with rfl | hx
                · exact ⟨m6, by omega⟩
                · exact g3 x hx hax
    · have e1 : at1 pos dm K a0 k = a0 := by unfold at1; rw [if_pos (Decidable.not_not.1 hk)]
      rw [e1]
      rcases ih a0 h0 hl' with ⟨⟨g1, g2⟩, g3⟩ | ⟨g1, g2, g3, g4⟩
      · refine .inl ⟨⟨g1, fun x hx => ?_⟩, g3⟩
        rcases List.mem_cons.1 hx with rfl | hx
        · exact hk
        · exact g2 x hx
      · refine .inr ⟨g1, fun y => ?_, ?_, ?_⟩
        · rw [g2 y]
          constructor
          · intro q
            refine ⟨q.1, fun x hx hax => ?_⟩
            rcases List.mem_cons.1 hx with rfl | hx
            · exact absurd hax hk
            · exact q.2 x hx hax
          · exact fun q => ⟨q.1, fun x hx hax => q.2 x (List.mem_cons_of_mem _ hx) hax⟩
        · rcases g3 with g3 | ⟨g3, g5⟩
          · exact .inl g3
          · refine .inr ⟨fun x hx hax => ?_, g5⟩
            rcases List.mem_cons.1 hx with rfl | hx
            · exact absurd hax hk
            · exact g3 x hx hax
        · rcases g4 with g4 | ⟨x, hx, hax⟩
          · exact .inl g4
          · exact .inr ⟨x, List.mem_cons_of_mem _ hx, hax⟩
/-- Who is on every way stands ahead. -/
theorem dom_pos {d n : Int} (hn : n ∈ rpo) (h : Dom root edge d n) (hne : d ≠ n) : d ∈ rpo ∧ pos d < pos n := by
  obtain ⟨l, h1, h2⟩ := R.pth n hn
  rcases List.mem_cons.1 (h l h1) with h3 | h3
  · exact absurd h3 hne
  · exact ⟨R.pth_in h1 d (List.mem_cons_of_mem _ h3), h2 d h3⟩
theorem dom_edge {d p n : Int} (h : Dom root edge d n) (hne : d ≠ n) (he : edge p n) : Dom root edge d p := by
  intro l hl
  rcases List.mem_cons.1 (h _ (.step hl he)) with h1 | h1
  · exact absurd h1 hne
  · exact h1
end
/-- Those on every way are kept by steps. -/
def DomI (root : Int → Prop) (edge : Int → Int → Prop) (rpo : List Int) (dm : Int → Int) : Prop := ∀ n ∈ rpo, dm n ≠ -2 → ∀ d, Dom root edge d n → d = n ∨ (dm n ≠ -1 ∧ Dom root edge d (dm n))
section
variable {root : Int → Prop} {edge : Int → Int → Prop} {rpo : List Int} {pos : Int → Int} {prd : Int → List Int} (R : Rp root edge rpo pos prd) {dm : Int → Int} (W : Wf rpo pos dm) (D : DomI root edge rpo dm)
include R W D
theorem dom_up : ∀ (m : Nat) (n : Int), (pos n).toNat ≤ m → n ∈ rpo → dm n ≠ -2 → ∀ d, Dom root edge d n → Up dm n d := by
  intro m
  induction m with
  | zero =>
    intro n hm hn h2 d hd
    rcases D n hn h2 d hd with rfl | ⟨h3, h4⟩
    · exact .refl (R.nn _ hn)
    · obtain ⟨h5, h6⟩ := ok_dm R W hn h2
      have := h6 h3
      rcases h5 with h5 | ⟨h5, _⟩
      · exact absurd h5 h3
      · have := (R.pos_bd h5).1; have := (R.pos_bd hn).1; omega
  | succ m ih =>
    intro n hm hn h2 d hd
    rcases D n hn h2 d hd with rfl | ⟨h3, h4⟩
    · exact .refl (R.nn _ hn)
    · obtain ⟨h5, h6⟩ := ok_dm R W hn h2
      have h7 := h6 h3
      rcases h5 with h5 | ⟨h5, h8⟩
      · exact absurd h5 h3
      · have := (R.pos_bd h5).1; have := (R.pos_bd hn).1
        exact .step (R.nn _ hn) (ih (dm n) (by omega) h5 h8 d h4)
theorem meet_dom : ∀ (K : Nat) (a b : Int), Ok rpo dm a → Ok rpo dm b → a ≠ -1 → b ≠ -1 → (pos a).toNat + (pos b).toNat + 2 ≤ K → ∀ d, Dom root edge d a → Dom root edge d b → meetF pos dm K a b ≠ -1 ∧ Dom root edge d (meetF pos dm K a b) := by
  intro K
  induction K with
  | zero => intro a b _ _ _ _ hK; omega
  | succ K ih =>
    intro a b ha hb ha1 hb1 hK d hda hdb
    rcases ha with ha | ⟨ha, ha2⟩
    · exact absurd ha ha1
    rcases hb with hb | ⟨hb, hb2⟩
    · exact absurd hb hb1
    unfold meetF
    by_cases h : a = b
    · rw [if_pos h]; exact ⟨ha1, hda⟩
    rw [if_neg h, if_neg (by omega)]
    have pa := (R.pos_bd ha).1
    have pb := (R.pos_bd hb).1
    by_cases hp : pos a > pos b
    · rw [if_pos hp]
      obtain ⟨h2, h3⟩ := ok_dm R W ha ha2
      rcases D a ha ha2 d hda with rfl | ⟨h4, h5⟩
      · have := (dom_pos R W hb hdb h).2; omega
      · have := h3 h4
        have h6 : dm a ∈ rpo := by rcases h2 with h2 | h2; exact absurd h2 h4; exact h2.1
        have := (R.pos_bd h6).1
        exact ih (dm a) b h2 (.inr ⟨hb, hb2⟩) h4 hb1 (by omega) d h5 hdb
    · rw [if_neg hp]
      have hpb : pos a < pos b := by
        rcases Int.lt_or_eq_of_le (Int.not_lt.1 hp) with h' | h'
        · exact h'
        · exact absurd (R.pos_inj ha hb h') h
      obtain ⟨h2, h3⟩ := ok_dm R W hb hb2
      rcases D b hb hb2 d hdb with rfl | ⟨h4, h5⟩
      · have := (dom_pos R W ha hda (fun e => h e.symm)).2; omega
      · have := h3 h4
        have h6 : dm b ∈ rpo := by rcases h2 with h2 | h2; exact absurd h2 h4; exact h2.1
        have := (R.pos_bd h6).1
        exact ih a (dm b) (.inr ⟨ha, ha2⟩) h2 ha1 h4 (by omega) d hda h5
theorem at_dom {K : Nat} (hK : 2 * rpo.length ≤ K) (d : Int) : ∀ (l : List Int) (a0 : Int), (a0 = -2 ∨ (Ok rpo dm a0 ∧ a0 ≠ -1 ∧ Dom root edge d a0)) → (∀ k ∈ l, Act dm k → k ∈ rpo ∧ Dom root edge d k) → (∀ k ∈ l, k = -1 ∨ k ∈ rpo) →
    l.foldl (at1 pos dm K) a0 = -2 ∨ (l.foldl (at1 pos dm K) a0 ≠ -1 ∧ Dom root edge d (l.foldl (at1 pos dm K) a0)) := by
  intro l
  induction l with
  | nil =>
    intro a0 h0 _ _
    rcases h0 with h0 | ⟨h0, h1, h2⟩
    · exact .inl h0
    · exact .inr ⟨h1, h2⟩
  | cons k l ih =>
    intro a0 h0 hl hr
    rw [List.foldl_cons]
    refine ih _ ?_ (fun x hx => hl x (List.mem_cons_of_mem _ hx)) (fun x hx => hr x (List.mem_cons_of_mem _ hx))
    by_cases hk : Act dm k
    · obtain ⟨h1, h2⟩ := hl k (List.mem_cons_self ..) hk
      have hko := act_ok R W (.inr h1) hk
      have hk1 : k ≠ -1 := by have := R.nn _ h1; omega
      have e1 : at1 pos dm K a0 k = if a0 = -2 then k else meetF pos dm K a0 k := by unfold at1; rw [if_neg hk]
      rw [e1]
      by_cases h : a0 = -2
      · rw [if_pos h]; exact .inr ⟨hko, hk1, h2⟩
      · rw [if_neg h]
        obtain ⟨g1, g2, g3⟩ := h0.resolve_left h
        have ha : a0 ∈ rpo := by rcases g1 with g1 | g1; exact absurd g1 g2; exact g1.1
        have := R.pos_bd ha
        have := R.pos_bd h1
        obtain ⟨m1, m2⟩ := meet_dom R W D K a0 k g1 hko g2 hk1 (by omega) d g3 h2
        exact .inr ⟨(meet_ok R W K a0 k g1 hko (by rw [if_neg g2, if_neg hk1]; omega)).1, m1, m2⟩
    · have e1 : at1 pos dm K a0 k = a0 := by unfold at1; rw [if_pos (Decidable.not_not.1 hk)]
      rw [e1]
      exact h0
end
end Go.Proofs.Ytoleplbmkdhgeaa.Own
