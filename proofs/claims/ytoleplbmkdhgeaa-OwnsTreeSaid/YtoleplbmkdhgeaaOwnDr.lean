/- Who keeps whom, told over functions: rounds come to an end, and tell the dominators. No program. -/
import Derived.Test.YtoleplbmkdhgeaaOwnDm
set_option linter.unusedVariables false
set_option linter.unusedSimpArgs false
set_option linter.unusedSectionVars false
namespace Go.Proofs.Ytoleplbmkdhgeaa.Own

/-- How often a way turns back. -/
def ret (pos : Int → Int) : List Int → Nat
  | n :: p :: l => ret pos (p :: l) + (if pos p < pos n then 0 else 1)
  | _ => 0
theorem ret_cons (pos : Int → Int) (n : Int) (l : List Int) : ret pos l ≤ ret pos (n :: l) := by
  cases l with
  | nil => exact Nat.le_refl _
  | cons p l => exact Nat.le_add_right (ret pos (p :: l)) (if pos p < pos n then 0 else 1)
theorem ret_app (pos : Int → Int) : ∀ (a l : List Int), ret pos l ≤ ret pos (a ++ l) := by
  intro a
  induction a with
  | nil => intro l; exact Nat.le_refl _
  | cons n a ih => intro l; exact Nat.le_trans (ih l) (ret_cons pos n (a ++ l))
theorem ret_len (pos : Int → Int) : ∀ (l : List Int), ret pos l ≤ l.length - 1 := by
  intro l
  induction l with
  | nil => exact Nat.le_refl _
  | cons n l ih =>
    cases l with
    | nil => exact Nat.le_refl _
    | cons p l =>
      unfold ret
      simp only [List.length_cons] at ih ⊢
      split <;> omega
theorem pth_suffix {root : Int → Prop} {edge : Int → Int → Prop} : ∀ (a : List Int) {n : Int} {l : List Int}, Pth root edge (a ++ n :: l) → Pth root edge (n :: l) := by
  intro a
  induction a with
  | nil => intro n l h; exact h
  | cons x a ih =>
    intro n l h
    refine ih ?_
    cases a with
    | nil => cases h with | step h _ => exact h
    | cons y a => cases h with | step h _ => exact h
theorem pth_simple {root : Int → Prop} {edge : Int → Int → Prop} : ∀ {l : List Int}, Pth root edge l → ∀ n l0, l = n :: l0 → ∃ l', Pth root edge (n :: l') ∧ (n :: l').Nodup ∧ ∀ y ∈ n :: l', y ∈ l := by
  intro l h
  induction h with
  | root h => intro n l0 e; obtain ⟨rfl, rfl⟩ := List.cons.inj e; exact ⟨[], .root h, by simp, fun y hy => hy⟩
  | @step p m l h1 h2 ih =>
    intro n l0 e
    obtain ⟨rfl, rfl⟩ := List.cons.inj e
    obtain ⟨l', g1, g2, g3⟩ := ih p l rfl
    by_cases hm : m ∈ p :: l'
    · obtain ⟨a, b, e⟩ := List.append_of_mem hm
      refine ⟨b, pth_suffix a (by rw [← e]; exact g1), ?_, fun y hy => ?_⟩
      · rw [e] at g2
        exact (List.nodup_append.1 g2).2.1
      · exact List.mem_cons_of_mem _ (g3 y (by rw [e]; exact List.mem_append_right _ hy))
    · refine ⟨p :: l', .step g1 h2, List.nodup_cons.2 ⟨hm, g2⟩, fun y hy => ?_⟩
      rcases List.mem_cons.1 hy with h | h
      · rw [h]; exact List.mem_cons_self ..
      · exact List.mem_cons_of_mem _ (g3 y h)
theorem nodup_len : ∀ (a b : List Int), a.Nodup → (∀ x ∈ a, x ∈ b) → a.length ≤ b.length := by
  intro a
  induction a with
  | nil => intro b _ _; exact Nat.zero_le _
  | cons x a ih =>
    intro b hn hs
    obtain ⟨h1, h2⟩ := List.nodup_cons.1 hn
    have hx := hs x (List.mem_cons_self ..)
    have := ih (b.erase x) h2 (fun y hy => by
      have hne : y ≠ x := fun e => h1 (e ▸ hy)
      exact (List.mem_erase_of_ne hne).2 (hs y (List.mem_cons_of_mem _ hy)))
    rw [List.length_erase_of_mem hx] at this
    have := List.length_pos_of_mem hx
    rw [List.length_cons]
    omega
/-- What is known behind r rounds and i things more. -/
structure Inv (root : Int → Prop) (edge : Int → Int → Prop) (rpo : List Int) (pos : Int → Int) (r i : Nat) (dm : Int → Int) : Prop where
  wf : Wf rpo pos dm
  out : ∀ x, x ∉ rpo → dm x = -2
  prog : ∀ n ∈ rpo, pos n < (i : Int) ∨ 1 ≤ r → dm n ≠ -2
  dom : DomI root edge rpo dm
  rank : ∀ n ∈ rpo, dm n ≠ -2 → ∀ l, Pth root edge (n :: l) → ret pos (n :: l) + (if pos n < (i : Int) then 0 else 1) ≤ r → ∀ y, Up dm n y → y ∈ n :: l
theorem upd_same (dm : Int → Int) (n : Int) : upd dm n (dm n) = dm := by funext x; unfold upd; split <;> simp_all
theorem upd_at (dm : Int → Int) (n v : Int) : upd dm n v n = v := by unfold upd; rw [if_pos rfl]
theorem upd_ne (dm : Int → Int) {n x : Int} (v : Int) (h : x ≠ n) : upd dm n v x = dm x := by unfold upd; rw [if_neg h]
section
variable {root : Int → Prop} {edge : Int → Int → Prop} {rpo : List Int} {pos : Int → Int} {prd : Int → List Int} (R : Rp root edge rpo pos prd)
include R
theorem prd_in {n : Int} (hn : n ∈ rpo) : ∀ k ∈ prd n, k = -1 ∨ k ∈ rpo := by
  intro k hk
  rcases (R.prd n hn k).1 hk with h | h
  · exact .inl h.1
  · exact .inr h.1
theorem act_prd {n : Int} (hn : n ∈ rpo) {dm : Int → Int} {k : Int} (hk : k ∈ prd n) (ha : Act dm k) : (k = -1 ∧ root n) ∨ (k ∈ rpo ∧ edge k n ∧ dm k ≠ -2) := by
  rcases (R.prd n hn k).1 hk with h | h
  · exact .inl h
  · exact .inr ⟨h.1, h.2, fun e => ha ⟨by have := R.nn _ h.1; omega, e⟩⟩
/-- What a visit finds. -/
theorem visit {K : Nat} (hK : 2 * rpo.length ≤ K) {r i : Nat} {dm : Int → Int} (I : Inv root edge rpo pos r i dm) {n : Int} (hn : n ∈ rpo) (hpos : pos n ≤ (i : Int)) :
    Ok rpo dm (atF pos dm K (prd n)) ∧ (∀ y, Up dm (atF pos dm K (prd n)) y ↔ ∀ k ∈ prd n, Act dm k → Up dm k y) ∧ (atF pos dm K (prd n) ≠ -1 → pos (atF pos dm K (prd n)) < pos n) ∧ (∀ d, Dom root edge d n → d = n ∨ (atF pos dm K (prd n) ≠ -1 ∧ Dom root edge d (atF pos dm K (prd n)))) := by
  -- one of those ahead has been told
  have hact : ∃ k ∈ prd n, Act dm k ∧ (k = -1 ∨ pos k < pos n) := by
    obtain ⟨l, h1, h2⟩ := R.pth n hn
    cases h1 with
    | root h => exact ⟨-1, (R.prd n hn _).2 (.inl ⟨rfl, h⟩), fun h => h.1 rfl, .inl rfl⟩
    | @step p _ l h he =>
      have hp : p ∈ rpo := R.pth_in h p (List.mem_cons_self ..)
      have hlt := h2 p (List.mem_cons_self ..)
      exact ⟨p, (R.prd n hn _).2 (.inr ⟨hp, he⟩), fun h => I.prog p hp (.inl (by omega)) h.2, .inr hlt⟩
  obtain ⟨k, hk, hka, hkp⟩ := hact
  rcases at_ok R I.wf hK (prd n) (-2) (.inl rfl) (prd_in R hn) with ⟨⟨_, g⟩, _⟩ | ⟨g1, g2, g3, g4⟩
  · exact absurd hka (g k hk)
  · refine ⟨g1, fun y => ?_, fun h => ?_, fun d hd => ?_⟩
    · exact (g2 y).trans ⟨fun q => q.2, fun q => ⟨fun h => absurd rfl h, q⟩⟩
    · rcases g3 with g3 | ⟨g3, _⟩
      · exact absurd g3 h
      · obtain ⟨h1, h2⟩ := g3 k hk hka
        rcases hkp with h3 | h3
        · exact absurd h3 h1
        · exact Int.lt_of_le_of_lt h2 h3
    · by_cases hdn : d = n
      · exact .inl hdn
      · refine .inr ?_
        have hx' : ∀ x ∈ prd n, Act dm x → x ∈ rpo ∧ Dom root edge d x := by
          intro x hx hax
          rcases act_prd R hn hx hax with ⟨_, h⟩ | ⟨h1, h2, _⟩
          · have := hd [] (.root h)
            rw [List.mem_singleton] at this
            exact absurd this hdn
          · exact ⟨h1, dom_edge R I.wf hd hdn h2⟩
        rcases at_dom R I.wf I.dom hK d (prd n) (-2) (.inl rfl) hx' (prd_in R hn) with h | h
        · exact absurd h (ok_ne R I.wf g1)
        · exact h
theorem up_upd_low {dm : Int → Int} (W : Wf rpo pos dm) {n v : Int} (hn : n ∈ rpo) : ∀ {a y : Int}, Up (upd dm n v) a y → a ∈ rpo → dm a ≠ -2 → pos a < pos n → Up dm a y := by
  intro a y h
  induction h with
  | refl h => intro _ _ _; exact .refl h
  | @step a b h0 h1 ih =>
    intro ha h2 hp
    have hne : a ≠ n := fun e => by rw [e] at hp; omega
    rw [upd_ne dm v hne] at h1 ih
    obtain ⟨h3, h4⟩ := ok_dm R W ha h2
    rcases h3 with h3 | ⟨h3, h5⟩
    · rw [h3] at h1; exact absurd h1 (up_neg (by omega))
    · have := h4 (by have := R.nn _ h3; omega)
      exact .step h0 (ih h3 h5 (by omega))
theorem up_low_upd {dm : Int → Int} (W : Wf rpo pos dm) {n v : Int} (hn : n ∈ rpo) : ∀ {a y : Int}, Up dm a y → a ∈ rpo → dm a ≠ -2 → pos a < pos n → Up (upd dm n v) a y := by
  intro a y h
  induction h with
  | refl h => intro _ _ _; exact .refl h
  | @step a b h0 h1 ih =>
    intro ha h2 hp
    have hne : a ≠ n := fun e => by rw [e] at hp; omega
    obtain ⟨h3, h4⟩ := ok_dm R W ha h2
    refine .step h0 ?_
    rw [upd_ne dm v hne]
    rcases h3 with h3 | ⟨h3, h5⟩
    · rw [h3] at h1; exact absurd h1 (up_neg (by omega))
    · have := h4 (by have := R.nn _ h3; omega)
      exact ih h3 h5 (by omega)
/-- Up the turned tree: as before, or by way of the thing that was turned. -/
theorem up_upd {dm : Int → Int} (W : Wf rpo pos dm) {n v : Int} (hn : n ∈ rpo) (hv : v = -1 ∨ (v ∈ rpo ∧ dm v ≠ -2 ∧ pos v < pos n)) : ∀ {a y : Int}, Up (upd dm n v) a y → a ∈ rpo → upd dm n v a ≠ -2 → ((a ≠ n ∨ y = a) ∧ Up dm a y) ∨ (Up dm a n ∧ Up dm v y) := by
  intro a y h
  induction h with
  | refl h => intro _ _; exact .inl ⟨.inr rfl, .refl h⟩
  | @step a b h0 h1 ih =>
    intro ha h2
    by_cases e : a = n
    · subst e
      rw [upd_at] at h1
      refine .inr ⟨.refl h0, ?_⟩
      rcases hv with hv | ⟨hv, hv2, hv3⟩
      · rw [hv] at h1; exact absurd h1 (up_neg (by omega))
      · exact up_upd_low R W hn h1 hv hv2 hv3
    · rw [upd_ne dm v e] at h1 h2 ih
      obtain ⟨h3, h4⟩ := ok_dm R W ha h2
      rcases h3 with h3 | ⟨h3, h5⟩
      · rw [h3] at h1; exact absurd h1 (up_neg (by omega))
      · have h6 : upd dm n v (dm a) ≠ -2 := by
          by_cases e2 : dm a = n
          · rw [e2, upd_at]
            rcases hv with hv | ⟨hv, _, _⟩
            · omega
            · have := R.nn _ hv; omega
          · rw [upd_ne dm v e2]; exact h5
        rcases ih h3 h6 with ⟨_, h7⟩ | ⟨h7, h8⟩
        · exact .inl ⟨.inl e, .step h0 h7⟩
        · exact .inr ⟨.step h0 h7, h8⟩
/-- One visit. -/
theorem Inv.next {K : Nat} (hK : 2 * rpo.length ≤ K) {r i : Nat} {dm : Int → Int} (I : Inv root edge rpo pos r i dm) {n : Int} (hn : n ∈ rpo) (hi : pos n = (i : Int)) : Inv root edge rpo pos r (i + 1) (upd dm n (atF pos dm K (prd n))) := by
  obtain ⟨v1, v2, v3, v4⟩ := visit R hK I hn (by omega)
  have v5 := ok_ne R I.wf v1
  generalize hat : atF pos dm K (prd n) = at_ at v1 v2 v3 v4 v5
  have hv : at_ = -1 ∨ (at_ ∈ rpo ∧ dm at_ ≠ -2 ∧ pos at_ < pos n) := by
    rcases v1 with h | ⟨h, h2⟩
    · exact .inl h
    · exact .inr ⟨h, h2, v3 (by have := R.nn _ h; omega)⟩
  have hdef : ∀ x, x ∈ rpo → dm x ≠ -2 → upd dm n at_ x ≠ -2 := by
    intro x hx h
    by_cases e : x = n
    · rw [e, upd_at]; exact v5
    · rw [upd_ne dm at_ e]; exact h
  refine ⟨fun x hx => ?_, fun x hx => ?_, fun x hx h => ?_, fun x hx h d hd => ?_, fun x hx h l hl hr y hy => ?_⟩
  · by_cases e : x = n
    · rw [e, upd_at]
      rcases hv with h | ⟨h, h2, h3⟩
      · exact .inr (.inl h)
      · exact .inr (.inr ⟨h, hdef _ h h2, h3⟩)
    · rw [upd_ne dm at_ e]
      rcases I.wf x hx with h | h | ⟨h, h2, h3⟩
      · exact .inl h
      · exact .inr (.inl h)
      · exact .inr (.inr ⟨h, hdef _ h h2, h3⟩)
  · have e : x ≠ n := fun e => hx (e ▸ hn)
    rw [upd_ne dm at_ e]
    exact I.out x hx
  · by_cases e : x = n
    · rw [e, upd_at]; exact v5
    · rw [upd_ne dm at_ e]
      refine I.prog x hx ?_
      rcases h with h | h
      · refine .inl ?_
        have hne : pos x ≠ pos n := fun q => e (R.pos_inj hx hn q)
        omega
      · exact .inr h
  · by_cases e : x = n
    · subst e
      rw [upd_at]
      exact v4 d hd
    · rw [upd_ne dm at_ e] at h ⊢
      exact I.dom x hx h d hd
  · -- the rank
    have key : ∀ l1, Pth root edge (n :: l1) → ret pos (n :: l1) ≤ r → Up dm at_ y → y ∈ n :: l1 := by
      intro l1 h1 h2 h3
      have h4 := (v2 y).1 h3
      cases h1 with
      | root h5 =>
        have := h4 (-1) ((R.prd n hn _).2 (.inl ⟨rfl, h5⟩)) (fun q => q.1 rfl)
        exact absurd this (up_neg (by decide))
      | @step p _ l2 h5 h6 =>
        have hp : p ∈ rpo := R.pth_in h5 p (List.mem_cons_self ..)
        have hpp := (R.prd n hn _).2 (.inr ⟨hp, h6⟩)
        unfold ret at h2
        by_cases hlt : pos p < pos n
        · rw [if_pos hlt] at h2
          have hd := I.prog p hp (.inl (by omega))
          have := h4 p hpp (fun q => hd q.2)
          exact List.mem_cons_of_mem _ (I.rank p hp hd l2 h5 (by rw [if_pos (by omega)]; omega) y this)
        · rw [if_neg hlt] at h2
          have hd := I.prog p hp (.inr (by omega))
          have := h4 p hpp (fun q => hd q.2)
          exact List.mem_cons_of_mem _ (I.rank p hp hd l2 h5 (by rw [if_neg (by omega)]; omega) y this)
    rcases up_upd R I.wf hn hv hy hx h with ⟨h1, h2⟩ | ⟨h1, h2⟩
    · by_cases e : x = n
      · rcases h1 with h1 | h1
        · exact absurd e h1
        · rw [h1]; exact List.mem_cons_self ..
      · rw [upd_ne dm at_ e] at h
        refine I.rank x hx h l hl ?_ y h2
        have hne : pos x ≠ pos n := fun q => e (R.pos_inj hx hn q)
        by_cases hlt : pos x < (i : Int)
        · rw [if_pos hlt]; rw [if_pos (by omega)] at hr; exact hr
        · rw [if_neg hlt]; rw [if_neg (by omega)] at hr; exact hr
    · by_cases e : x = n
      · subst e
        exact key l hl (by split at hr <;> omega) h2
      · rw [upd_ne dm at_ e] at h
        have hne : pos x ≠ pos n := fun q => e (R.pos_inj hx hn q)
        have hle := (up_pos R I.wf h1 hx h).2.2
        have hr2 : ret pos (x :: l) + 1 ≤ r := by rw [if_neg (by omega)] at hr; exact hr
        have hmem := I.rank x hx h l hl (by split <;> omega) n h1
        obtain ⟨a, b, e2⟩ := List.append_of_mem hmem
        rw [e2] at hl hr2 ⊢
        have h3 := ret_app pos a (n :: b)
        exact List.mem_append_right _ (key b (pth_suffix a hl) (by omega) h2)
theorem step_eq {K : Nat} (hK : 2 * rpo.length ≤ K) {r i : Nat} {dm : Int → Int} (I : Inv root edge rpo pos r i dm) {n : Int} (hn : n ∈ rpo) (hi : pos n = (i : Int)) (b : Bool) :
    stepF pos prd K (dm, b) n = (upd dm n (atF pos dm K (prd n)), b || decide (atF pos dm K (prd n) ≠ dm n)) := by
  have v5 := ok_ne R I.wf (visit R hK I hn (by omega)).1
  unfold stepF
  by_cases h : atF pos dm K (prd n) = dm n
  · simp only
    rw [if_neg (fun q => q.2 h), h, upd_same]
    simp
  · simp only
    rw [if_pos ⟨v5, h⟩]
    simp [h]
/-- The first things of a round. -/
theorem Inv.part {K : Nat} (hK : 2 * rpo.length ≤ K) {r : Nat} {dm : Int → Int} (I : Inv root edge rpo pos r 0 dm) : ∀ i, i ≤ rpo.length → Inv root edge rpo pos r i ((rpo.take i).foldl (stepF pos prd K) (dm, false)).1 := by
  intro i
  induction i with
  | zero => intro _; exact I
  | succ i ih =>
    intro hi
    have h := ih (by omega)
    have hlt : i < rpo.length := by omega
    rw [List.take_succ_eq_append_getElem hlt, List.foldl_append]
    generalize (rpo.take i).foldl (stepF pos prd K) (dm, false) = s at h
    obtain ⟨d, b⟩ := s
    rw [List.foldl_cons, List.foldl_nil, step_eq R hK h (List.getElem_mem hlt) (R.at_ i hlt) b]
    exact h.next R hK (List.getElem_mem hlt) (R.at_ i hlt)
theorem Inv.more {r : Nat} {dm : Int → Int} (I : Inv root edge rpo pos r rpo.length dm) : Inv root edge rpo pos (r + 1) 0 dm := by
  refine ⟨I.wf, I.out, fun n hn _ => I.prog n hn (.inl (R.pos_bd hn).2), I.dom, fun n hn h l hl hr y hy => I.rank n hn h l hl ?_ y hy⟩
  rw [if_pos (R.pos_bd hn).2]
  have := (R.pos_bd hn).1
  rw [if_neg (by omega)] at hr
  omega
theorem Inv.round {K : Nat} (hK : 2 * rpo.length ≤ K) {r : Nat} {dm : Int → Int} (I : Inv root edge rpo pos r 0 dm) : Inv root edge rpo pos (r + 1) 0 (roundF pos prd K rpo dm).1 := by
  have h := I.part R hK rpo.length (Nat.le_refl _)
  rw [List.take_length] at h
  exact h.more R
/-- With rounds enough just those on every way are kept. -/
theorem Inv.exact {r i : Nat} {dm : Int → Int} (I : Inv root edge rpo pos r i dm) (hr : rpo.length < r) {n : Int} (hn : n ∈ rpo) (y : Int) : Up dm n y ↔ Dom root edge y n := by
  have hd := I.prog n hn (.inr (by omega))
  constructor
  · intro h l hl
    obtain ⟨l', g1, g2, g3⟩ := pth_simple hl n l rfl
    have h1 := nodup_len (n :: l') rpo g2 (fun x hx => R.pth_in g1 x hx)
    have h2 := ret_len pos (n :: l')
    exact g3 y (I.rank n hn hd l' g1 (by split <;> omega) y h)
  · exact dom_up R I.wf I.dom (pos n).toNat n (Nat.le_refl _) hn hd y
theorem up_one {dm : Int → Int} (W : Wf rpo pos dm) {a b : Int} (ha : Ok rpo dm a) (hb : Ok rpo dm b) (h : ∀ y, Up dm a y ↔ Up dm b y) : a = b := by
  rcases ha with ha | ⟨ha, ha2⟩
  · rcases hb with hb | ⟨hb, hb2⟩
    · rw [ha, hb]
    · have := (h b).2 (.refl (R.nn _ hb))
      rw [ha] at this
      exact absurd this (up_neg (by decide))
  · rcases hb with hb | ⟨hb, hb2⟩
    · have := (h a).1 (.refl (R.nn _ ha))
      rw [hb] at this
      exact absurd this (up_neg (by decide))
    · have h1 := (up_pos R W ((h a).1 (.refl (R.nn _ ha))) hb hb2).2.2
      have h2 := (up_pos R W ((h b).2 (.refl (R.nn _ hb))) ha ha2).2.2
      exact R.pos_inj ha hb (by omega)
/-- With rounds enough nothing changes. -/
theorem Inv.still {K : Nat} (hK : 2 * rpo.length ≤ K) {r i : Nat} {dm : Int → Int} (I : Inv root edge rpo pos r i dm) (hr : rpo.length < r) {n : Int} (hn : n ∈ rpo) (hi : pos n = (i : Int)) : atF pos dm K (prd n) = dm n := by
  have I2 := I.next R hK hn hi
  obtain ⟨v1, v2, v3, v4⟩ := visit R hK I hn (by omega)
  have hd := I.prog n hn (.inr (by omega))
  refine up_one R I.wf v1 (ok_dm R I.wf hn hd).1 (fun y => ?_)
  have e1 := I.exact R hr hn y
  have e2 := I2.exact R hr hn y
  have q1 : Up dm n y ↔ y = n ∨ Up dm (dm n) y := by
    constructor
    · intro h
      cases h with
      | refl _ => exact .inl rfl
      | step _ h => exact .inr h
    · intro h
      rcases h with h | h
      · rw [h]; exact .refl (R.nn _ hn)
      · exact .step (R.nn _ hn) h
  have q2 : Up (upd dm n (atF pos dm K (prd n))) n y ↔ y = n ∨ Up dm (atF pos dm K (prd n)) y := by
    constructor
    · intro h
      cases h with
      | refl _ => exact .inl rfl
      | step _ h =>
        rw [upd_at] at h
        rcases v1 with v1 | ⟨v1, v1'⟩
        · rw [v1] at h; exact absurd h (up_neg (by decide))
        · exact .inr (up_upd_low R I.wf hn h v1 v1' (v3 (by have := R.nn _ v1; omega)))
    · intro h
      rcases h with h | h
      · rw [h]; exact .refl (R.nn _ hn)
      · refine .step (R.nn _ hn) ?_
        rw [upd_at]
        rcases v1 with v1 | ⟨v1, v1'⟩
        · rw [v1] at h; exact absurd h (up_neg (by decide))
        · exact up_low_upd R I.wf hn h v1 v1' (v3 (by have := R.nn _ v1; omega))
  have hn1 : ¬ Up dm (atF pos dm K (prd n)) n := fun h => by
    rcases v1 with v1 | ⟨v1, v1'⟩
    · rw [v1] at h; exact absurd h (up_neg (by decide))
    · have := (up_pos R I.wf h v1 v1').2.2
      have := v3 (by have := R.nn _ v1; omega)
      omega
  have hn2 : ¬ Up dm (dm n) n := fun h => by
    obtain ⟨h3, h4⟩ := ok_dm R I.wf hn hd
    rcases h3 with h3 | ⟨h3, h5⟩
    · rw [h3] at h; exact absurd h (up_neg (by decide))
    · have := (up_pos R I.wf h h3 h5).2.2
      have := h4 (by have := R.nn _ h3; omega)
      omega
  by_cases hy : y = n
  · subst hy
    exact ⟨fun h => absurd h hn1, fun h => absurd h hn2⟩
  · constructor
    · intro h
      rcases q1.1 (e1.2 (e2.1 (q2.2 (.inr h)))) with h | h
      · exact absurd h hy
      · exact h
    · intro h
      rcases q2.1 (e2.2 (e1.1 (q1.2 (.inr h)))) with h | h
      · exact absurd h hy
      · exact h
theorem Inv.quiet {K : Nat} (hK : 2 * rpo.length ≤ K) {r : Nat} {dm : Int → Int} (I : Inv root edge rpo pos r 0 dm) (hr : rpo.length < r) : roundF pos prd K rpo dm = (dm, false) := by
  have h : ∀ i, i ≤ rpo.length → (rpo.take i).foldl (stepF pos prd K) (dm, false) = (dm, false) ∧ Inv root edge rpo pos r i dm := by
    intro i
    induction i with
    | zero => intro _; exact ⟨rfl, I⟩
    | succ i ih =>
      intro hi
      obtain ⟨h1, h2⟩ := ih (by omega)
      have hlt : i < rpo.length := by omega
      have hm := List.getElem_mem hlt
      have hq := h2.still R hK hr hm (R.at_ i hlt)
      have hs := step_eq R hK h2 hm (R.at_ i hlt) false
      rw [hq, upd_same] at hs
      have hn := h2.next R hK hm (R.at_ i hlt)
      rw [hq, upd_same] at hn
      refine ⟨?_, hn⟩
      rw [List.take_succ_eq_append_getElem hlt, List.foldl_append, h1, List.foldl_cons, List.foldl_nil, hs]
      simp
  have := (h rpo.length (Nat.le_refl _)).1
  rw [List.take_length] at this
  exact this
/-- Where a round changed nothing all stands as it is found. -/
theorem Inv.fixed {K : Nat} (hK : 2 * rpo.length ≤ K) {r : Nat} {dm : Int → Int} (I : Inv root edge rpo pos r 0 dm) (hq : (roundF pos prd K rpo dm).2 = false) : (roundF pos prd K rpo dm).1 = dm ∧ ∀ n ∈ rpo, atF pos dm K (prd n) = dm n := by
  have mono : ∀ (l : List Int) (s : (Int → Int) × Bool), s.2 = true → (l.foldl (stepF pos prd K) s).2 = true := by
    intro l
    induction l with
    | nil => intro s h; exact h
    | cons x l ih =>
      intro s h
      refine ih _ ?_
      unfold stepF
      split
      · rfl
      · exact h
  have h : ∀ i, i ≤ rpo.length → (rpo.take i).foldl (stepF pos prd K) (dm, false) = (dm, false) ∧ Inv root edge rpo pos r i dm ∧ ∀ j (hj : j < rpo.length), j < i → atF pos dm K (prd rpo[j]) = dm rpo[j] := by
    intro i
    induction i with
    | zero => intro _; exact ⟨rfl, I, fun j _ hj => absurd hj (Nat.not_lt_zero _)⟩
    | succ i ih =>
      intro hi
      obtain ⟨h1, h2, h3⟩ := ih (by omega)
      have hlt : i < rpo.length := by omega
      have hm := List.getElem_mem hlt
      have hs := step_eq R hK h2 hm (R.at_ i hlt) false
      have hst : (rpo.take (i + 1)).foldl (stepF pos prd K) (dm, false) = stepF pos prd K (dm, false) rpo[i] := by
        rw [List.take_succ_eq_append_getElem hlt, List.foldl_append, h1, List.foldl_cons, List.foldl_nil]
      have hq2 : atF pos dm K (prd rpo[i]) = dm rpo[i] := by
        by_cases e : atF pos dm K (prd rpo[i]) = dm rpo[i]
        · exact e
        · exfalso
          have hb : (stepF pos prd K (dm, false) rpo[i]).2 = true := by rw [hs]; simp [e]
          have hm2 := mono (rpo.drop (i + 1)) _ hb
          rw [← hst, ← List.foldl_append, List.take_append_drop] at hm2
          unfold roundF at hq
          rw [hm2] at hq
          exact absurd hq (by decide)
      have hn := h2.next R hK hm (R.at_ i hlt)
      rw [hq2, upd_same] at hs hn
      refine ⟨by rw [hst, hs]; simp, hn, fun j hj hji => ?_⟩
      by_cases e : j = i
      · subst e; exact hq2
      · exact h3 j hj (by omega)
  obtain ⟨h1, h2, h3⟩ := h rpo.length (Nat.le_refl _)
  rw [List.take_length] at h1
  unfold roundF
  rw [h1]
  refine ⟨rfl, fun n hn => ?_⟩
  obtain ⟨j, hj, rfl⟩ := List.getElem_of_mem hn
  exact h3 j hj hj
end
/-- What the tree says when the rounds are over. -/
structure Done (root : Int → Prop) (edge : Int → Int → Prop) (rpo : List Int) (pos : Int → Int) (dm : Int → Int) : Prop where
  wf : Wf rpo pos dm
  out : ∀ x, x ∉ rpo → dm x = -2
  told : ∀ n ∈ rpo, dm n ≠ -2
  rt : ∀ n, root n → dm n = -1
  ed : ∀ p ∈ rpo, ∀ n, edge p n → ∀ y, Up dm (dm n) y → Up dm p y
  dom : ∀ n ∈ rpo, ∀ y, Up dm n y ↔ Dom root edge y n
section
variable {root : Int → Prop} {edge : Int → Int → Prop} {rpo : List Int} {pos : Int → Int} {prd : Int → List Int} (R : Rp root edge rpo pos prd)
include R
theorem done_of {K : Nat} (hK : 2 * rpo.length ≤ K) {r : Nat} {dm : Int → Int} (I : Inv root edge rpo pos (r + 1) 0 dm) (hq : ∀ n ∈ rpo, atF pos dm K (prd n) = dm n) : Done root edge rpo pos dm := by
  have told : ∀ n ∈ rpo, dm n ≠ -2 := fun n hn => I.prog n hn (.inr (by omega))
  have hv : ∀ n ∈ rpo, ∀ y, Up dm (dm n) y ↔ ∀ k ∈ prd n, Act dm k → Up dm k y := by
    intro n hn y
    have I2 : Inv root edge rpo pos r rpo.length dm → True := fun _ => trivial
    rcases at_ok R I.wf hK (prd n) (-2) (.inl rfl) (prd_in R hn) with ⟨_, g⟩ | ⟨g1, g2, g3, g4⟩
    · have h := hq n hn
      unfold atF at h
      rw [g] at h
      exact absurd h.symm (told n hn)
    · have h := hq n hn
      unfold atF at h
      rw [h] at g2
      exact (g2 y).trans ⟨fun q => q.2, fun q => ⟨fun h => absurd rfl h, q⟩⟩
  have rt : ∀ n, root n → dm n = -1 := by
    intro n hr
    have hn := R.rt n hr
    rcases (ok_dm R I.wf hn (told n hn)).1 with h | ⟨h, _⟩
    · exact h
    · have h1 := (hv n hn (dm n)).1 (.refl (R.nn _ h)) (-1) ((R.prd n hn _).2 (.inl ⟨rfl, hr⟩)) (fun q => q.1 rfl)
      exact absurd h1 (up_neg (by decide))
  have ed : ∀ p ∈ rpo, ∀ n, edge p n → ∀ y, Up dm (dm n) y → Up dm p y := by
    intro p hp n he y hy
    have hn := R.clo p hp n he
    exact (hv n hn y).1 hy p ((R.prd n hn _).2 (.inr ⟨hp, he⟩)) (fun q => told p hp q.2)
  refine ⟨I.wf, I.out, told, rt, ed, fun n hn y => ⟨fun h l hl => ?_, dom_up R I.wf I.dom (pos n).toNat n (Nat.le_refl _) hn (told n hn) y⟩⟩
  -- who is kept by steps is on every way
  have key : ∀ {l : List Int}, Pth root edge l → ∀ n l0, l = n :: l0 → ∀ y, Up dm n y → y ∈ l := by
    intro l hl
    induction hl with
    | @root m h =>
      intro n l0 e y hy
      obtain ⟨rfl, rfl⟩ := List.cons.inj e
      cases hy with
      | refl _ => exact List.mem_cons_self ..
      | step _ hy => rw [rt m h] at hy; exact absurd hy (up_neg (by decide))
    | @step p m l h1 h2 ih =>
      intro n l0 e y hy
      obtain ⟨rfl, rfl⟩ := List.cons.inj e
      cases hy with
      | refl _ => exact List.mem_cons_self ..
      | step _ hy => exact List.mem_cons_of_mem _ (ih p l rfl y (ed p (R.pth_in h1 p (List.mem_cons_self ..)) m h2 y hy))
  exact key hl n l rfl y h
theorem inv0 : Inv root edge rpo pos 0 0 (fun _ => -2) :=
  ⟨fun _ _ => .inl rfl, fun _ _ => rfl, fun n hn h => absurd (h.resolve_right (by omega)) (by have := (R.pos_bd hn).1; omega), fun n hn h => absurd rfl h, fun n hn h => absurd rfl h⟩
end
end Go.Proofs.Ytoleplbmkdhgeaa.Own
