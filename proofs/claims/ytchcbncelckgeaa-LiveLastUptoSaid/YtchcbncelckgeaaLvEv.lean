/- Spans, told as events: who is asked, and to where. -/
import Derived.Test.YtchcbncelckgeaaLvSn
set_option linter.unusedVariables false
set_option linter.unusedSimpArgs false
namespace Go.Proofs.Ytchcbncelckgeaa.Lv
open Go.RowKit Go.Proofs.YtchcbncelckgeaaW.PrintWords Go.Proofs.YtchcbncelckgeaaW.PrintLast Go.Proofs.YtchcbncelckgeaaW.PrintMore Go.Proofs.Ytchcbncelckgeaa.PZ Go.Proofs.Ytchcbncelckgeaa.Hnd Go.Lib

def stepE (o : List SP) (e : Int × Int) : List SP := o.set e.1.toNat ⟨e.1, mx (rd_T105 o e.1).f1 e.2⟩
def asksAt (t : TT) (i : Nat) : List Int := asksL (rd_T103 t.f3 (i : Int)) ++ (if 0 ≤ (rd_T103 t.f3 (i : Int)).f5 then valuesL (rd_T31 t.f4 (rd_T103 t.f3 (i : Int)).f5) else [])
def evsI (t : TT) (i : Nat) : List (Int × Int) := (asksAt t i).map (fun v => (v, toS t.f2 (t.f3.length : Int) (i : Int) v))
def evsT (t : TT) : List (Int × Int) := (List.range t.f3.length).flatMap (evsI t) ++ ((valuesL t.f6).map (fun v => (v, toS t.f2 (t.f3.length : Int) (t.f3.length : Int) v)) ++ (if 0 < t.f2 then (valuesL t.f5).map (fun v => (v, t.f2)) else []))
theorem ask_ev (lp n at_ : Int) (l : List Int) : ∀ o : List SP, askS lp n at_ o l = (l.map (fun v => (v, toS lp n at_ v))).foldl stepE o := by
  unfold askS
  induction l with
  | nil => intro o; rfl
  | cons v l ih => intro o; rw [List.foldl_cons, List.map_cons, List.foldl_cons, ih]; rfl
theorem turn_ev (lp : Int) (l : List Int) : ∀ o : List SP, l.foldl (turnS lp) o = (l.map (fun v => (v, lp))).foldl stepE o := by
  induction l with
  | nil => intro o; rfl
  | cons v l ih => intro o; rw [List.foldl_cons, List.map_cons, List.foldl_cons, ih]; rfl
theorem ins_ev (t : TT) (o : List SP) (i : Nat) : insS t o i = (evsI t i).foldl stepE o := by
  unfold insS evsI asksAt
  split
  · rw [ask_ev, ask_ev, List.map_append, List.foldl_append]
  · rw [List.append_nil, ask_ev]
theorem to_ev (t : TT) (i : Nat) : spTo t i = ((List.range i).flatMap (evsI t)).foldl stepE (List.replicate t.f3.length ⟨-1, -1⟩) := by
  induction i with
  | zero => rfl
  | succ i ih => rw [spTo_succ, ih, ins_ev, List.range_succ, List.flatMap_append, List.foldl_append]; simp
theorem spans_ev (t : TT) : spansL t = (evsT t).foldl stepE (List.replicate t.f3.length ⟨-1, -1⟩) := by
  unfold spansL evsT spBack
  rw [List.foldl_append, ← to_ev, List.foldl_append, ← ask_ev]
  split
  · rw [turn_ev]
  · rfl
/-- What is known of the spans when some events are past. -/
def InvE (n : Nat) (o : List SP) (E : List (Int × Int)) : Prop := o.length = n ∧ ∀ v : Nat, v < n →
  ((∀ e ∈ E, e.1 ≠ (v : Int)) ∧ rd_T105 o (v : Int) = ⟨-1, -1⟩) ∨
  ((rd_T105 o (v : Int)).f0 = (v : Int) ∧ (∀ e ∈ E, e.1 = (v : Int) → e.2 ≤ (rd_T105 o (v : Int)).f1) ∧ ∃ e ∈ E, e.1 = (v : Int) ∧ e.2 = (rd_T105 o (v : Int)).f1)
theorem mx_le (a b : Int) : a ≤ mx a b ∧ b ≤ mx a b ∧ (mx a b = a ∨ mx a b = b) := by unfold mx; split <;> omega
theorem rd_set (o : List SP) (i : Nat) (v : Nat) (x : SP) (hi : i < o.length) : rd_T105 (o.set i x) (v : Int) = if i = v then x else rd_T105 o (v : Int) := by
  unfold rd_T105
  rw [Int.toNat_natCast, List.getD_eq_getElem?_getD, List.getElem?_set]
  split
  · first | rfl | (rw [if_pos hi]; rfl)
  · rw [List.getD_eq_getElem?_getD]
theorem InvE.step {n : Nat} {o : List SP} {E : List (Int × Int)} (h : InvE n o E) (e : Int × Int) (h0 : 0 ≤ e.1) (h1 : e.1 < (n : Int)) (h2 : 0 ≤ e.2) : InvE n (stepE o e) (E ++ [e]) := by
  obtain ⟨hl, hv⟩ := h
  unfold stepE
  refine ⟨by rw [List.length_set]; exact hl, fun v hvn => ?_⟩
  rw [rd_set _ _ _ _ (by omega)]
  by_cases hev : e.1.toNat = v
  · rw [if_pos hev]
    have hev' : e.1 = (v : Int) := by omega
    have hm := mx_le (rd_T105 o e.1).f1 e.2
    refine .inr ⟨hev', fun e' he' h' => ?_, ?_⟩
    · rcases List.mem_append.1 he' with h3 | h3
      · rcases hv v hvn with ⟨ha, hb⟩ | ⟨ha, hb, hc⟩
        · exact absurd h' (ha e' h3)
        · have h4 := hb e' h3 h'
          show e'.2 ≤ mx (rd_T105 o e.1).f1 e.2
          rw [hev'] at hm ⊢
          omega
      · rw [List.mem_singleton.1 h3]; exact hm.2.1
    · rcases hm.2.2 with h3 | h3
      · rcases hv v hvn with ⟨ha, hb⟩ | ⟨ha, hb, e', he', hc1, hc2⟩
        · refine ⟨e, by simp, hev', ?_⟩
          show e.2 = mx (rd_T105 o e.1).f1 e.2
          rw [hev', hb] at hm h3 ⊢
          have h5 : (⟨-1, -1⟩ : SP).f1 = -1 := rfl
          omega
        · refine ⟨e', List.mem_append_left _ he', hc1, ?_⟩
          show e'.2 = mx (rd_T105 o e.1).f1 e.2
          rw [h3, hev']; exact hc2
      · exact ⟨e, by simp, hev', h3.symm⟩
  · rw [if_neg hev]
    have hne : e.1 ≠ (v : Int) := by omega
    rcases hv v hvn with ⟨ha, hb⟩ | ⟨ha, hb, e', he', hc1, hc2⟩
    · refine .inl ⟨fun e' he' => ?_, hb⟩
      rcases List.mem_append.1 he' with h3 | h3
      · exact ha e' h3
      · rw [List.mem_singleton.1 h3]; exact hne
    · refine .inr ⟨ha, fun e' he' h' => ?_, e', List.mem_append_left _ he', hc1, hc2⟩
      rcases List.mem_append.1 he' with h3 | h3
      · exact hb e' h3 h'
      · rw [List.mem_singleton.1 h3] at h'; exact absurd h' hne
theorem InvE.fold {n : Nat} : ∀ (F : List (Int × Int)) {o : List SP} {E : List (Int × Int)}, InvE n o E → (∀ e ∈ F, 0 ≤ e.1 ∧ e.1 < (n : Int) ∧ 0 ≤ e.2) → InvE n (F.foldl stepE o) (E ++ F)
  | [], o, E, h, _ => by rw [List.append_nil]; exact h
  | e :: F, o, E, h, hF => by
    have h1 := hF e (List.mem_cons_self ..)
    have h2 := InvE.fold F (h.step e h1.1 h1.2.1 h1.2.2) (fun e' he' => hF e' (List.mem_cons_of_mem _ he'))
    rw [List.append_assoc] at h2
    exact h2
theorem InvE.start (n : Nat) : InvE n (List.replicate n ⟨-1, -1⟩) [] := ⟨by simp, fun v hv => .inl ⟨fun e he => by simp at he, by unfold rd_T105; rw [Int.toNat_natCast, List.getD_eq_getElem?_getD, List.getElem?_replicate, if_pos hv]; rfl⟩⟩
theorem toS_le {lp n at_ v : Int} (h0 : 0 ≤ at_) (h1 : at_ ≤ n) : 0 ≤ toS lp n at_ v ∧ at_ ≤ toS lp n at_ v ∧ toS lp n at_ v ≤ n ∧ (toS lp n at_ v = n ∨ toS lp n at_ v = at_) := by
  unfold toS
  split
  · split <;> omega
  · omega
theorem asksAt_mem {t : TT} (hg : GoodT t.f2 t.f3 t.f4 t.f5 t.f6) {i : Nat} (hi : i < t.f3.length) : ∀ v ∈ asksAt t i, 0 ≤ v ∧ v < (i : Int) ∧ v < (t.f3.length : Int) := by
  obtain ⟨h1, _, _, h4⟩ := oneB_parts (hg.one i hi)
  intro v hv
  unfold asksAt at hv
  rcases List.mem_append.1 hv with h | h
  · exact allB_mem h1 v h
  · by_cases h0 : 0 ≤ (rd_T103 t.f3 (i : Int)).f5
    · rw [if_pos h0] at h; exact allB_mem (h4 h0) v h
    · rw [if_neg h0] at h; simp at h
theorem evs_ok {t : TT} (hg : GoodT t.f2 t.f3 t.f4 t.f5 t.f6) : ∀ e ∈ evsT t, (0 ≤ e.1 ∧ e.1 < (t.f3.length : Int) ∧ 0 ≤ e.2) ∧ e.2 ≤ (t.f3.length : Int) ∧ ((∃ i : Nat, i < t.f3.length ∧ e.1 ∈ asksAt t i ∧ e.2 = (i : Int)) ∨ e.2 = (t.f3.length : Int) ∨ e.2 = t.f2) := by
  intro e he
  unfold evsT at he
  rcases List.mem_append.1 he with h | h
  · obtain ⟨i, hi, h2⟩ := List.mem_flatMap.1 h
    have hi' : i < t.f3.length := List.mem_range.1 hi
    unfold evsI at h2
    obtain ⟨v, hv, rfl⟩ := List.mem_map.1 h2
    have h3 := asksAt_mem hg hi' v hv
    have h4 := toS_le (lp := t.f2) (n := (t.f3.length : Int)) (at_ := (i : Int)) (v := v) (by omega) (by omega)
    refine ⟨⟨h3.1, h3.2.2, h4.1⟩, h4.2.2.1, ?_⟩
    rcases h4.2.2.2 with h5 | h5
    · exact .inr (.inl h5)
    · exact .inl ⟨i, hi', hv, h5⟩
  · rcases List.mem_append.1 h with h | h
    · obtain ⟨v, hv, rfl⟩ := List.mem_map.1 h
      have h3 := allB_mem (hg.ex t.f6 (List.mem_cons_self ..)) v hv
      have h4 := toS_le (lp := t.f2) (n := (t.f3.length : Int)) (at_ := (t.f3.length : Int)) (v := v) (by omega) (by omega)
      exact ⟨⟨h3.1, h3.2.2, h4.1⟩, h4.2.2.1, .inr (.inl (by show toS _ _ _ _ = _; omega))⟩
    · by_cases h0 : 0 < t.f2
      · rw [if_pos h0] at h
        obtain ⟨v, hv, rfl⟩ := List.mem_map.1 h
        have h3 := allB_mem (hg.tr h0) v hv
        exact ⟨⟨h3.1, h3.2.2, hg.lo⟩, hg.hi, .inr (.inr rfl)⟩
      · rw [if_neg h0] at h; simp at h
theorem spans_inv {t : TT} (hg : GoodT t.f2 t.f3 t.f4 t.f5 t.f6) : InvE t.f3.length (spansL t) (evsT t) := by
  rw [spans_ev]
  have h := InvE.fold (evsT t) (InvE.start t.f3.length) (fun e he => (evs_ok hg e he).1)
  rwa [List.nil_append] at h
theorem ev_in {t : TT} {i : Nat} (hi : i < t.f3.length) {v : Int} (hv : v ∈ asksAt t i) : (v, toS t.f2 (t.f3.length : Int) (i : Int) v) ∈ evsT t := by
  unfold evsT
  exact List.mem_append_left _ (List.mem_flatMap.2 ⟨i, List.mem_range.2 hi, List.mem_map.2 ⟨v, hv, rfl⟩⟩)
/-- Whoever is asked has a span that reaches to there. -/
theorem asked_in {t : TT} (hg : GoodT t.f2 t.f3 t.f4 t.f5 t.f6) {i : Nat} (hi : i < t.f3.length) {v : Int} (hv : v ∈ asksAt t i) : (rd_T105 (spansL t) v).f0 = v ∧ toS t.f2 (t.f3.length : Int) (i : Int) v ≤ (rd_T105 (spansL t) v).f1 ∧ (i : Int) ≤ (rd_T105 (spansL t) v).f1 := by
  have h1 := asksAt_mem hg hi v hv
  obtain ⟨k, rfl⟩ : ∃ k : Nat, v = (k : Int) := ⟨v.toNat, by omega⟩
  have h4 := toS_le (lp := t.f2) (n := (t.f3.length : Int)) (at_ := (i : Int)) (v := (k : Int)) (by omega) (by omega)
  rcases (spans_inv hg).2 k (by omega) with ⟨ha, _⟩ | ⟨ha, hb, _⟩
  · exact absurd rfl (ha _ (ev_in hi hv))
  · have h5 := hb _ (ev_in hi hv) rfl
    refine ⟨ha, h5, ?_⟩
    have h6 : toS t.f2 (t.f3.length : Int) (i : Int) (k : Int) ≤ (rd_T105 (spansL t) (k : Int)).f1 := h5
    omega
/-- A span ends where its value is asked, at the end, or at the loop. -/
theorem ends_in {t : TT} (hg : GoodT t.f2 t.f3 t.f4 t.f5 t.f6) {v : Nat} (hv : v < t.f3.length) : ((rd_T105 (spansL t) (v : Int)).f0 = -1 ∧ (rd_T105 (spansL t) (v : Int)).f1 = -1) ∨ (0 ≤ (rd_T105 (spansL t) (v : Int)).f0 ∧ 0 ≤ (rd_T105 (spansL t) (v : Int)).f1 ∧ (rd_T105 (spansL t) (v : Int)).f1 ≤ (t.f3.length : Int) ∧ ((∃ i : Nat, i < t.f3.length ∧ (v : Int) ∈ asksAt t i ∧ (rd_T105 (spansL t) (v : Int)).f1 = (i : Int)) ∨ (rd_T105 (spansL t) (v : Int)).f1 = (t.f3.length : Int) ∨ (rd_T105 (spansL t) (v : Int)).f1 = t.f2)) := by
  rcases (spans_inv hg).2 v hv with ⟨_, hb⟩ | ⟨ha, _, e, he, h1, h2⟩
  · rw [hb]; exact .inl ⟨rfl, rfl⟩
  · have h3 := evs_ok hg e he
    rw [h1, h2] at h3
    exact .inr ⟨by omega, h3.1.2.2, h3.2.1, h3.2.2⟩
/-- Asked within the loop, and older than it: to the end. -/
theorem loop_in {t : TT} (hg : GoodT t.f2 t.f3 t.f4 t.f5 t.f6) {i : Nat} (hi : i < t.f3.length) (hl : t.f2 ≤ (i : Int)) {v : Int} (hv : v ∈ asksL (rd_T103 t.f3 (i : Int))) (hlt : v < t.f2) : (rd_T105 (spansL t) v).f1 = (t.f3.length : Int) := by
  have hv' : v ∈ asksAt t i := List.mem_append_left _ hv
  have h1 := asked_in hg hi hv'
  have h2 : toS t.f2 (t.f3.length : Int) (i : Int) v = (t.f3.length : Int) := by unfold toS; rw [if_pos hlt, if_pos hl]
  have h3 := asksAt_mem hg hi v hv'
  obtain ⟨k, rfl⟩ : ∃ k : Nat, v = (k : Int) := ⟨v.toNat, by omega⟩
  rcases ends_in hg (v := k) (by omega) with h4 | h4
  · omega
  · have := h4.2.2.1; omega
/-- Without the loop no span is longer. -/
theorem loop_less {t : TT} (hg : GoodT t.f2 t.f3 t.f4 t.f5 t.f6) (hg0 : GoodT 0 t.f3 t.f4 t.f5 t.f6) {v : Nat} (hv : v < t.f3.length) : (rd_T105 (spansL ⟨t.f0, t.f1, 0, t.f3, t.f4, t.f5, t.f6⟩) (v : Int)).f1 ≤ (rd_T105 (spansL t) (v : Int)).f1 := by
  have hm1 : -1 ≤ (rd_T105 (spansL t) (v : Int)).f1 := by
    rcases ends_in hg hv with h | h <;> omega
  rcases (spans_inv (t := ⟨t.f0, t.f1, 0, t.f3, t.f4, t.f5, t.f6⟩) hg0).2 v hv with ⟨_, hb⟩ | ⟨ha, _, e, he, h1, h2⟩
  · rw [hb]; exact hm1
  · rw [← h2]
    have hlast : ∀ q : Int, ((v : Int), q) ∈ evsT t → e.2 ≤ q → e.2 ≤ (rd_T105 (spansL t) (v : Int)).f1 := fun q hin hle => by
      rcases (spans_inv hg).2 v hv with ⟨ha', _⟩ | ⟨_, hb', _⟩
      · exact absurd rfl (ha' _ hin)
      · exact Int.le_trans hle (hb' _ hin rfl)
    unfold evsT at he
    rcases List.mem_append.1 he with h | h
    · obtain ⟨i, hi, h3⟩ := List.mem_flatMap.1 h
      have hi' : i < t.f3.length := List.mem_range.1 hi
      unfold evsI at h3
      obtain ⟨u, hu, rfl⟩ := List.mem_map.1 h3
      have hu' : u = (v : Int) := h1
      subst hu'
      have hin := ev_in (t := t) hi' (v := (v : Int)) hu
      have h4 := toS_le (lp := t.f2) (n := (t.f3.length : Int)) (at_ := (i : Int)) (v := (v : Int)) (by omega) (by omega)
      refine hlast _ hin ?_
      show toS 0 (t.f3.length : Int) (i : Int) (v : Int) ≤ _
      have h5 : toS 0 (t.f3.length : Int) (i : Int) (v : Int) = (i : Int) := by unfold toS; rw [if_neg (by omega)]
      omega
    · rcases List.mem_append.1 h with h | h
      · obtain ⟨u, hu, rfl⟩ := List.mem_map.1 h
        have hu' : u = (v : Int) := h1
        subst hu'
        have h4 := toS_le (lp := t.f2) (n := (t.f3.length : Int)) (at_ := (t.f3.length : Int)) (v := (v : Int)) (by omega) (by omega)
        refine hlast (toS t.f2 (t.f3.length : Int) (t.f3.length : Int) (v : Int)) ?_ ?_
        · unfold evsT
          exact List.mem_append_right _ (List.mem_append_left _ (List.mem_map.2 ⟨(v : Int), hu, rfl⟩))
        · show toS 0 (t.f3.length : Int) (t.f3.length : Int) (v : Int) ≤ _
          have h5 : toS 0 (t.f3.length : Int) (t.f3.length : Int) (v : Int) = (t.f3.length : Int) := by unfold toS; rw [if_neg (by omega)]
          omega
      · rw [if_neg (by show ¬ (0 : Int) < 0; omega)] at h; simp at h
theorem good0 {t : TT} (hg : GoodT t.f2 t.f3 t.f4 t.f5 t.f6) : GoodT 0 t.f3 t.f4 t.f5 t.f6 := ⟨hg.n, hg.e, by omega, by omega, hg.one, fun h => absurd h (by omega), hg.ex, hg.la⟩
theorem spansL_len (t : TT) : (spansL t).length = t.f3.length := by
  unfold spansL
  split
  · rw [turn_len]; unfold spBack; rw [askS_len, spTo_len]
  · unfold spBack; rw [askS_len, spTo_len]
end Go.Proofs.Ytchcbncelckgeaa.Lv
