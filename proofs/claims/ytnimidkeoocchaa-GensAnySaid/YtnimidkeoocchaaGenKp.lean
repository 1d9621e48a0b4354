/- Package gens, in plain words: what is needed stays, under any schedule; what is remembered. -/
import Derived.Test.YtnimidkeoocchaaGenMk
import Derived.Test.YtnimidkeoocchaaFromPure
set_option linter.unusedVariables false
set_option linter.unusedSimpArgs false
namespace Go.Proofs.Ytnimidkeoocchaa.Gen
open Go.RowKit Go.Proofs.Ytnimidkeoocchaa.PG Go.Proofs.Ytnimidkeoocchaa.Rch

def pl (l : List Th) (n x : Nat) : Prop := (x : Int) ∈ (thAt l n).f0
def ag (l : List Th) (n : Nat) : Int := (thAt l n).f1
def hd (l : List Th) (n : Nat) : Prop := (thAt l n).f2 = true
theorem thAt_none {l : List Th} {n : Nat} (h : ¬ n < l.length) : thAt l n = ⟨[], 0, false⟩ := by
  unfold thAt; rw [List.getD_eq_getElem?_getD, List.getElem?_eq_none (by omega)]; rfl
theorem pl_lt {l : List Th} {n x : Nat} (h : pl l n x) : n < l.length := by
  by_cases e : n < l.length
  · exact e
  · unfold pl at h; rw [thAt_none e] at h; simp at h
theorem hd_lt {l : List Th} {n : Nat} (h : hd l n) : n < l.length := by
  by_cases e : n < l.length
  · exact e
  · unfold hd at h; rw [thAt_none e] at h; simp at h
theorem pl_in {l : List Th} (ho : OkL l) {n x : Nat} (h : pl l n x) : x < l.length := by
  have hn := pl_lt h
  have h_ := (ho.at_ hn).2 _ h
  omega
inductive Nd (l : List Th) : Nat → Prop
  | root {n : Nat} : hd l n → Nd l n
  | has {n k : Nat} : Nd l n → pl l n k → Nd l k
theorem Nd.lt {l : List Th} (ho : OkL l) {n : Nat} (h : Nd l n) : n < l.length := by
  cases h with
  | root h => exact hd_lt h
  | has _ h => exact pl_in ho h
/-! ### What is needed, by From -/
theorem mem_held {l : List Th} {n : Int} : n ∈ heldL l ↔ ∃ m : Nat, n = m ∧ hd l m := by
  unfold heldL heldTo hd
  simp only [List.mem_map, List.mem_filter, List.mem_range]
  constructor
  · rintro ⟨a, ⟨_, h⟩, rfl⟩
    exact ⟨a, rfl, h⟩
  · rintro ⟨m, rfl, h⟩
    exact ⟨m, ⟨hd_lt h, h⟩, rfl⟩
theorem mem_graph {l : List Th} {n : Nat} {k : Int} : k ∈ (graphL l).getD n [] ↔ ∃ m : Nat, k = m ∧ pl l n m := by
  unfold graphL pl
  rw [List.getD_eq_getElem?_getD, List.getElem?_map]
  by_cases h : n < l.length
  · rw [List.getElem?_eq_getElem h, thAt_eq h]
    simp only [Option.map_some, Option.getD_some, List.mem_filter]
    constructor
    · rintro ⟨h1, h2⟩
      have h3 : ¬ k < 0 := by unfold posI at h2; have := of_decide_eq_true h2; omega
      exact ⟨k.toNat, by omega, by rwa [show ((k.toNat : Nat) : Int) = k from by omega]⟩
    · rintro ⟨m, rfl, h1⟩
      exact ⟨h1, by unfold posI; simp⟩
  · rw [List.getElem?_eq_none (by omega), thAt_none h]
    simp
theorem lf_nd {l : List Th} {k : Int} (h : Lf (graphL l) (heldL l) k) : ∃ m : Nat, k = m ∧ Nd l m := by
  induction h with
  | root h =>
    obtain ⟨m, e, h⟩ := mem_held.1 h
    exact ⟨m, e, .root h⟩
  | has _ hk ih =>
    obtain ⟨m, rfl, hm⟩ := ih
    rw [Int.toNat_natCast] at hk
    obtain ⟨m2, e, h2⟩ := mem_graph.1 hk
    exact ⟨m2, e, .has hm h2⟩
theorem nd_lf {l : List Th} {m : Nat} (h : Nd l m) : Lf (graphL l) (heldL l) (m : Int) := by
  induction h with
  | root h => exact .root (mem_held.2 ⟨_, rfl, h⟩)
  | has _ hk ih => exact .has ih (by rw [Int.toNat_natCast]; exact mem_graph.2 ⟨_, rfl, hk⟩)
theorem need_iff {l : List Th} (ho : OkL l) {m : Nat} (hm : m < l.length) : (needL l).getD m false = true ↔ Nd l m := by
  have h_ := (fromL_iff (graphL_in ho) (heldL_in l)).2 (m : Int) (by rw [graphL_len]; omega)
  rw [Int.toNat_natCast] at h_
  refine h_.trans ⟨fun h => ?_, nd_lf⟩
  obtain ⟨m', e, h2⟩ := lf_nd h
  have e2 : m = m' := by omega
  rwa [e2]
/-! ### Alike in all that counts -/
structure Sim (l l' : List Th) : Prop where
  len : l'.length = l.length
  hd : ∀ n, hd l' n ↔ hd l n
  f0 : ∀ n, Nd l n → (thAt l' n).f0 = (thAt l n).f0
theorem Sim.refl (l : List Th) : Sim l l := ⟨rfl, fun _ => Iff.rfl, fun _ _ => rfl⟩
theorem Sim.nd1 {l l' : List Th} (h : Sim l l') {n : Nat} (hn : Nd l n) : Nd l' n := by
  induction hn with
  | root hr => exact .root ((h.hd _).2 hr)
  | @has n k hn hp ih => exact .has ih (by unfold pl at hp ⊢; rw [h.f0 n hn]; exact hp)
theorem Sim.nd2 {l l' : List Th} (h : Sim l l') {n : Nat} (hn : Nd l' n) : Nd l n := by
  induction hn with
  | root hr => exact .root ((h.hd _).1 hr)
  | @has n k hn hp ih => exact .has ih (by unfold pl at hp ⊢; rw [← h.f0 n ih]; exact hp)
theorem Sim.symm {l l' : List Th} (h : Sim l l') : Sim l' l := ⟨h.len.symm, fun n => (h.hd n).symm, fun n hn => (h.f0 n (h.nd2 hn)).symm⟩
theorem Sim.trans {a b c : List Th} (h : Sim a b) (k : Sim b c) : Sim a c := ⟨k.len.trans h.len, fun n => (k.hd n).trans (h.hd n), fun n hn => (k.f0 n (h.nd1 hn)).trans (h.f0 n hn)⟩
theorem Sim.need {l l' : List Th} (h : Sim l l') (ho : OkL l) (ho' : OkL l') : needL l' = needL l := by
  have hl : (needL l').length = (needL l).length := by rw [needL_len, needL_len, h.len]
  apply List.ext_getElem hl
  intro n h1 h2
  have hn : n < l.length := by rw [needL_len] at h2; exact h2
  have hn' : n < l'.length := by rw [h.len]; exact hn
  have e1 := need_iff ho hn
  have e2 := need_iff ho' hn'
  rw [List.getD_eq_getElem?_getD, List.getElem?_eq_getElem h2] at e1
  rw [List.getD_eq_getElem?_getD, List.getElem?_eq_getElem h1] at e2
  simp only [Option.getD_some] at e1 e2
  have e3 : (needL l')[n] = true ↔ (needL l)[n] = true := e2.trans (Iff.trans ⟨h.nd2, h.nd1⟩ e1.symm)
  cases ha : (needL l')[n] <;> cases hb : (needL l)[n] <;> simp_all
theorem Sim.held {l l' : List Th} (h : Sim l l') : heldL l' = heldL l := by
  unfold heldL heldTo
  rw [h.len]
  congr 1
  apply List.filter_congr
  intro n _
  have := h.hd n
  unfold Gen.hd at this
  cases ha : (thAt l' n).f2 <;> cases hb : (thAt l n).f2 <;> simp_all
theorem Sim.graph {l l' : List Th} (h : Sim l l') {n : Nat} (hn : Nd l n) : (graphL l').getD n [] = (graphL l).getD n [] := by
  have key : ∀ l : List Th, (graphL l).getD n [] = ((thAt l n).f0).filter posI := by
    intro l
    unfold graphL
    rw [List.getD_eq_getElem?_getD, List.getElem?_map]
    by_cases hlt : n < l.length
    · rw [List.getElem?_eq_getElem hlt, thAt_eq hlt]; rfl
    · rw [List.getElem?_eq_none (by omega), thAt_none hlt]; rfl
  rw [key, key, h.f0 n hn]
/-! ### What always holds -/
structure GI (nur : Int) (l : List Th) (rm : Int → Bool) : Prop where
  ok : OkL l
  len : l.length ≤ 100
  age : ∀ n, ag l n = 0 ∨ ag l n = 1 ∨ ag l n = 2
  rem : ∀ x, rm x = true → 0 ≤ x ∧ x < (l.length : Int) ∧ ag l x.toNat = 1
  bar : ∀ n x, pl l n x → ag l n = 1 → ag l x = 0 → rm (n : Int) = true
  gone : ∀ n, ag l n = 2 → (thAt l n).f0 = [] ∧ (thAt l n).f2 = false
  pgone : ∀ n x, pl l n x → ag l x ≠ 2
  yng : ((areL l 0).length : Int) ≤ nur
theorem GI.nd {nur : Int} {l : List Th} {rm : Int → Bool} (h : GI nur l rm) {n : Nat} (hn : Nd l n) : ag l n ≠ 2 := by
  cases hn with
  | root hr => intro e; have := (h.gone n e).2; unfold hd at hr; rw [hr] at this; cases this
  | has _ hp => exact h.pgone _ _ hp
/-! ### A collection -/
section
variable {st : List Bool} {ages : List Int} {l : List Th}
theorem coll_no {n : Nat} (hn : n < l.length) (h : ages.contains (ag l n) = false) : thAt (collL st ages l) n = ⟨(thAt l n).f0.map (cutI (goneL st ages l)), (thAt l n).f1, (thAt l n).f2⟩ := by
  rw [collL_at hn]; unfold p1 p2; unfold ag at h; rw [h]; rfl
theorem coll_st {n : Nat} (hn : n < l.length) (h : ages.contains (ag l n) = true) (hs : st.getD n false = true) : thAt (collL st ages l) n = ⟨(thAt l n).f0.map (cutI (goneL st ages l)), 1, (thAt l n).f2⟩ := by
  rw [collL_at hn]; unfold p1 p2; unfold ag at h; rw [h, hs]; rfl
theorem coll_go {n : Nat} (hn : n < l.length) (h : ages.contains (ag l n) = true) (hs : st.getD n false = false) : thAt (collL st ages l) n = ⟨[], 2, false⟩ := by
  rw [collL_at hn]; unfold p1 p2; unfold ag at h; rw [h, hs]; rfl
theorem gone_ag {n : Nat} (hn : n < l.length) : ag (goneL st ages l) n = if ages.contains (ag l n) = true then (if st.getD n false = true then 1 else 2) else ag l n := by
  unfold ag; rw [goneL_at hn]; unfold p1
  split
  · split <;> rfl
  · rfl
theorem coll_ag {n : Nat} (hn : n < l.length) : ag (collL st ages l) n = if ages.contains (ag l n) = true then (if st.getD n false = true then 1 else 2) else ag l n := by
  rw [← gone_ag hn]; unfold ag; rw [collL_at hn, goneL_at hn]; rfl
theorem coll_keep {nur : Int} {rm : Int → Bool} (h : GI nur l rm) (hst : ∀ n, Nd l n → ages.contains (ag l n) = true → st.getD n false = true) : Sim l (collL st ages l) := by
  have hcut : ∀ n, Nd l n → (thAt l n).f0.map (cutI (goneL st ages l)) = (thAt l n).f0 := by
    intro n hn
    have : ∀ k ∈ (thAt l n).f0, cutI (goneL st ages l) k = k := by
      intro k hk
      rcases cutI_cases (goneL st ages l) k with ⟨_, h0, h2⟩ | ⟨e, _⟩
      · exfalso
        obtain ⟨x, rfl⟩ : ∃ x : Nat, k = x := ⟨k.toNat, by omega⟩
        rw [Int.toNat_natCast] at h2
        have hp : pl l n x := hk
        have hx : Nd l x := .has hn hp
        have hxl := pl_in h.ok hp
        have h3 := gone_ag (st := st) (ages := ages) hxl
        unfold ag at h3
        rw [h2] at h3
        have h4 := h.nd hx
        unfold ag at h4
        split at h3
        · rename_i hc
          rw [if_pos (hst x hx hc)] at h3
          cases h3
        · exact h4 h3.symm
      · exact e
    calc _ = (thAt l n).f0.map id := List.map_congr_left this
      _ = _ := List.map_id _
  refine ⟨collL_len _ _ _, fun n => ?_, fun n hn => ?_⟩
  · by_cases hlt : n < l.length
    · unfold hd
      cases hc : ages.contains (ag l n) with
      | false => rw [coll_no hlt hc]
      | true =>
        cases hs : st.getD n false with
        | true => rw [coll_st hlt hc hs]
        | false =>
          rw [coll_go hlt hc hs]
          constructor
          · intro h_; cases h_
          · intro h_; rw [hst n (.root h_) hc] at hs; cases hs
    · constructor
      · intro h_; have := hd_lt h_; rw [collL_len] at this; exact absurd this hlt
      · intro h_; exact absurd (hd_lt h_) hlt
  · have hlt := hn.lt h.ok
    cases hc : ages.contains (ag l n) with
    | false => rw [coll_no hlt hc]; exact hcut n hn
    | true => rw [coll_st hlt hc (hst n hn hc)]; exact hcut n hn
theorem coll_pl {n x : Nat} (hn : n < l.length) (h : pl (collL st ages l) n x) : pl l n x ∧ ag (goneL st ages l) x ≠ 2 := by
  have key : ∀ f : List Int, (x : Int) ∈ f.map (cutI (goneL st ages l)) → (x : Int) ∈ f ∧ ag (goneL st ages l) x ≠ 2 := by
    intro f hf
    obtain ⟨k, hk, e⟩ := List.mem_map.1 hf
    rcases cutI_cases (goneL st ages l) k with ⟨e2, _⟩ | ⟨e2, h3⟩
    · omega
    · have e3 : k = x := by omega
      subst e3
      refine ⟨hk, fun h4 => h3 ⟨by omega, ?_⟩⟩
      rw [Int.toNat_natCast]; exact h4
  unfold pl at h
  cases hc : ages.contains (ag l n) with
  | false => rw [coll_no hn hc] at h; exact key _ h
  | true =>
    cases hs : st.getD n false with
    | true => rw [coll_st hn hc hs] at h; exact key _ h
    | false => rw [coll_go hn hc hs] at h; simp at h
theorem coll_young {nur : Int} {rm : Int → Bool} (h : GI nur l rm) (h0 : ages.contains 0 = true) {n : Nat} (hn : n < l.length) : ag (collL st ages l) n ≠ 0 := by
  rw [coll_ag hn]
  split
  · split <;> decide
  · rename_i hc; intro e; rw [e] at hc; exact hc h0
theorem coll_noyoung {nur : Int} {rm : Int → Bool} (h : GI nur l rm) (h0 : ages.contains 0 = true) : areL (collL st ages l) 0 = [] := by
  unfold areL areTo
  rw [List.map_eq_nil_iff, List.filter_eq_nil_iff]
  intro n hn
  have hlt : n < l.length := by rw [List.mem_range, collL_len] at hn; exact hn
  have := coll_young (st := st) h h0 hlt
  unfold ag at this
  simpa using this
theorem coll_gi {nur : Int} {rm : Int → Bool} (h : GI nur l rm) (h0 : ages.contains 0 = true) (h2 : ages.contains 2 = false) (hn : 0 ≤ nur) : GI nur (collL st ages l) (fun _ => false) := by
  refine ⟨collL_ok h.ok, by rw [collL_len]; exact h.len, fun n => ?_, fun x hx => (by cases hx), fun n x hp _ hx => ?_, fun n hn2 => ?_, fun n x hp => ?_, by rw [coll_noyoung h h0]; exact hn⟩
  · by_cases hlt : n < l.length
    · rw [coll_ag hlt]
      split
      · split
        · exact .inr (.inl rfl)
        · exact .inr (.inr rfl)
      · exact h.age n
    · unfold ag; rw [thAt_none (by rw [collL_len]; exact hlt)]; exact .inl rfl
  · have hlt := pl_lt hp
    rw [collL_len] at hlt
    have hxl := pl_in h.ok (coll_pl hlt hp).1
    exact absurd hx (coll_young h h0 hxl)
  · have hlt : n < l.length := by
      apply Classical.byContradiction
      intro hlt
      unfold ag at hn2
      rw [thAt_none (by rw [collL_len]; exact hlt)] at hn2
      cases hn2
    cases hc : ages.contains (ag l n) with
    | false =>
      have e := coll_no (st := st) hlt hc
      unfold ag at hn2
      rw [e] at hn2 ⊢
      obtain ⟨e1, e2⟩ := h.gone n hn2
      rw [e1, e2]; exact ⟨rfl, rfl⟩
    | true =>
      cases hs : st.getD n false with
      | true => have e := coll_st hlt hc hs; unfold ag at hn2; rw [e] at hn2; cases hn2
      | false => rw [coll_go hlt hc hs]; exact ⟨rfl, rfl⟩
  · have hlt := pl_lt hp
    rw [collL_len] at hlt
    obtain ⟨h3, h4⟩ := coll_pl hlt hp
    have hxl := pl_in h.ok h3
    rw [coll_ag hxl, ← gone_ag hxl]
    exact h4
end
end Go.Proofs.Ytnimidkeoocchaa.Gen
/- Package gens, in plain words: each deed keeps what always holds; alike heaps stay alike. -/
namespace Go.Proofs.Ytnimidkeoocchaa.Gen
open Go.RowKit Go.Proofs.Ytnimidkeoocchaa.PG Go.Proofs.Ytnimidkeoocchaa.Rch

theorem has0 (x : Int) : ([0] : List Int).contains x = true ↔ x = 0 := by simp
theorem has01 (x : Int) : ([0, 1] : List Int).contains x = true ↔ x = 0 ∨ x = 1 := by simp
theorem youngB_iff {l : List Th} {n : Nat} : youngB l (n : Int) = true ↔ ag l n = 0 := by unfold youngB ag; simp
theorem min_marks {nur : Int} {l : List Th} {rm : Int → Bool} (h : GI nur l rm) {n : Nat} (hn : Nd l n) : ag l n = 0 → YR l rm (n : Int) := by
  induction hn with
  | root hr => exact fun h0 => YR.held (hd_lt hr) hr (youngB_iff.2 h0)
  | @has n k hn hp ih =>
    intro h0
    have hy := youngB_iff.2 h0
    rcases h.age n with e | e | e
    · exact YR.next (ih e) (by rw [Int.toNat_natCast]; exact hp) hy
    · have hlt := pl_lt hp
      exact YR.rem (h.bar n k hp e h0) (by omega) (by omega) (by rw [Int.toNat_natCast]; exact hp) hy
    · exact absurd e (h.nd hn)
theorem min_keep {nur : Int} {l : List Th} {rm : Int → Bool} (h : GI nur l rm) : Sim l (minL l rm) :=
  coll_keep h (fun n hn hc => stM_get.2 ⟨hn.lt h.ok, min_marks h hn ((has0 _).1 hc)⟩)
theorem min_gi {nur : Int} {l : List Th} {rm : Int → Bool} (h : GI nur l rm) (hn : 0 ≤ nur) : GI nur (minL l rm) (fun _ => false) := coll_gi h (by decide) (by decide) hn
theorem maj_keep {nur : Int} {l : List Th} {rm : Int → Bool} (h : GI nur l rm) : Sim l (majorL l) :=
  coll_keep h (fun n hn _ => (need_iff h.ok (hn.lt h.ok)).2 hn)
theorem maj_gi {nur : Int} {l : List Th} {rm : Int → Bool} (h : GI nur l rm) (hn : 0 ≤ nur) : GI nur (majorL l) (fun _ => false) := coll_gi h (by decide) (by decide) hn
/-- Behind a collection of all, what is not needed has nothing. -/
theorem maj_none {nur : Int} {l : List Th} {rm : Int → Bool} (h : GI nur l rm) {n : Nat} (hn : n < l.length) (hk : ¬ Nd l n) : (thAt (majorL l) n).f0 = [] := by
  have hs : (needL l).getD n false = false := by
    cases e : (needL l).getD n false with
    | false => rfl
    | true => exact absurd ((need_iff h.ok hn).1 e) hk
  rcases h.age n with e | e | e
  · have hc := (has01 (ag l n)).2 (.inl e)
    unfold majorL; rw [coll_go hn hc hs]
  · have hc := (has01 (ag l n)).2 (.inr e)
    unfold majorL; rw [coll_go hn hc hs]
  · have hc : ([0, 1] : List Int).contains (ag l n) = false := by rw [e]; decide
    unfold majorL; rw [coll_no hn hc, (h.gone n e).1]; rfl
/-! ### One more -/
theorem thAt_snoc {l : List Th} {x : Th} {n : Nat} : thAt (l ++ [x]) n = if n < l.length then thAt l n else if n = l.length then x else ⟨[], 0, false⟩ := by
  unfold thAt
  rw [List.getD_eq_getElem?_getD, List.getD_eq_getElem?_getD]
  by_cases h : n < l.length
  · rw [if_pos h, List.getElem?_append_left h]
  · rw [if_neg h, List.getElem?_append_right (by omega)]
    by_cases e : n = l.length
    · subst e; simp
    · rw [if_neg e, List.getElem?_eq_none (by simp; omega)]; rfl
theorem snoc_pl {l : List Th} {c n x : Nat} (m : Int) : pl (l ++ [newTh m]) n x ↔ pl l n x := by
  unfold pl
  rw [thAt_snoc]
  by_cases h : n < l.length
  · rw [if_pos h]
  · rw [if_neg h, thAt_none h]
    split
    · unfold newTh
      constructor
      · intro h_; have := List.eq_of_mem_replicate h_; omega
      · intro h_; simp at h_
    · exact Iff.rfl
theorem snoc_ag {l : List Th} {m : Int} (n : Nat) : ag (l ++ [newTh m]) n = ag l n := by
  unfold ag
  rw [thAt_snoc]
  by_cases h : n < l.length
  · rw [if_pos h]
  · rw [if_neg h, thAt_none h]
    split <;> rfl
theorem snoc_are {l : List Th} {m : Int} : (areL (l ++ [newTh m]) 0).length = (areL l 0).length + 1 := by
  unfold areL
  rw [List.length_append, List.length_cons, List.length_nil, areTo_next, List.length_append]
  have e : (thAt (l ++ [newTh m]) l.length).f1 = 0 := by rw [thAt_snoc, if_neg (Nat.lt_irrefl _), if_pos rfl]; rfl
  rw [if_pos (by rw [e]; rfl)]
  have e2 : areTo (l ++ [newTh m]) 0 l.length = areTo l 0 l.length := by
    unfold areTo
    congr 1
    apply List.filter_congr
    intro n hn
    have := List.mem_range.1 hn
    rw [thAt_snoc, if_pos this]
  rw [e2]; rfl
theorem snoc_gi {nur : Int} {l : List Th} {rm : Int → Bool} (h : GI nur l rm) (hl : l.length < 100) (hy : ((areL l 0).length : Int) < nur) (m : Int) (hm : m ≤ 10) : GI nur (l ++ [newTh m]) rm := by
  refine ⟨⟨by simp; omega, fun x hx => ?_⟩, by simp; omega, fun n => by rw [snoc_ag]; exact h.age n, fun x hx => ?_, fun n x hp h1 h0 => ?_, fun n hn => ?_, fun n x hp => ?_, by rw [snoc_are]; omega⟩
  · rcases List.mem_append.1 hx with h1 | h1
    · have := h.ok.pl x h1
      exact ⟨this.1, fun k hk => by have := this.2 k hk; simp; omega⟩
    · rw [List.mem_singleton] at h1; subst h1
      unfold newTh
      refine ⟨by simp; omega, fun k hk => ?_⟩
      have := List.eq_of_mem_replicate hk
      simp; omega
  · obtain ⟨h1, h2, h3⟩ := h.rem x hx
    exact ⟨h1, by simp; omega, by rw [snoc_ag]; exact h3⟩
  · rw [snoc_pl (c := 0)] at hp; rw [snoc_ag] at h1 h0; exact h.bar n x hp h1 h0
  · rw [snoc_ag] at hn
    have hlt : n < l.length := by
      apply Classical.byContradiction
      intro hlt; unfold ag at hn; rw [thAt_none hlt] at hn; cases hn
    rw [thAt_snoc, if_pos hlt]
    exact h.gone n hn
  · rw [snoc_pl (c := 0)] at hp; rw [snoc_ag]; exact h.pgone n x hp
theorem make_gi {nur : Int} {l : List Th} {rm : Int → Bool} (h : GI nur l rm) (hn : 1 ≤ nur) (m : Int) : GI nur (makeL nur l rm m).1 (makeL nur l rm m).2.1 := by
  unfold makeL
  split
  · exact h
  · split
    · exact h
    · split
      · have h2 := min_gi h (by omega)
        have e : areL (minL l rm) 0 = [] := coll_noyoung h (by decide)
        exact snoc_gi h2 (by unfold minL; rw [collL_len]; omega) (by rw [e]; simp; omega) m (by omega)
      · exact snoc_gi h (by omega) (by omega) m (by omega)
/-! ### A place is set -/
theorem put_at {l : List Th} {i j : Nat} {b : Int} {n : Nat} : thAt (putL l i j b) n = if i = n ∧ n < l.length then ⟨(thAt l i).f0.set j b, (thAt l i).f1, (thAt l i).f2⟩ else thAt l n := by
  by_cases h : n < l.length
  · unfold putL; rw [thAt_set h]
    by_cases e : i = n
    · rw [if_pos e, if_pos ⟨e, h⟩]
    · rw [if_neg e, if_neg (fun h_ => e h_.1)]
  · rw [thAt_none h, if_neg (fun h_ => h h_.2), thAt_none (by rw [putL_len]; exact h)]
theorem put_pl {l : List Th} {i j n x : Nat} {b : Int} (h : pl (putL l i j b) n x) : pl l n x ∨ (n = i ∧ (x : Int) = b) := by
  unfold pl at h
  rw [put_at] at h
  split at h
  · rename_i e
    rcases List.mem_or_eq_of_mem_set h with h1 | h1
    · exact .inl (by unfold pl; rw [← e.1]; exact h1)
    · exact .inr ⟨e.1.symm, h1⟩
  · exact .inl h
theorem put_ag {l : List Th} {i j : Nat} {b : Int} (n : Nat) : ag (putL l i j b) n = ag l n := putL_f1 n
theorem put_are {l : List Th} {i j : Nat} {b : Int} : areL (putL l i j b) 0 = areL l 0 := by
  unfold areL areTo
  rw [putL_len]
  congr 1
  apply List.filter_congr
  intro n _
  rw [putL_f1]
theorem ns_mem {a b : Int} : a ∈ nsOf a b := by unfold nsOf; split <;> simp
theorem ns_mem2 {a b : Int} (h : b ≠ -1) : b ∈ nsOf a b := by unfold nsOf; rw [if_neg h]; simp
theorem ns_low {l : List Th} {a b : Int} (h : namedE l (nsOf a b) = 0) : -1 ≤ b ∧ b < (l.length : Int) := by
  by_cases e : b = -1
  · omega
  · have := namedE_in h b (ns_mem2 e); omega
theorem ns_nd {l : List Th} (ho : OkL l) {ns : List Int} (h : namedE l ns = 0) {n : Int} (hn : n ∈ ns) : Nd l n.toNat := by
  have h1 := namedE_in h n hn
  exact (need_iff ho (by omega)).1 (namedE_need h n hn)
theorem set_gi {nur : Int} {l : List Th} {rm : Int → Bool} (h : GI nur l rm) (a b n : Int) : GI nur (setL l rm a b n).1 (setL l rm a b n).2.1 := by
  unfold setL
  split
  · rename_i hn
    split
    · exact h
    · rename_i hj
      have ha := namedE_in hn a ns_mem
      have hb := ns_low hn
      have hA : a.toNat < l.length := by omega
      have hrm : ∀ x, rm x = true → remL l rm a b x = true := fun x hx => by unfold remL; split; simp [hx]; exact hx
      refine ⟨⟨by rw [putL_len]; exact h.ok.len, fun x hx => ?_⟩, by rw [putL_len]; exact h.len, fun k => by rw [put_ag]; exact h.age k, fun x hx => ?_, fun k x hp h1 h0 => ?_, fun k hk => ?_, fun k x hp => ?_, by rw [put_are]; exact h.yng⟩
      · rw [putL_len]
        obtain ⟨i, hi, rfl⟩ := List.getElem_of_mem hx
        rw [putL_len] at hi
        have e := put_at (l := l) (i := a.toNat) (j := n.toNat) (b := b) (n := i)
        rw [thAt_eq (by rw [putL_len]; exact hi)] at e
        show (putL l a.toNat n.toNat b)[i].f0.length ≤ 1000 ∧ ∀ k ∈ (putL l a.toNat n.toNat b)[i].f0, k < (l.length : Int)
        rw [e]
        split
        · obtain ⟨h1, h2⟩ := h.ok.at_ hA
          refine ⟨by simp only [List.length_set]; exact h1, fun k hk => ?_⟩
          rcases List.mem_or_eq_of_mem_set hk with h3 | h3
          · exact h2 k h3
          · omega
        · exact h.ok.at_ hi
      · rw [putL_len, put_ag]
        unfold remL at hx
        split at hx
        · rename_i hc
          rcases Bool.or_eq_true_iff.1 hx with h1 | h1
          · have e : x = a := by simpa using h1
            subst e
            exact ⟨ha.1, ha.2, by have := hc.1; unfold ag; simpa using this⟩
          · exact h.rem x h1
        · exact h.rem x hx
      · rw [put_ag] at h1 h0
        rcases put_pl hp with h2 | ⟨h2, h3⟩
        · exact hrm _ (h.bar k x h2 h1 h0)
        · subst h2
          unfold remL
          rw [if_pos ⟨by unfold ag at h1; rw [h1]; rfl, by rw [← h3]; exact youngB_iff.2 h0⟩]
          have e : ((a.toNat : Nat) : Int) = a := by omega
          rw [e]; simp
      · rw [put_ag] at hk
        have hne : ¬ (a.toNat = k ∧ k < l.length) := fun e => h.nd (ns_nd h.ok hn ns_mem) (by rw [e.1]; exact hk)
        rw [put_at, if_neg hne]
        exact h.gone k hk
      · rw [put_ag]
        rcases put_pl hp with h2 | ⟨h2, h3⟩
        · exact h.pgone k x h2
        · have hb1 : b ≠ -1 := by omega
          have h4 := h.nd (ns_nd h.ok hn (ns_mem2 hb1))
          have e : b.toNat = x := by omega
          rwa [e] at h4
  · exact h
/-! ### A thing is held, or not -/
theorem setH_at {l : List Th} {i : Nat} {c : Bool} {n : Nat} : thAt (setH l i c) n = if i = n ∧ n < l.length then ⟨(thAt l i).f0, (thAt l i).f1, c⟩ else thAt l n := by
  by_cases h : n < l.length
  · unfold setH; rw [thAt_set h]
    by_cases e : i = n
    · rw [if_pos e, if_pos ⟨e, h⟩]
    · rw [if_neg e, if_neg (fun h_ => e h_.1)]
  · rw [thAt_none h, if_neg (fun h_ => h h_.2), thAt_none (by rw [setH_len]; exact h)]
theorem setH_f0 {l : List Th} {i : Nat} {c : Bool} (n : Nat) : (thAt (setH l i c) n).f0 = (thAt l n).f0 := by rw [setH_at]; split; rename_i e; rw [e.1]; rfl
theorem setH_ag {l : List Th} {i : Nat} {c : Bool} (n : Nat) : ag (setH l i c) n = ag l n := by unfold ag; rw [setH_at]; split; rename_i e; rw [e.1]; rfl
theorem setH_pl {l : List Th} {i : Nat} {c : Bool} {n x : Nat} : pl (setH l i c) n x ↔ pl l n x := by unfold pl; rw [setH_f0]
theorem setH_are {l : List Th} {i : Nat} {c : Bool} : areL (setH l i c) 0 = areL l 0 := by
  unfold areL areTo
  rw [setH_len]
  congr 1
  apply List.filter_congr
  intro n _
  have := setH_ag (l := l) (i := i) (c := c) n
  unfold ag at this
  rw [this]
theorem hold_gi {nur : Int} {l : List Th} {rm : Int → Bool} (h : GI nur l rm) (a : Int) (c : Bool) : GI nur (holdL l a c).1 rm := by
  unfold holdL
  split
  · rename_i hn
    split
    · exact h
    · refine ⟨h.ok.of_has (setH_has _ _ _), by rw [setH_len]; exact h.len, fun k => by rw [setH_ag]; exact h.age k, fun x hx => by rw [setH_len, setH_ag]; exact h.rem x hx, fun k x hp h1 h0 => ?_, fun k hk => ?_, fun k x hp => ?_, by rw [setH_are]; exact h.yng⟩
      · rw [setH_pl] at hp; rw [setH_ag] at h1 h0; exact h.bar k x hp h1 h0
      · rw [setH_ag] at hk
        have hne : ¬ (a.toNat = k ∧ k < l.length) := fun e => h.nd (ns_nd h.ok hn (List.mem_singleton.2 rfl)) (by rw [e.1]; exact hk)
        rw [setH_at, if_neg hne]
        exact h.gone k hk
      · rw [setH_pl] at hp; rw [setH_ag]; exact h.pgone k x hp
  · exact h
theorem do_gi {nur : Int} {l : List Th} {rm : Int → Bool} (h : GI nur l rm) (hn : 1 ≤ nur) (d a b n : Int) : GI nur (doL nur l rm d a b n).l (doL nur l rm d a b n).rm := by
  unfold doL
  split
  · exact make_gi h hn n
  split
  · exact set_gi h a b n
  split
  · exact hold_gi h a true
  split
  · exact hold_gi h a false
  split
  · exact min_gi h (by omega)
  split
  · exact maj_gi h (by omega)
  · exact h
theorem gi_nil {nur : Int} (hn : 1 ≤ nur) : GI nur [] (fun _ => false) := by
  refine ⟨⟨by simp, fun x hx => by simp at hx⟩, by simp, fun n => .inl rfl, fun x hx => (by cases hx), fun n x hp => ?_, fun n hn => ?_, fun n x hp => ?_, by simp [areL, areTo]; omega⟩
  · unfold pl at hp; rw [thAt_none (by simp)] at hp; simp at hp
  · unfold ag at hn; rw [thAt_none (by simp)] at hn; cases hn
  · unfold pl at hp; rw [thAt_none (by simp)] at hp; simp at hp
end Go.Proofs.Ytnimidkeoocchaa.Gen
/- Package gens, in plain words: two heaps to which the same is done; who went; who is told by Barrier. -/
namespace Go.Proofs.Ytnimidkeoocchaa.Gen
open Go.RowKit Go.Proofs.Ytnimidkeoocchaa.PG Go.Proofs.Ytnimidkeoocchaa.Rch

section
variable {n1 n2 : Int} {l1 l2 : List Th} {r1 r2 : Int → Bool}
theorem snoc_nd {l : List Th} (ho : OkL l) {m : Int} {n : Nat} (h : Nd (l ++ [newTh m]) n) : Nd l n ∨ n = l.length := by
  induction h with
  | @root n hr =>
    unfold hd at hr
    rw [thAt_snoc] at hr
    split at hr
    · exact .inl (.root hr)
    · split at hr
      · rename_i e; exact .inr e
      · cases hr
  | @has n k hn hp ih =>
    rw [snoc_pl (c := 0)] at hp
    rcases ih with h1 | h1
    · exact .inl (.has h1 hp)
    · have := pl_lt hp; omega
theorem snoc_sim (s : Sim l1 l2) (ho : OkL l1) (m : Int) : Sim (l1 ++ [newTh m]) (l2 ++ [newTh m]) := by
  refine ⟨by simp [s.len], fun n => ?_, fun n hn => ?_⟩
  · unfold hd
    rw [thAt_snoc, thAt_snoc, s.len]
    split
    · exact s.hd n
    · split <;> exact Iff.rfl
  · rw [thAt_snoc, thAt_snoc, s.len]
    split
    · rename_i hlt
      rcases snoc_nd ho hn with h1 | h1
      · exact s.f0 n h1
      · omega
    · split <;> rfl
theorem make_sim (s : Sim l1 l2) (h1 : GI n1 l1 r1) (h2 : GI n2 l2 r2) (m : Int) : (makeL n1 l1 r1 m).2.2 = (makeL n2 l2 r2 m).2.2 ∧ Sim (makeL n1 l1 r1 m).1 (makeL n2 l2 r2 m).1 := by
  have key : ∀ {nn : Int} {l : List Th} {r : Int → Bool}, GI nn l r → m ≤ 10 → ¬ m < 0 → ¬ 100 ≤ l.length → (makeL nn l r m).2.2 = ((l.length : Int), 0) ∧ Sim (l ++ [newTh m]) (makeL nn l r m).1 := by
    intro nn l r h ha hb hc
    unfold makeL
    rw [if_neg (by omega), if_neg hc]
    split
    · exact ⟨rfl, snoc_sim (min_keep h) h.ok m⟩
    · exact ⟨rfl, Sim.refl _⟩
  by_cases ha : m < 0 ∨ m > 10
  · unfold makeL; rw [if_pos ha, if_pos ha]; exact ⟨rfl, s⟩
  · by_cases hc : 100 ≤ l1.length
    · have hc2 : 100 ≤ l2.length := by rw [s.len]; exact hc
      unfold makeL; rw [if_neg ha, if_neg ha, if_pos hc, if_pos hc2]; exact ⟨rfl, s⟩
    · have hc2 : ¬ 100 ≤ l2.length := by rw [s.len]; exact hc
      obtain ⟨a1, a2⟩ := key h1 (by omega) (by omega) hc
      obtain ⟨b1, b2⟩ := key h2 (by omega) (by omega) hc2
      exact ⟨by rw [a1, b1, s.len], (a2.symm).trans ((snoc_sim s h1.ok m).trans b2)⟩
theorem named_sim (s : Sim l1 l2) (h1 : OkL l1) (h2 : OkL l2) (ns : List Int) : namedE l2 ns = namedE l1 ns := by
  unfold namedE; rw [s.len, s.need h1 h2]
theorem put_nd {l : List Th} {i j : Nat} {b : Int} (hi : Nd l i) (hb : ∀ x : Nat, b = x → Nd l x) {n : Nat} (h : Nd (putL l i j b) n) : Nd l n := by
  induction h with
  | @root n hr =>
    unfold hd at hr
    rw [put_at] at hr
    split at hr
    · rename_i e; exact e.1 ▸ hi
    · exact .root hr
  | @has n k hn hp ih =>
    rcases put_pl hp with h1 | ⟨_, h1⟩
    · exact .has ih h1
    · exact hb k h1.symm
theorem put_hd {l : List Th} {i j : Nat} {b : Int} {n : Nat} : hd (putL l i j b) n ↔ hd l n := by
  unfold hd; rw [put_at]; split
  · rename_i e; rw [e.1]
  · exact Iff.rfl
theorem set_sim (s : Sim l1 l2) (h1 : GI n1 l1 r1) (h2 : GI n2 l2 r2) (a b n : Int) : (setL l1 r1 a b n).2.2 = (setL l2 r2 a b n).2.2 ∧ Sim (setL l1 r1 a b n).1 (setL l2 r2 a b n).1 := by
  have hne := named_sim s h1.ok h2.ok (nsOf a b)
  unfold setL
  rw [hne]
  by_cases hn : namedE l1 (nsOf a b) = 0
  · rw [if_pos hn, if_pos hn]
    have ha := namedE_in hn a ns_mem
    have hA := ns_nd h1.ok hn ns_mem
    have hB : ∀ x : Nat, b = x → Nd l1 x := fun x hx => by
      have := ns_nd h1.ok hn (ns_mem2 (a := a) (b := b) (by omega))
      rwa [show b.toNat = x from by omega] at this
    have ef := s.f0 _ hA
    rw [ef]
    split
    · exact ⟨rfl, s⟩
    · refine ⟨rfl, by rw [putL_len, putL_len, s.len], fun k => by rw [put_hd, put_hd]; exact s.hd k, fun k hk => ?_⟩
      have hk1 := put_nd hA hB hk
      rw [put_at, put_at, s.len]
      split
      · show (thAt l2 a.toNat).f0.set _ _ = (thAt l1 a.toNat).f0.set _ _
        rw [ef]
      · exact s.f0 k hk1
  · rw [if_neg hn, if_neg hn]; exact ⟨rfl, s⟩
theorem hold_nd {l : List Th} {i : Nat} {c : Bool} (hi : Nd l i) {n : Nat} (h : Nd (setH l i c) n) : Nd l n := by
  induction h with
  | @root n hr =>
    unfold hd at hr
    rw [setH_at] at hr
    split at hr
    · rename_i e; exact e.1 ▸ hi
    · exact .root hr
  | @has n k hn hp ih => exact .has ih (setH_pl.1 hp)
theorem hold_sim (s : Sim l1 l2) (h1 : GI n1 l1 r1) (h2 : GI n2 l2 r2) (a : Int) (c : Bool) : (holdL l1 a c).2 = (holdL l2 a c).2 ∧ Sim (holdL l1 a c).1 (holdL l2 a c).1 := by
  have hne := named_sim s h1.ok h2.ok [a]
  unfold holdL
  rw [hne]
  by_cases hn : namedE l1 [a] = 0
  · rw [if_pos hn, if_pos hn]
    have hA := ns_nd h1.ok hn (List.mem_singleton.2 rfl)
    have hf : (thAt l2 a.toNat).f2 = (thAt l1 a.toNat).f2 := by
      have := s.hd a.toNat
      unfold hd at this
      cases x : (thAt l2 a.toNat).f2 <;> cases y : (thAt l1 a.toNat).f2 <;> simp_all
    rw [hf]
    split
    · exact ⟨rfl, s⟩
    · refine ⟨rfl, by rw [setH_len, setH_len, s.len], fun k => ?_, fun k hk => ?_⟩
      · unfold hd
        rw [setH_at, setH_at, s.len]
        split
        · exact Iff.rfl
        · exact s.hd k
      · rw [setH_f0, setH_f0]; exact s.f0 k (hold_nd hA hk)
  · rw [if_neg hn, if_neg hn]; exact ⟨rfl, s⟩
theorem do_sim (s : Sim l1 l2) (h1 : GI n1 l1 r1) (h2 : GI n2 l2 r2) (d a b n : Int) (h6 : d ≠ 6) (h7 : d ≠ 7) : (doL n1 l1 r1 d a b n).many = (doL n2 l2 r2 d a b n).many ∧ (doL n1 l1 r1 d a b n).err = (doL n2 l2 r2 d a b n).err ∧ Sim (doL n1 l1 r1 d a b n).l (doL n2 l2 r2 d a b n).l := by
  unfold doL
  by_cases e1 : d = 1
  · rw [if_pos e1, if_pos e1]
    obtain ⟨x1, x2⟩ := make_sim s h1 h2 n
    exact ⟨congrArg Prod.fst x1, congrArg Prod.snd x1, x2⟩
  rw [if_neg e1, if_neg e1]
  by_cases e2 : d = 2
  · rw [if_pos e2, if_pos e2]
    obtain ⟨x1, x2⟩ := set_sim s h1 h2 a b n
    exact ⟨rfl, x1, x2⟩
  rw [if_neg e2, if_neg e2]
  by_cases e4 : d = 4
  · rw [if_pos e4, if_pos e4]
    obtain ⟨x1, x2⟩ := hold_sim s h1 h2 a true
    exact ⟨rfl, x1, x2⟩
  rw [if_neg e4, if_neg e4]
  by_cases e3 : d = 3
  · rw [if_pos e3, if_pos e3]
    obtain ⟨x1, x2⟩ := hold_sim s h1 h2 a false
    exact ⟨rfl, x1, x2⟩
  rw [if_neg e3, if_neg e3, if_neg h6, if_neg h6, if_neg h7, if_neg h7]
  exact ⟨rfl, rfl, s⟩
end
theorem do_coll {nur : Int} {l : List Th} {rm : Int → Bool} (h : GI nur l rm) (d a b n : Int) (hd : d = 6 ∨ d = 7) : Sim l (doL nur l rm d a b n).l ∧ (doL nur l rm d a b n).rm = (fun _ => false) ∧ (doL nur l rm d a b n).err = 0 ∧ 0 ≤ (doL nur l rm d a b n).many ∧ areL (doL nur l rm d a b n).l 0 = [] ∧ (d = 7 → ∀ k, k < l.length → ¬ Nd l k → (thAt (doL nur l rm d a b n).l k).f0 = []) := by
  rcases hd with rfl | rfl
  · exact ⟨min_keep h, rfl, rfl, Int.natCast_nonneg _, coll_noyoung h (by decide), fun e => by cases e⟩
  · exact ⟨maj_keep h, rfl, rfl, Int.natCast_nonneg _, coll_noyoung h (by decide), fun _ k hk hn => maj_none h hk hn⟩
/-! ### Who went -/
theorem min_count (l : List Th) (rm : Int → Bool) : minN l rm ≤ (areL l 0).length := by
  unfold minN collN goneN areL areTo
  rw [List.length_map, ← List.countP_eq_length_filter]
  apply List.countP_mono_left
  intro n _ h
  unfold goes at h
  simp only [Bool.and_eq_true] at h
  have := (has0 _).1 h.1
  simpa using this
/-- No thing grows young again. -/
def Older (l l' : List Th) : Prop := l.length ≤ l'.length ∧ ∀ n, n < l.length → ag l n ≠ 0 → ag l' n ≠ 0
theorem Older.refl (l : List Th) : Older l l := ⟨Nat.le_refl _, fun _ _ h => h⟩
theorem coll_older {nur : Int} {l : List Th} {rm : Int → Bool} (h : GI nur l rm) {st : List Bool} {ages : List Int} (h0 : ages.contains 0 = true) : Older l (collL st ages l) :=
  ⟨by rw [collL_len]; exact Nat.le_refl _, fun n hn _ => coll_young h h0 hn⟩
theorem snoc_older {l l' : List Th} (h : Older l l') (m : Int) : Older l (l' ++ [newTh m]) := ⟨by have := h.1; simp; omega, fun n hn h1 => by rw [snoc_ag]; exact h.2 n hn h1⟩
theorem do_older {nur : Int} {l : List Th} {rm : Int → Bool} (h : GI nur l rm) (d a b n : Int) : Older l (doL nur l rm d a b n).l := by
  unfold doL
  split
  · show Older l (makeL nur l rm n).1
    unfold makeL
    split
    · exact Older.refl l
    · split
      · exact Older.refl l
      · split
        · exact snoc_older (coll_older h (by decide)) n
        · exact snoc_older (Older.refl l) n
  split
  · show Older l (setL l rm a b n).1
    unfold setL
    split
    · split
      · exact Older.refl l
      · exact ⟨by rw [putL_len]; exact Nat.le_refl _, fun k hk h1 => by rw [put_ag]; exact h1⟩
    · exact Older.refl l
  have hh : ∀ c, Older l (holdL l a c).1 := fun c => by
    unfold holdL
    split
    · split
      · exact Older.refl l
      · exact ⟨by rw [setH_len]; exact Nat.le_refl _, fun k hk h1 => by rw [setH_ag]; exact h1⟩
    · exact Older.refl l
  split
  · exact hh true
  split
  · exact hh false
  split
  · exact coll_older h (by decide)
  split
  · exact coll_older h (by decide)
  · exact Older.refl l
theorem mem_are {l : List Th} {x : Int} : x ∈ areL l 0 ↔ (0 ≤ x ∧ x < (l.length : Int)) ∧ ag l x.toNat = 0 := by
  unfold areL areTo ag
  simp only [List.mem_map, List.mem_filter, List.mem_range]
  constructor
  · rintro ⟨i, ⟨h1, h2⟩, rfl⟩
    refine ⟨⟨Int.natCast_nonneg i, by show (i : Int) < _; omega⟩, ?_⟩
    show (thAt l (Int.ofNat i).toNat).f1 = 0
    rw [show (Int.ofNat i).toNat = i from rfl]
    simpa using h2
  · rintro ⟨h1, h2⟩
    exact ⟨x.toNat, ⟨by omega, by simpa using h2⟩, by show ((x.toNat : Nat) : Int) = x; omega⟩
/-- Making tells the thing's number; all else leaves how many there are. -/
theorem do_len {nur : Int} {l : List Th} {rm : Int → Bool} (d a b n : Int) : (d = 1 ∧ (doL nur l rm d a b n).err = 0 ∧ (doL nur l rm d a b n).many = (l.length : Int) ∧ (doL nur l rm d a b n).l.length = l.length + 1 ∧ (l.length : Int) ∈ areL (doL nur l rm d a b n).l 0) ∨ (¬ (d = 1 ∧ (doL nur l rm d a b n).err = 0) ∧ (doL nur l rm d a b n).l.length = l.length) := by
  have hnew : ∀ (lz : List Th) (m : Int), lz.length = l.length → (l.length : Int) ∈ areL (lz ++ [newTh m]) 0 := by
    intro lz m hl
    rw [mem_are]
    refine ⟨⟨by omega, by simp; omega⟩, ?_⟩
    rw [Int.toNat_natCast, ← hl]
    unfold ag
    rw [thAt_snoc, if_neg (Nat.lt_irrefl _), if_pos rfl]; rfl
  by_cases e1 : d = 1
  · have e : doL nur l rm d a b n = ⟨(makeL nur l rm n).1, (makeL nur l rm n).2.1, (makeL nur l rm n).2.2.1, (makeL nur l rm n).2.2.2⟩ := by unfold doL; rw [if_pos e1]
    rw [e]
    unfold makeL
    split
    · exact .inr ⟨fun h => absurd (show (1 : Int) = 0 from h.2) (by decide), rfl⟩
    · split
      · exact .inr ⟨fun h => absurd (show (2 : Int) = 0 from h.2) (by decide), rfl⟩
      · split
        · exact .inl ⟨e1, rfl, rfl, by show (minL l rm ++ [newTh n]).length = _; unfold minL; rw [List.length_append, collL_len]; rfl, hnew _ _ (by unfold minL; rw [collL_len])⟩
        · exact .inl ⟨e1, rfl, rfl, by show (l ++ [newTh n]).length = _; rw [List.length_append]; rfl, hnew _ _ rfl⟩
  · refine .inr ⟨fun h => e1 h.1, ?_⟩
    unfold doL
    rw [if_neg e1]
    split
    · show (setL l rm a b n).1.length = _
      unfold setL
      split
      · split
        · rfl
        · exact putL_len _ _ _ _
      · rfl
    have hh : ∀ c, (holdL l a c).1.length = l.length := fun c => by
      unfold holdL
      split
      · split
        · rfl
        · exact setH_len _ _ _
      · rfl
    split
    · exact hh true
    split
    · exact hh false
    split
    · exact collL_len _ _ _
    split
    · exact collL_len _ _ _
    · rfl
/-! ### Barrier -/
theorem bar_iff {nur : Int} {l : List Th} {rm : Int → Bool} (h : GI nur l rm) {n : Nat} (hn : n < l.length) : (n : Int) ∈ barL l rm ↔ ¬ (n : Int) ∈ areL l 0 ∧ ∃ k ∈ (graphL l).getD n [], k ∈ areL l 0 := by
  rw [barL_mem, mem_are, Int.toNat_natCast]
  have hy : hasY l (n : Int) = true ↔ ∃ x, pl l n x ∧ ag l x = 0 := by
    unfold hasY
    rw [Int.toNat_natCast, List.any_eq_true]
    constructor
    · rintro ⟨k, hk, hy⟩
      have h0 := youngB_nat hy
      obtain ⟨x, rfl⟩ : ∃ x : Nat, k = x := ⟨k.toNat, by omega⟩
      exact ⟨x, hk, youngB_iff.1 hy⟩
    · rintro ⟨x, hp, h0⟩
      exact ⟨x, hp, youngB_iff.2 h0⟩
  have hg : (∃ k ∈ (graphL l).getD n [], k ∈ areL l 0) ↔ ∃ x, pl l n x ∧ ag l x = 0 := by
    constructor
    · rintro ⟨k, hk, ha⟩
      obtain ⟨x, rfl, hp⟩ := mem_graph.1 hk
      rw [mem_are, Int.toNat_natCast] at ha
      exact ⟨x, hp, ha.2⟩
    · rintro ⟨x, hp, h0⟩
      refine ⟨x, mem_graph.2 ⟨x, rfl, hp⟩, ?_⟩
      rw [mem_are, Int.toNat_natCast]
      exact ⟨⟨by omega, by have := pl_in h.ok hp; omega⟩, h0⟩
  rw [hy, hg]
  constructor
  · rintro ⟨_, h1, h2⟩
    have := (h.rem _ h1).2.2
    rw [Int.toNat_natCast] at this
    exact ⟨fun h3 => by omega, h2⟩
  · rintro ⟨h1, h2⟩
    refine ⟨⟨by omega, by omega⟩, ?_, h2⟩
    obtain ⟨x, hp, h0⟩ := h2
    rcases h.age n with e | e | e
    · exact absurd ⟨⟨by omega, by omega⟩, e⟩ h1
    · exact h.bar n x hp e h0
    · unfold pl at hp; rw [(h.gone n e).1] at hp; simp at hp
end Go.Proofs.Ytnimidkeoocchaa.Gen
