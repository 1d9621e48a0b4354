/- Package mark, in plain words: what is needed is never gone; the colours' invariants of both kinds. -/
import Derived.Test.YtnimidkeoocchaaMarkSp
import Derived.Test.YtnimidkeoocchaaFromPure
set_option linter.unusedVariables false
set_option linter.unusedSimpArgs false
namespace Go.Proofs.Ytnimidkeoocchaa.Mrk
open Go.RowKit Go.Proofs.Ytnimidkeoocchaa.PK Go.Proofs.Ytnimidkeoocchaa.Rch

def pl (l : List Th) (n x : Nat) : Prop := (x : Int) ∈ (thAt l n).f0
def cl (l : List Th) (n : Nat) : Int := (thAt l n).f1
def hd (l : List Th) (n : Nat) : Prop := (thAt l n).f2 = true
instance decPl (l : List Th) (n x : Nat) : Decidable (pl l n x) := by unfold pl; infer_instance
theorem thAt_none {l : List Th} {n : Nat} (h : ¬ n < l.length) : thAt l n = ⟨[], 0, false⟩ := by
  unfold thAt; rw [List.getD_eq_getElem?_getD, List.getElem?_eq_none (by omega)]; rfl
theorem pl_lt {l : List Th} {n x : Nat} (h : pl l n x) : n < l.length := by
  by_cases e : n < l.length
  · exact e
  · unfold pl at h; rw [thAt_none e] at h; simp at h
theorem hd_lt {l : List Th} {n : Nat} (h : hd l n) : n < l.length := by
  by_cases e : n < l.length
  · exact e
  · unfold hd at h; rw [thAt_none e] at h; simp at h
theorem cl_lt {l : List Th} {n : Nat} (h : cl l n ≠ 0) : n < l.length := by
  by_cases e : n < l.length
  · exact e
  · unfold cl at h; rw [thAt_none e] at h; simp at h
theorem pl_in {l : List Th} (ho : OkL l) {n x : Nat} (h : pl l n x) : x < l.length := by
  have hn := pl_lt h
  unfold pl at h
  rw [thAt_eq hn] at h
  have h_ := (ho.pl _ (List.getElem_mem hn)).2 _ h
  omega
inductive Nd (l : List Th) : Nat → Prop
  | root {n : Nat} : hd l n → Nd l n
  | has {n k : Nat} : Nd l n → pl l n k → Nd l k
inductive Gy (l : List Th) : Nat → Prop
  | grey {n : Nat} : cl l n = 1 → Gy l n
  | has {n k : Nat} : Gy l n → cl l n ≤ 1 → pl l n k → Gy l k
/-! ### What is needed, by From -/
theorem mem_held {l : List Th} {n : Int} : n ∈ heldL l ↔ ∃ m : Nat, n = m ∧ hd l m := by
  unfold heldL hd
  simp only [List.mem_map, List.mem_filter, List.mem_range]
  constructor
  · rintro ⟨a, ⟨_, h⟩, rfl⟩
    exact ⟨a, rfl, h⟩
  · rintro ⟨m, rfl, h⟩
    exact ⟨m, ⟨hd_lt h, h⟩, rfl⟩
theorem mem_graph {l : List Th} {n : Nat} {k : Int} : k ∈ (graphL l).getD n [] ↔ ∃ m : Nat, k = m ∧ pl l n m := by
  unfold graphL pl
  rw [List.getD_eq_getElem?_getD, List.getElem?_map]
  by_cases h : n < l.length
  · rw [List.getElem?_eq_getElem h, thAt_eq h]
    simp only [Option.map_some, Option.getD_some, List.mem_filter]
    constructor
    · rintro ⟨h1, h2⟩
      have h3 : ¬ k < 0 := by unfold posI negI at h2; simpa using h2
      exact ⟨k.toNat, by omega, by rwa [show ((k.toNat : Nat) : Int) = k from by omega]⟩
    · rintro ⟨m, rfl, h1⟩
      exact ⟨h1, by unfold posI negI; simp⟩
  · rw [List.getElem?_eq_none (by omega), thAt_none h]
    simp
theorem lf_nd {l : List Th} {k : Int} (h : Lf (graphL l) (heldL l) k) : ∃ m : Nat, k = m ∧ Nd l m := by
  induction h with
  | root h =>
    obtain ⟨m, e, h⟩ := mem_held.1 h
    exact ⟨m, e, .root h⟩
  | has _ hk ih =>
    obtain ⟨m, rfl, hm⟩ := ih
    rw [Int.toNat_natCast] at hk
    obtain ⟨m2, e, h2⟩ := mem_graph.1 hk
    exact ⟨m2, e, .has hm h2⟩
theorem nd_lf {l : List Th} {m : Nat} (h : Nd l m) : Lf (graphL l) (heldL l) (m : Int) := by
  induction h with
  | root h => exact .root (mem_held.2 ⟨_, rfl, h⟩)
  | has _ hk ih => exact .has ih (by rw [Int.toNat_natCast]; exact mem_graph.2 ⟨_, rfl, hk⟩)
theorem need_iff {l : List Th} (ho : OkL l) {m : Nat} (hm : m < l.length) : (needL l).getD m false = true ↔ Nd l m := by
  have h_ := (fromL_iff (graphL_in ho) (heldL_in l)).2 (m : Int) (by rw [graphL_len]; omega)
  rw [Int.toNat_natCast] at h_
  refine h_.trans ⟨fun h => ?_, nd_lf⟩
  obtain ⟨m', e, h2⟩ := lf_nd h
  have e2 : m = m' := by omega
  rwa [e2]
/-! ### Colours -/
structure Sm (l l' : List Th) : Prop where
  len : l'.length = l.length
  f0 : ∀ i, (thAt l' i).f0 = (thAt l i).f0
  f2 : ∀ i, (thAt l' i).f2 = (thAt l i).f2
theorem Sm.refl (l : List Th) : Sm l l := ⟨rfl, fun _ => rfl, fun _ => rfl⟩
theorem Sm.trans {a b c : List Th} (h : Sm a b) (k : Sm b c) : Sm a c := ⟨k.len.trans h.len, fun i => (k.f0 i).trans (h.f0 i), fun i => (k.f2 i).trans (h.f2 i)⟩
theorem Sm.pl {l l' : List Th} (h : Sm l l') {n x : Nat} : pl l' n x ↔ pl l n x := by unfold Mrk.pl; rw [h.f0]
theorem Sm.hd {l l' : List Th} (h : Sm l l') {n : Nat} : hd l' n ↔ hd l n := by unfold Mrk.hd; rw [h.f2]
theorem thAt_set {l : List Th} {i n : Nat} {x : Th} (hi : i < l.length) : thAt (l.set i x) n = if n = i then x else thAt l n := by
  unfold thAt
  simp only [List.getD_eq_getElem?_getD, List.getElem?_set]
  by_cases e : i = n
  · subst e; simp [hi]
  · rw [if_neg e, if_neg (fun h => e h.symm)]
theorem setC_sm (l : List Th) (i : Nat) (c : Int) : Sm l (setC l i c) := by
  refine ⟨setC_len _ _ _, fun j => hasL_at (setC_has l i c) j, fun j => ?_⟩
  by_cases hi : i < l.length
  · unfold setC; rw [thAt_set hi]; split
    · rename_i e; subst e; rfl
    · rfl
  · unfold setC; rw [thAt_out hi]
theorem setC_cl {l : List Th} {i : Nat} (hi : i < l.length) (c : Int) (n : Nat) : cl (setC l i c) n = if n = i then c else cl l n := by
  unfold cl setC; rw [thAt_set hi]; split <;> rfl
theorem shade_sm (mk : Bool) (x : Int) (l : List Th) : Sm l (shadeL mk x l) := by unfold shadeL; split; exact setC_sm _ _ _; exact Sm.refl _
theorem shade_cl (x : Int) (l : List Th) (n : Nat) : cl (shadeL true x l) n = if (n : Int) = x ∧ n < l.length ∧ cl l n = 0 then 1 else cl l n := by
  unfold shadeL
  by_cases hx : 0 ≤ x ∧ x.toNat < l.length
  · obtain ⟨m, rfl⟩ : ∃ m : Nat, x = m := ⟨x.toNat, by omega⟩
    rw [Int.toNat_natCast] at hx ⊢
    by_cases hc : (thAt l m).f1 = 0
    · rw [if_pos ⟨rfl, hx.1, hc⟩, setC_cl hx.2]
      by_cases e : n = m
      · subst e; rw [if_pos rfl, if_pos ⟨rfl, hx.2, hc⟩]
      · rw [if_neg e, if_neg (fun h => e (by omega))]
    · rw [if_neg (fun h => hc h.2.2)]
      by_cases e : n = m
      · subst e; rw [if_neg (fun h => hc h.2.2)]
      · rw [if_neg (fun h => e (by omega))]
  · rw [if_neg (c := (n : Int) = x ∧ _) (fun h => hx ⟨by omega, by omega⟩)]
    split
    · rename_i h
      have : ¬ x.toNat < l.length := fun h2 => hx ⟨h.2.1, h2⟩
      unfold setC; rw [thAt_out this]
    · rfl
theorem shades_sm (mk : Bool) (ks : List Int) : ∀ l, Sm l (shadesL mk ks l) := by
  induction ks with
  | nil => intro l; exact Sm.refl l
  | cons k ks ih => intro l; rw [shadesL, List.foldl_cons, ← shadesL]; exact (shade_sm mk k l).trans (ih _)
theorem shades_cl (ks : List Int) : ∀ (l : List Th) (n : Nat), cl (shadesL true ks l) n = if (n : Int) ∈ ks ∧ n < l.length ∧ cl l n = 0 then 1 else cl l n := by
  induction ks with
  | nil => intro l n; rw [if_neg (fun h => by simp at h)]; rfl
  | cons k ks ih =>
    intro l n
    rw [shadesL, List.foldl_cons, ← shadesL, ih, shade_cl, shadeL_len]
    by_cases hn : n < l.length
    · by_cases hc : cl l n = 0
      · by_cases hk : (n : Int) = k
        · rw [if_pos (c := (n : Int) = k ∧ _) ⟨hk, hn, hc⟩, if_neg (fun h => by have := h.2.2; omega), if_pos ⟨by simp [hk], hn, hc⟩]
        · rw [if_neg (c := (n : Int) = k ∧ _) (fun h => hk h.1)]
          by_cases hm : (n : Int) ∈ ks
          · rw [if_pos ⟨hm, hn, hc⟩, if_pos ⟨by simp [hm], hn, hc⟩]
          · rw [if_neg (fun h => hm h.1), if_neg (fun h => by have := List.mem_cons.1 h.1; exact this.elim hk hm)]
      · rw [if_neg (c := (n : Int) = k ∧ _) (fun h => hc h.2.2), if_neg (fun h => hc h.2.2), if_neg (fun h => hc h.2.2)]
    · rw [if_neg (c := (n : Int) = k ∧ _) (fun h => hn h.2.1), if_neg (fun h => hn h.2.1), if_neg (fun h => hn h.2.1)]
/-! ### What marking keeps -/
def U (B : List Bool) (k : Nat) : Prop := B.getD k true = false
structure Mk (kind : Int) (B : List Bool) (l : List Th) : Prop where
  a : ∀ k, U B k → cl l k = 0 ∨ cl l k = 3
  b : ∀ n x, ¬ U B n → pl l n x → ¬ U B x
  c : ∀ n, hd l n → ¬ U B n
  d1 : kind = 1 → ∀ n x, pl l n x → cl l n = 2 → cl l x ≠ 0
  d2 : kind = 1 → ∀ n, hd l n → cl l n ≠ 0
  y : kind = 2 → ∀ k, k < l.length → ¬ U B k → cl l k = 0 → Gy l k
structure Gd (l : List Th) : Prop where
  rng : ∀ n, 0 ≤ cl l n ∧ cl l n ≤ 3
  p : ∀ n x, pl l n x → cl l x ≠ 3
  h : ∀ n, hd l n → cl l n ≠ 3
  e : ∀ n x, pl l n x → cl l n ≠ 3
theorem Mk.need {kind : Int} {B : List Bool} {l : List Th} (h : Mk kind B l) {k : Nat} (hk : Nd l k) : ¬ U B k := by
  induction hk with
  | root hr => exact h.c _ hr
  | has _ hp ih => exact h.b _ _ ih hp
theorem Gd.need {l : List Th} (h : Gd l) {k : Nat} (hk : Nd l k) : cl l k ≠ 3 := by
  cases hk with
  | root hr => exact h.h _ hr
  | has _ hp => exact h.p _ _ hp
/-- Colours go up: white to grey alone. -/
theorem Gd.up {l l' : List Th} (h : Gd l) (s : Sm l l') (hc : ∀ n, cl l' n = cl l n ∨ (0 ≤ cl l' n ∧ cl l' n < 3)) : Gd l' := by
  refine ⟨fun n => ?_, fun n x hp => ?_, fun n hh => ?_, fun n x hp => ?_⟩
  · rcases hc n with e | e
    · rw [e]; exact h.rng n
    · omega
  · rcases hc x with e | e
    · rw [e]; exact h.p n x (s.pl.1 hp)
    · omega
  · rcases hc n with e | e
    · rw [e]; exact h.h n (s.hd.1 hh)
    · omega
  · rcases hc n with e | e
    · rw [e]; exact h.e n x (s.pl.1 hp)
    · omega
theorem gy_shade {l l' : List Th} (s : Sm l l') (hc : ∀ n, cl l' n = cl l n ∨ (cl l n = 0 ∧ cl l' n = 1)) {k : Nat} (h : Gy l k) : Gy l' k := by
  induction h with
  | @grey n h => exact .grey (by rcases hc n with e | e <;> omega)
  | @has n k _ hn hp ih => exact .has ih (by rcases hc n with e | e <;> omega) (s.pl.2 hp)
theorem Mk.shade {kind : Int} {B : List Bool} {l : List Th} (h : Mk kind B l) (x : Int) (hx : ∀ m : Nat, x = m → ¬ U B m) : Mk kind B (shadeL true x l) := by
  have s := shade_sm true x l
  have hc : ∀ n, cl (shadeL true x l) n = cl l n ∨ (cl l n = 0 ∧ cl (shadeL true x l) n = 1) := by
    intro n; rw [shade_cl]; split
    · rename_i e; exact .inr ⟨e.2.2, rfl⟩
    · exact .inl rfl
  refine ⟨fun k hk => ?_, fun n x hn hp => h.b n x hn (s.pl.1 hp), fun n hh => h.c n (s.hd.1 hh), fun e n x hp h2 => ?_, fun e n hh => ?_, fun e k hk hu h0 => ?_⟩
  · rw [shade_cl]
    split
    · rename_i e; exact absurd hk (hx k e.1.symm)
    · exact h.a k hk
  · have := h.d1 e n x (s.pl.1 hp)
    rcases hc n with e1 | e1
    · rcases hc x with e2 | e2
      · rw [e2]; exact this (by omega)
      · omega
    · omega
  · have := h.d2 e n (s.hd.1 hh)
    rcases hc n with e1 | e1 <;> omega
  · refine gy_shade s hc (h.y e k (by rw [← s.len]; exact hk) hu ?_)
    rcases hc k with e1 | e1 <;> omega
theorem shade_gd {l : List Th} (h : Gd l) (mk : Bool) (x : Int) : Gd (shadeL mk x l) := by
  cases mk with
  | false => rw [shade_false]; exact h
  | true =>
    refine h.up (shade_sm _ _ _) (fun n => ?_)
    rw [shade_cl]; split
    · exact .inr (by omega)
    · exact .inl rfl
/-! ### One step -/
theorem step_sm (mk : Bool) (l : List Th) : Sm l (stepL mk l).1 := by
  unfold stepL; split
  · exact Sm.refl l
  · exact (setC_sm _ _ _).trans (shades_sm _ _ _)
theorem step_cl {l : List Th} (h : (stepL true l).2 = true) : ∃ i, i < l.length ∧ cl l i = 1 ∧ ∀ n, cl (stepL true l).1 n = if n = i then 2 else if pl l i n ∧ n < l.length ∧ cl l n = 0 then 1 else cl l n := by
  unfold stepL at h ⊢
  split at h
  · simp at h
  · rename_i hn
    rw [if_neg hn]
    rcases idxG_cases l with ⟨e, _⟩ | ⟨i, hi, e, hc⟩
    · rw [e] at hn; simp at hn
    · rw [e, Int.toNat_natCast]
      refine ⟨i, hi, by unfold cl; rw [thAt_eq hi]; exact hc, fun n => ?_⟩
      simp only
      rw [shades_cl, setC_cl hi, setC_len]
      by_cases e : n = i
      · subst e; simp
      · simp only [if_neg e]; rfl
theorem Mk.step {kind : Int} {B : List Bool} {l : List Th} (h : Mk kind B l) (hG : Gd l) (ho : OkL l) : Mk kind B (stepL true l).1 := by
  cases hq : (stepL true l).2 with
  | false => rw [stepL_no true l hq]; exact h
  | true =>
    have s := step_sm true l
    obtain ⟨i, hi, h1, hc⟩ := step_cl hq
    generalize (stepL true l).1 = l' at s hc
    have hiu : ¬ U B i := fun hu => by rcases h.a i hu with e | e <;> omega
    have hge : ∀ n, cl l n ≠ 0 → cl l' n ≠ 0 := by
      intro n hn
      rw [hc n]
      split
      · omega
      · split
        · omega
        · exact hn
    refine ⟨fun k hk => ?_, fun n x hn hp => h.b n x hn (s.pl.1 hp), fun n hh => h.c n (s.hd.1 hh), fun e n x hp h2 => ?_, fun e n hh => hge n (h.d2 e n (s.hd.1 hh)), fun e k hk hu h0 => ?_⟩
    · have e1 : k ≠ i := fun e => hiu (e ▸ hk)
      have e2 : ¬ pl l i k := fun e => h.b i k hiu e hk
      rw [hc k, if_neg e1, if_neg (fun e => e2 e.1)]
      exact h.a k hk
    · have hp' := s.pl.1 hp
      by_cases e1 : n = i
      · subst e1
        have hx := pl_in ho hp'
        rw [hc x]
        split
        · omega
        · split
          · omega
          · rename_i h3; exact fun h4 => h3 ⟨hp', hx, h4⟩
      · refine hge x (h.d1 e n x hp' ?_)
        rw [hc n, if_neg e1] at h2
        split at h2
        · omega
        · exact h2
    · have h00 : cl l k = 0 := by
        rw [hc k] at h0
        split at h0
        · omega
        · split at h0
          · omega
          · exact h0
      have hg := h.y e k (by rw [← s.len]; exact hk) hu h00
      have key : ∀ m, Gy l m → Gy l' m ∨ 1 < cl l' m := by
        intro m hm
        induction hm with
        | @grey n hn =>
          have := hc n
          by_cases e1 : n = i
          · rw [if_pos e1] at this; exact .inr (by omega)
          · rw [if_neg e1, if_neg (fun e => by omega)] at this; exact .inl (.grey (by omega))
        | @has n m _ hn hp ih =>
          by_cases e1 : n = i
          · subst e1
            have hx := pl_in ho hp
            by_cases e2 : cl l' m = 1
            · exact .inl (.grey e2)
            · refine .inr ?_
              have := hc m
              by_cases e3 : m = n
              · rw [if_pos e3] at this; omega
              · rw [if_neg e3] at this
                by_cases e4 : cl l m = 0
                · rw [if_pos ⟨hp, hx, e4⟩] at this; omega
                · rw [if_neg (fun e => e4 e.2.2)] at this
                  have h5 := (hG.rng m).1
                  omega
          · have hn' : cl l' n ≤ 1 := by rw [hc n, if_neg e1]; split <;> omega
            rcases ih with h3 | h3
            · exact .inl (.has h3 hn' (s.pl.2 hp))
            · omega
      rcases key k hg with h3 | h3
      · exact h3
      · omega

theorem step_gd {l : List Th} (h : Gd l) : Gd (stepL true l).1 := by
  cases hq : (stepL true l).2 with
  | false => rw [stepL_no true l hq]; exact h
  | true =>
    obtain ⟨i, hi, h1, hc⟩ := step_cl hq
    refine h.up (step_sm true l) (fun n => ?_)
    rw [hc n]
    split
    · exact .inr (by omega)
    · split
      · exact .inr (by omega)
      · exact .inl rfl
structure MG (kind : Int) (B : List Bool) (l : List Th) : Prop where
  ok : OkL l
  g : Gd l
  m : Mk kind B l
theorem MG.step {kind : Int} {B : List Bool} {l : List Th} (h : MG kind B l) : MG kind B (stepL true l).1 := ⟨h.ok.of_has (stepL_has _ _), step_gd h.g, h.m.step h.g h.ok⟩
theorem MG.run {kind : Int} {B : List Bool} (n : Int) : ∀ k m {l : List Th}, MG kind B l → MG kind B (runL true n k m l).1 ∧ Sm l (runL true n k m l).1
  | 0, m, l, h => ⟨h, Sm.refl l⟩
  | k + 1, m, l, h => by
    rw [runL]
    split
    · split
      · have h_ := MG.run n k (m + 1) h.step
        exact ⟨h_.1, (step_sm true l).trans h_.2⟩
      · exact ⟨h, Sm.refl l⟩
    · exact ⟨h, Sm.refl l⟩
theorem MG.fin {kind : Int} {B : List Bool} : ∀ k {l : List Th}, MG kind B l → MG kind B (finL true k l) ∧ Sm l (finL true k l)
  | 0, l, h => ⟨h, Sm.refl l⟩
  | k + 1, l, h => by
    rw [finL]
    split
    · have h_ := MG.fin k h.step
      exact ⟨h_.1, (step_sm true l).trans h_.2⟩
    · exact ⟨h, Sm.refl l⟩
/-! ### A place is set -/
theorem put_at {l : List Th} {i : Nat} (hi : i < l.length) (j : Nat) (x : Int) (n : Nat) : thAt (putL l i j x) n = if n = i then ⟨(thAt l i).f0.set j x, (thAt l i).f1, (thAt l i).f2⟩ else thAt l n := by unfold putL; exact thAt_set hi
theorem put_cl {l : List Th} {i : Nat} (hi : i < l.length) (j : Nat) (x : Int) (n : Nat) : cl (putL l i j x) n = cl l n := by unfold cl; rw [put_at hi]; split; rename_i e; subst e; rfl; rfl
theorem put_hd {l : List Th} {i : Nat} (hi : i < l.length) (j : Nat) (x : Int) (n : Nat) : hd (putL l i j x) n ↔ hd l n := by unfold hd; rw [put_at hi]; split; rename_i e; subst e; exact Iff.rfl; exact Iff.rfl
theorem put_pl {l : List Th} {i : Nat} (hi : i < l.length) {j : Nat} {x : Int} {n m : Nat} (h : pl (putL l i j x) n m) : pl l n m ∨ (n = i ∧ (m : Int) = x) := by
  unfold pl at h ⊢
  rw [put_at hi] at h
  split at h
  · rename_i e
    subst e
    rcases List.mem_or_eq_of_mem_set h with h | h
    · exact .inl h
    · exact .inr ⟨rfl, h⟩
  · exact .inl h
/-- What was there stays there, or it was in the place that is set. -/
theorem put_old {l : List Th} {i : Nat} (hi : i < l.length) {j : Nat} {x : Int} {n m : Nat} (h : pl l n m) : pl (putL l i j x) n m ∨ (n = i ∧ (m : Int) = (thAt l i).f0.getD j 0) := by
  unfold pl at h ⊢
  rw [put_at hi]
  split
  · rename_i e
    subst e
    obtain ⟨k, hk, e⟩ := List.getElem_of_mem h
    by_cases ek : k = j
    · subst ek
      exact .inr ⟨rfl, by rw [List.getD_eq_getElem?_getD, List.getElem?_eq_getElem hk]; exact e.symm⟩
    · refine .inl ?_
      rw [← e]
      have hk2 : k < ((thAt l n).f0.set j x).length := by simpa using hk
      have : ((thAt l n).f0.set j x)[k] = (thAt l n).f0[k] := List.getElem_set_ne (fun e => ek e.symm) _
      rw [← this]
      exact List.getElem_mem hk2
  · exact .inl h
theorem put_gd {l : List Th} (h : Gd l) {i : Nat} (hi : i < l.length) (j : Nat) {x : Int} (hx : ∀ m : Nat, x = m → cl l m ≠ 3) (hi3 : cl l i ≠ 3) : Gd (putL l i j x) := by
  refine ⟨fun n => by rw [put_cl hi]; exact h.rng n, fun n m hp => ?_, fun n hh => by rw [put_cl hi]; exact h.h n ((put_hd hi _ _ _).1 hh), fun n m hp => ?_⟩
  all_goals rw [put_cl hi]
  · rcases put_pl hi hp with hp | ⟨_, e⟩
    · exact h.p n m hp
    · exact hx m e.symm
  · rcases put_pl hi hp with hp | ⟨e, _⟩
    · exact h.e n m hp
    · rw [e]; exact hi3
theorem Mk.put {kind : Int} {B : List Bool} {l : List Th} (h : Mk kind B l) {i : Nat} (hi : i < l.length) (j : Nat) {x : Int} (hx : ∀ m : Nat, x = m → ¬ U B m)
    (h1 : kind = 1 → ∀ m : Nat, x = m → cl l m ≠ 0) (h2 : kind = 2 → ∀ m : Nat, (m : Int) = (thAt l i).f0.getD j 0 → cl l m = 1 ∨ 1 < cl l m) : Mk kind B (putL l i j x) := by
  refine ⟨fun k hk => by rw [put_cl hi]; exact h.a k hk, fun n m hn hp => ?_, fun n hh => h.c n ((put_hd hi _ _ _).1 hh), fun e n m hp hc => ?_, fun e n hh => ?_, fun e k hk hu h0 => ?_⟩
  · rcases put_pl hi hp with hp | ⟨_, e⟩
    · exact h.b n m hn hp
    · exact hx m e.symm
  · rw [put_cl hi] at hc ⊢
    rcases put_pl hi hp with hp | ⟨_, e2⟩
    · exact h.d1 e n m hp hc
    · exact h1 e m e2.symm
  · rw [put_cl hi]; exact h.d2 e n ((put_hd hi _ _ _).1 hh)
  · rw [put_cl hi] at h0
    have hg := h.y e k (by rwa [putL_len] at hk) hu h0
    have key : ∀ m, Gy l m → Gy (putL l i j x) m ∨ 1 < cl l m := by
      intro m hm
      induction hm with
      | @grey n hn => exact .inl (.grey (by rw [put_cl hi]; exact hn))
      | @has n m _ hn hp ih =>
        rcases ih with h3 | h3
        · rcases put_old (j := j) (x := x) hi hp with h4 | ⟨_, h4⟩
          · exact .inl (.has h3 (by rw [put_cl hi]; exact hn) h4)
          · rcases h2 e m h4 with h5 | h5
            · exact .inl (.grey (by rw [put_cl hi]; exact h5))
            · exact .inr h5
        · omega
    rcases key k hg with h3 | h3
    · exact h3
    · omega
/-! ### A thing is held, or not -/
theorem seth_at {l : List Th} {i : Nat} (hi : i < l.length) (b : Bool) (n : Nat) : thAt (setH l i b) n = if n = i then ⟨(thAt l i).f0, (thAt l i).f1, b⟩ else thAt l n := by unfold setH; exact thAt_set hi
theorem seth_cl {l : List Th} {i : Nat} (hi : i < l.length) (b : Bool) (n : Nat) : cl (setH l i b) n = cl l n := by unfold cl; rw [seth_at hi]; split; rename_i e; subst e; rfl; rfl
theorem seth_pl {l : List Th} {i : Nat} (hi : i < l.length) (b : Bool) (n m : Nat) : pl (setH l i b) n m ↔ pl l n m := by unfold pl; rw [seth_at hi]; split; rename_i e; subst e; exact Iff.rfl; exact Iff.rfl
theorem seth_hd {l : List Th} {i : Nat} (hi : i < l.length) {b : Bool} {n : Nat} (h : hd (setH l i b) n) : hd l n ∨ (n = i ∧ b = true) := by
  unfold hd at h ⊢
  rw [seth_at hi] at h
  split at h
  · rename_i e; exact .inr ⟨e, h⟩
  · exact .inl h
theorem seth_gd {l : List Th} (h : Gd l) {i : Nat} (hi : i < l.length) (b : Bool) (hx : cl l i ≠ 3) : Gd (setH l i b) := by
  refine ⟨fun n => by rw [seth_cl hi]; exact h.rng n, fun n m hp => by rw [seth_cl hi]; exact h.p n m ((seth_pl hi _ _ _).1 hp), fun n hh => ?_, fun n m hp => by rw [seth_cl hi]; exact h.e n m ((seth_pl hi _ _ _).1 hp)⟩
  rw [seth_cl hi]
  rcases seth_hd hi hh with h2 | ⟨rfl, _⟩
  · exact h.h n h2
  · exact hx
theorem gy_seth {l : List Th} {i : Nat} (hi : i < l.length) (b : Bool) {k : Nat} (h : Gy l k) : Gy (setH l i b) k := by
  induction h with
  | grey h => exact .grey (by rw [seth_cl hi]; exact h)
  | has _ hn hp ih => exact .has ih (by rw [seth_cl hi]; exact hn) ((seth_pl hi _ _ _).2 hp)
theorem Mk.seth {kind : Int} {B : List Bool} {l : List Th} (h : Mk kind B l) {i : Nat} (hi : i < l.length) (b : Bool) (hx : ¬ U B i) (h1 : kind = 1 → b = true → cl l i ≠ 0) : Mk kind B (setH l i b) := by
  refine ⟨fun k hk => by rw [seth_cl hi]; exact h.a k hk, fun n m hn hp => h.b n m hn ((seth_pl hi _ _ _).1 hp), fun n hh => ?_, fun e n m hp hc => ?_, fun e n hh => ?_, fun e k hk hu h0 => ?_⟩
  · rcases seth_hd hi hh with h2 | ⟨rfl, _⟩
    · exact h.c n h2
    · exact hx
  · rw [seth_cl hi] at hc ⊢; exact h.d1 e n m ((seth_pl hi _ _ _).1 hp) hc
  · rw [seth_cl hi]
    rcases seth_hd hi hh with h2 | ⟨rfl, hb⟩
    · exact h.d2 e n h2
    · exact h1 e hb
  · rw [seth_cl hi] at h0
    exact gy_seth hi b (h.y e k (by rwa [setH_len] at hk) hu h0)
/-! ### A thing more -/
theorem snoc_at {l : List Th} {x : Th} {n : Nat} : thAt (l ++ [x]) n = if n = l.length then x else thAt l n := by
  unfold thAt
  rw [List.getD_eq_getElem?_getD, List.getElem?_append, List.getD_eq_getElem?_getD]
  by_cases h : n < l.length
  · rw [if_pos h, if_neg (by omega)]
  · rw [if_neg h]
    by_cases e : n = l.length
    · subst e; simp
    · rw [if_neg e, List.getElem?_eq_none (by simp; omega), List.getElem?_eq_none (by omega)]
theorem new_pl {mk : Bool} {l : List Th} {k : Int} {n m : Nat} : pl (l ++ [newTh mk k]) n m ↔ pl l n m := by
  constructor
  · intro h
    unfold pl at h ⊢
    rw [snoc_at] at h
    split at h
    · unfold newTh at h
      have := List.eq_of_mem_replicate h
      omega
    · exact h
  · intro h
    have hl := pl_lt h
    unfold pl at h ⊢
    rw [snoc_at, if_neg (by omega)]
    exact h
theorem new_cl {mk : Bool} {l : List Th} {k : Int} {n : Nat} : cl (l ++ [newTh mk k]) n = if n = l.length then (if mk = true then 2 else 0) else cl l n := by unfold cl; rw [snoc_at]; split <;> rfl
theorem new_hd {mk : Bool} {l : List Th} {k : Int} {n : Nat} : hd (l ++ [newTh mk k]) n ↔ hd l n ∨ n = l.length := by
  unfold hd
  rw [snoc_at]
  split
  · rename_i e; exact ⟨fun _ => .inr e, fun _ => rfl⟩
  · rename_i e; exact ⟨.inl, fun h => h.elim id (fun h => absurd h e)⟩
theorem new_gd {l : List Th} (h : Gd l) (ho : OkL l) (mk : Bool) (k : Int) : Gd (l ++ [newTh mk k]) := by
  refine ⟨fun n => ?_, fun n m hp => ?_, fun n hh => ?_, fun n m hp => ?_⟩
  · rw [new_cl]; split
    · split <;> omega
    · exact h.rng n
  · have hp' := new_pl.1 hp
    have := pl_in ho hp'
    rw [new_cl, if_neg (by omega)]
    exact h.p n m hp'
  · rw [new_cl]; split
    · split <;> omega
    · rename_i e
      rcases new_hd.1 hh with h2 | h2
      · exact h.h n h2
      · exact absurd h2 e
  · have hp' := new_pl.1 hp
    have := pl_lt hp'
    rw [new_cl, if_neg (by omega)]
    exact h.e n m hp'
theorem U_lt {B : List Bool} {k : Nat} (h : U B k) : k < B.length := by
  by_cases e : k < B.length
  · exact e
  · unfold U at h; rw [List.getD_eq_getElem?_getD, List.getElem?_eq_none (by omega)] at h; simp at h
theorem Mk.new {kind : Int} {B : List Bool} {l : List Th} (h : Mk kind B l) (ho : OkL l) (hB : B.length ≤ l.length) (k : Int) : Mk kind B (l ++ [newTh true k]) := by
  have hcl : ∀ {n : Nat}, n < l.length → cl (l ++ [newTh true k]) n = cl l n := fun hn => by rw [new_cl, if_neg (by omega)]
  refine ⟨fun n hk => ?_, fun n m hn hp => h.b n m hn (new_pl.1 hp), fun n hh hu => ?_, fun e n m hp hc => ?_, fun e n hh => ?_, fun e n hk hu h0 => ?_⟩
  · have := U_lt hk
    rw [hcl (by omega)]; exact h.a n hk
  · rcases new_hd.1 hh with h2 | h2
    · exact h.c n h2 hu
    · have := U_lt hu; omega
  · have hp' := new_pl.1 hp
    have h1 := pl_lt hp'
    have h2 := pl_in ho hp'
    rw [hcl h1] at hc
    rw [hcl h2]
    exact h.d1 e n m hp' hc
  · rw [new_cl]; split
    · simp
    · rename_i e2
      rcases new_hd.1 hh with h2 | h2
      · exact h.d2 e n h2
      · exact absurd h2 e2
  · rw [new_cl] at h0
    split at h0
    · simp at h0
    · rename_i e2
      have hn : n < l.length := by simp at hk; omega
      have hg := h.y e n hn hu h0
      clear hu h0 hk e2 hn
      induction hg with
      | grey h3 => exact .grey (by rw [hcl (cl_lt (by omega))]; exact h3)
      | has _ h3 hp ih => exact .has ih (by rw [hcl (pl_lt hp)]; exact h3) (new_pl.2 hp)
/-! ### Marking begins -/
theorem begin_fold (l : List Th) : ∀ i, Sm l ((List.range i).foldl begin1 (l, 0)).1 ∧ ∀ n, (n < i → hd l n → cl l n = 0 → cl ((List.range i).foldl begin1 (l, 0)).1 n = 1) ∧ (¬ (n < i ∧ hd l n ∧ cl l n = 0) → cl ((List.range i).foldl begin1 (l, 0)).1 n = cl l n)
  | 0 => ⟨Sm.refl l, fun n => ⟨fun h => absurd h (by omega), fun _ => rfl⟩⟩
  | i + 1 => by
    obtain ⟨s, hc⟩ := begin_fold l i
    rw [beginF_snoc]
    generalize (List.range i).foldl begin1 (l, 0) = q at s hc
    unfold begin1
    by_cases hh : (thAt q.1 i).f2 = true
    · rw [if_pos hh]
      have hhl : hd l i := s.hd.1 hh
      refine ⟨s.trans (shade_sm _ _ _), fun n => ⟨fun h1 h2 h3 => ?_, fun h1 => ?_⟩⟩
      · show cl (shadeL true i q.1) n = 1
        rw [shade_cl]
        split
        · rfl
        · rename_i h4
          by_cases e : n < i
          · exact (hc n).1 e h2 h3
          · have e2 : n = i := by omega
            exact absurd ⟨by omega, by rw [s.len]; exact hd_lt h2, by rw [(hc n).2 (fun h => e h.1)]; exact h3⟩ h4
      · show cl (shadeL true i q.1) n = cl l n
        rw [shade_cl]
        split
        · rename_i h4
          have e2 : n = i := by omega
          subst e2
          have := (hc n).2 (fun h => by omega)
          exact absurd ⟨by omega, hhl, by rw [← this]; exact h4.2.2⟩ h1
        · exact (hc n).2 (fun h => h1 ⟨by omega, h.2⟩)
    · rw [if_neg hh]
      have hhl : ¬ hd l i := fun h => hh (s.hd.2 h)
      refine ⟨s, fun n => ⟨fun h1 h2 h3 => (hc n).1 (by
        by_cases e : n = i
        · subst e; exact absurd h2 hhl
        · omega) h2 h3, fun h1 => (hc n).2 (fun h => h1 ⟨by omega, h.2⟩)⟩⟩
theorem need_U {l : List Th} (ho : OkL l) {k : Nat} : U (needL l) k ↔ k < l.length ∧ ¬ Nd l k := by
  constructor
  · intro h
    have hk := U_lt h
    rw [needL_len] at hk
    refine ⟨hk, fun hn => ?_⟩
    have h1 := (need_iff ho hk).2 hn
    unfold U at h
    rw [getD_true_false _ _ (by rw [needL_len]; exact hk), h1] at h
    cases h
  · rintro ⟨hk, hn⟩
    unfold U
    rw [getD_true_false _ _ (by rw [needL_len]; exact hk)]
    cases e : (needL l).getD k false with
    | false => rfl
    | true => exact absurd ((need_iff ho hk).1 e) hn
theorem begin_gd {l : List Th} (h : Gd l) : Gd (beginL l).1 := by
  obtain ⟨s, hc⟩ := begin_fold l l.length
  refine h.up s (fun n => ?_)
  by_cases e : n < l.length ∧ hd l n ∧ cl l n = 0
  · exact .inr (by have := (hc n).1 e.1 e.2.1 e.2.2; unfold beginL; omega)
  · exact .inl ((hc n).2 e)
theorem begin_mk {kind : Int} {l : List Th} (ho : OkL l) (hcl : Clean l) (h : Gd l) : Mk kind (needL l) (beginL l).1 := by
  obtain ⟨s, hc⟩ := begin_fold l l.length
  change Sm l (beginL l).1 at s
  change ∀ n, (n < l.length → hd l n → cl l n = 0 → cl (beginL l).1 n = 1) ∧ (¬ (n < l.length ∧ hd l n ∧ cl l n = 0) → cl (beginL l).1 n = cl l n) at hc
  generalize (beginL l).1 = l' at s hc
  have c03 : ∀ n, cl l n = 0 ∨ cl l n = 3 := by
    intro n
    by_cases hn : n < l.length
    · have h1 := hcl _ (List.getElem_mem hn)
      have h2 := h.rng n
      have h3 : cl l n = l[n].f1 := by unfold cl; rw [thAt_eq hn]
      rw [← h3] at h1
      omega
    · exact .inl (by unfold cl; rw [thAt_none hn])
  have two : ∀ n, cl l' n = 1 ∨ cl l' n = cl l n := by
    intro n
    by_cases e : n < l.length ∧ hd l n ∧ cl l n = 0
    · exact .inl ((hc n).1 e.1 e.2.1 e.2.2)
    · exact .inr ((hc n).2 e)
  refine ⟨fun k hk => ?_, fun n x hn hp hx => ?_, fun n hh hu => ?_, fun e n x hp h2 => ?_, fun e n hh => ?_, fun e k hk hu h0 => ?_⟩
  · have h1 := (need_U ho).1 hk
    rw [(hc k).2 (fun e => h1.2 (.root e.2.1))]
    exact c03 k
  · have hp' := s.pl.1 hp
    have h1 := (need_U ho).1 hx
    refine hn ((need_U ho).2 ⟨pl_lt hp', fun hN => h1.2 (.has hN hp')⟩)
  · exact ((need_U ho).1 hu).2 (.root (s.hd.1 hh))
  · have h3 := two n
    have h4 := c03 n
    omega
  · have hh' := s.hd.1 hh
    by_cases e0 : cl l n = 0
    · rw [(hc n).1 (hd_lt hh') hh' e0]; decide
    · rw [(hc n).2 (fun h => e0 h.2.2)]; exact e0
  · rw [s.len] at hk
    have hN : Nd l k := by
      by_cases hN : Nd l k
      · exact hN
      · exact absurd ((need_U ho).2 ⟨hk, hN⟩) hu
    clear hk hu h0
    induction hN with
    | @root n hr =>
      have h3 := h.h _ hr
      have h4 := c03 n
      exact .grey ((hc n).1 (hd_lt hr) hr (by omega))
    | @has n k hn hp ih =>
      refine .has ih ?_ (s.pl.2 hp)
      have h3 := h.need hn
      have h4 := c03 n
      have h5 := two n
      omega
/-! ### Marking ends -/
theorem gy_none {l : List Th} (h : ∀ n, cl l n ≠ 1) {k : Nat} (hk : Gy l k) : False := by
  induction hk with
  | grey h1 => exact h _ h1
  | has _ _ _ ih => exact ih
theorem end_at {r : List Th} {n : Nat} (hn : n < r.length) : thAt (r.map end1) n = end1 (thAt r n) := by
  rw [thAt_eq hn, thAt_eq (by simpa using hn)]; simp
theorem end_cl {r : List Th} {n : Nat} (hn : n < r.length) : cl (r.map end1) n = if cl r n = 0 then 3 else if cl r n = 2 then 0 else cl r n := by
  unfold cl; rw [end_at hn]; unfold end1; split
  · rfl
  · split <;> rfl
theorem end_pl {r : List Th} {n x : Nat} (h : pl (r.map end1) n x) : pl r n x ∧ cl r n ≠ 0 := by
  have hn := pl_lt h
  simp only [List.length_map] at hn
  unfold pl at h ⊢
  rw [end_at hn] at h
  unfold end1 at h
  split at h
  · simp at h
  · rename_i h0
    split at h
    · exact ⟨h, h0⟩
    · exact ⟨h, h0⟩
theorem end_hd {r : List Th} {n : Nat} (h : hd (r.map end1) n) : hd r n ∧ cl r n ≠ 0 := by
  have hn := hd_lt h
  simp only [List.length_map] at hn
  unfold hd at h ⊢
  rw [end_at hn] at h
  unfold end1 at h
  split at h
  · simp at h
  · rename_i h0
    split at h
    · exact ⟨h, h0⟩
    · exact ⟨h, h0⟩
theorem no_grey {r : List Th} (hg : ∀ x ∈ r, x.f1 ≠ 1) (n : Nat) : cl r n ≠ 1 := by
  by_cases hn : n < r.length
  · unfold cl; rw [thAt_eq hn]; exact hg _ (List.getElem_mem hn)
  · unfold cl; rw [thAt_none hn]; decide
/-- Where none is grey, no black one has a white one. -/
theorem MG.black {kind : Int} {B : List Bool} {r : List Th} (h : MG kind B r) (hk : kind = 1 ∨ kind = 2) (hg : ∀ n, cl r n ≠ 1) {n x : Nat} (hp : pl r n x) (h0 : cl r n ≠ 0) : cl r x ≠ 0 := by
  have h2 : cl r n = 2 := by
    have h1 := h.g.rng n
    have h3 := h.g.e n x hp
    have h4 := hg n
    omega
  rcases hk with e | e
  · exact h.m.d1 e n x hp h2
  · intro hx
    have hn : ¬ U B n := fun hu => by rcases h.m.a n hu with e | e <;> omega
    exact gy_none hg (h.m.y e x (pl_in h.ok hp) (h.m.b n x hn hp) hx)
theorem end_gd {kind : Int} {B : List Bool} {r : List Th} (h : MG kind B r) (hk : kind = 1 ∨ kind = 2) (hg : ∀ n, cl r n ≠ 1) : Gd (r.map end1) := by
  refine ⟨fun n => ?_, fun n x hp => ?_, fun n hh => ?_, fun n x hp => ?_⟩
  · by_cases hn : n < r.length
    · rw [end_cl hn]
      have := h.g.rng n
      split
      · omega
      · split <;> omega
    · unfold cl; rw [thAt_none (by simpa using hn)]; decide
  · obtain ⟨hp', h0⟩ := end_pl hp
    have hx := pl_in h.ok hp'
    rw [end_cl hx, if_neg (h.black hk hg hp' h0)]
    split
    · decide
    · exact h.g.p n x hp'
  · obtain ⟨hh', h0⟩ := end_hd hh
    rw [end_cl (hd_lt hh'), if_neg h0]
    split
    · decide
    · exact h.g.h n hh'
  · obtain ⟨hp', h0⟩ := end_pl hp
    rw [end_cl (pl_lt hp'), if_neg h0]
    split
    · decide
    · exact h.g.e n x hp'
theorem end_U {kind : Int} {B : List Bool} {r : List Th} (h : MG kind B r) {k : Nat} (hk : k < r.length) (hu : U B k) : cl (r.map end1) k = 3 := by
  rw [end_cl hk]
  rcases h.m.a k hu with e | e <;> simp [e]
/-! ### What deeds keep -/
structure K (kind : Int) (mk : Bool) (B : List Bool) (l : List Th) : Prop where
  inv : Inv mk l
  g : Gd l
  m : mk = true → Mk kind B l
  len : B.length ≤ l.length
/-- What was needed when marking began. -/
def nextB (mk mk' : Bool) (B : List Bool) (l : List Th) : List Bool := if mk = false ∧ mk' = true then needL l else B
theorem nextB_same (mk : Bool) (B : List Bool) (l : List Th) : nextB mk mk B l = B := by unfold nextB; rw [if_neg (fun h => by have := h.1.symm.trans h.2; cases this)]
theorem Sm.nd {l l' : List Th} (s : Sm l l') {k : Nat} (h : Nd l k) : Nd l' k := by
  induction h with
  | root h => exact .root (s.hd.2 h)
  | has _ h ih => exact .has ih (s.pl.2 h)
theorem named_nd {l : List Th} (ho : OkL l) {ns : List Int} (h : namedE l ns = 0) {n : Int} (hn : n ∈ ns) : ∃ m : Nat, n = m ∧ m < l.length ∧ Nd l m := by
  have h1 := namedE_in h n hn
  have h2 := namedE_need h n hn
  exact ⟨n.toNat, by omega, by omega, (need_iff ho (by omega)).1 h2⟩
theorem set_k {kind : Int} {mk : Bool} {B : List Bool} {l : List Th} (hk : kind = 1 ∨ kind = 2) (h : K kind mk B l) (a b n : Int) : Gd (setL kind mk l a b n).1 ∧ (mk = true → Mk kind B (setL kind mk l a b n).1) := by
  have ho := h.inv.ok
  unfold setL
  split
  · rename_i he
    split
    · exact ⟨h.g, h.m⟩
    · rename_i hn
      obtain ⟨i, rfl, hi, hA⟩ := named_nd ho he (n := a) (by unfold nsOf; split <;> simp)
      have hB : ∀ m : Nat, b = m → m < l.length ∧ Nd l m := by
        intro m e
        obtain ⟨m', e', h1, h2⟩ := named_nd ho he (n := b) (by unfold nsOf; rw [if_neg (by omega)]; simp)
        have : m = m' := by omega
        subst this
        exact ⟨h1, h2⟩
      rw [Int.toNat_natCast] at hn ⊢
      have hj : n.toNat < (thAt l i).f0.length := by omega
      have hold : kind = 2 → ∀ m : Nat, (m : Int) = (thAt l i).f0.getD n.toNat 0 → pl l i m := by
        intro _ m e
        unfold pl
        rw [e, List.getD_eq_getElem?_getD, List.getElem?_eq_getElem hj]
        exact List.getElem_mem hj
      have hx : mk = true → ∀ m : Nat, oldOf kind l i b n = m → ¬ U B m := by
        intro em m e
        unfold oldOf at e
        split at e
        · exact (h.m em).need (hB m e).2
        · rename_i hk1
          rw [Int.toNat_natCast] at e
          exact (h.m em).b i m ((h.m em).need hA) (hold (by omega) m e.symm)
      have sm := shade_sm mk (oldOf kind l i b n) l
      have hg1 := shade_gd h.g mk (oldOf kind l i b n)
      have hi1 : i < (shadeL mk (oldOf kind l i b n) l).length := by rw [shadeL_len]; exact hi
      refine ⟨put_gd hg1 hi1 _ (fun m e => hg1.need (sm.nd (hB m e).2)) (hg1.need (sm.nd hA)), fun em => ?_⟩
      subst em
      refine ((h.m rfl).shade _ (hx rfl)).put hi1 _ (fun m e => (h.m rfl).need (hB m e).2) (fun e1 m e => ?_) (fun e2 m e => ?_)
      · rw [shade_cl]
        have : oldOf kind l i b n = m := by unfold oldOf; rw [if_pos e1]; exact e
        split
        · decide
        · rename_i h4; exact fun h5 => h4 ⟨this.symm, (hB m e).1, h5⟩
      · rw [sm.f0] at e
        have : oldOf kind l i b n = m := by unfold oldOf; rw [if_neg (by omega), Int.toNat_natCast]; exact e.symm
        rw [shade_cl]
        split
        · exact .inl rfl
        · rename_i h4
          have h5 : cl l m ≠ 0 := fun h5 => h4 ⟨this.symm, pl_in ho (hold e2 m e), h5⟩
          have h6 := (h.g.rng m).1
          omega
  · exact ⟨h.g, h.m⟩
theorem hold_k {kind : Int} {mk : Bool} {B : List Bool} {l : List Th} (h : K kind mk B l) (n : Int) (is : Bool) : Gd (holdL kind mk l n is).1 ∧ (mk = true → Mk kind B (holdL kind mk l n is).1) := by
  have ho := h.inv.ok
  unfold holdL
  split
  · rename_i he
    split
    · exact ⟨h.g, h.m⟩
    · obtain ⟨i, rfl, hi, hA⟩ := named_nd ho he (n := n) (by simp)
      rw [Int.toNat_natCast]
      have key : ∀ l1, l1 = (if is = (kind == 1) then shadeL mk (i : Int) l else l) → Sm l l1 ∧ Gd l1 ∧ (mk = true → Mk kind B l1) ∧ (mk = true → kind = 1 → is = true → cl l1 i ≠ 0) := by
        intro l1 e
        subst e
        split
        · refine ⟨shade_sm _ _ _, shade_gd h.g _ _, fun em => ?_, fun em _ _ => ?_⟩
          · subst em; exact (h.m rfl).shade _ (fun m e => by have : m = i := by omega
                                                             subst this; exact (h.m rfl).need hA)
          · subst em
            rw [shade_cl]
            split
            · decide
            · rename_i h4; exact fun h5 => h4 ⟨rfl, hi, h5⟩
        · rename_i hne
          refine ⟨Sm.refl l, h.g, h.m, fun em e1 e2 => absurd ?_ hne⟩
          rw [e1, e2]; rfl
      generalize (if is = (kind == 1) then shadeL mk (i : Int) l else l) = l1 at key
      obtain ⟨sm, hg1, hm1, hc1⟩ := key l1 rfl
      have hi1 : i < l1.length := by rw [sm.len]; exact hi
      refine ⟨seth_gd hg1 hi1 _ (hg1.need (sm.nd hA)), fun em => (hm1 em).seth hi1 _ ((h.m em).need hA) (hc1 em)⟩
  · exact ⟨h.g, h.m⟩
theorem doL_len_le (kind : Int) (mk : Bool) (l : List Th) (d a b n : Int) : l.length ≤ (doL kind mk l d a b n).l.length := by
  unfold doL
  split
  · unfold makeL; split; exact Nat.le_refl _; split; exact Nat.le_refl _; simp
  split
  · unfold setL; split
    · split
      · exact Nat.le_refl _
      · rw [putL_len, shadeL_len]; exact Nat.le_refl _
    · exact Nat.le_refl _
  split
  · unfold holdL; split
    · split
      · exact Nat.le_refl _
      · rw [setH_len]; split
        · rw [shadeL_len]; exact Nat.le_refl _
        · exact Nat.le_refl _
    · exact Nat.le_refl _
  split
  · unfold holdL; split
    · split
      · exact Nat.le_refl _
      · rw [setH_len]; split
        · rw [shadeL_len]; exact Nat.le_refl _
        · exact Nat.le_refl _
    · exact Nat.le_refl _
  split
  · split
    · exact Nat.le_refl _
    · exact Nat.le_of_eq (begin_fold l l.length).1.len.symm
  split
  · split
    · split
      · exact Nat.le_refl _
      · exact Nat.le_of_eq (hasL_len (runL_has _ _ _ _ _)).symm
    · exact Nat.le_refl _
  split
  · split
    · simp only [List.length_map]; exact Nat.le_of_eq (hasL_len (finL_has _ _ _)).symm
    · exact Nat.le_refl _
  exact Nat.le_refl _
theorem do_k {kind : Int} {mk : Bool} {B : List Bool} {l : List Th} (hk : kind = 1 ∨ kind = 2) (h : K kind mk B l) (d a b n : Int) :
    K kind (doL kind mk l d a b n).mk (nextB mk (doL kind mk l d a b n).mk B l) (doL kind mk l d a b n).l := by
  have hlen : (nextB mk (doL kind mk l d a b n).mk B l).length ≤ (doL kind mk l d a b n).l.length := by
    refine Nat.le_trans ?_ (doL_len_le kind mk l d a b n)
    unfold nextB; split
    · rw [needL_len]; exact Nat.le_refl _
    · exact h.len
  suffices Gd (doL kind mk l d a b n).l ∧ ((doL kind mk l d a b n).mk = true → Mk kind (nextB mk (doL kind mk l d a b n).mk B l) (doL kind mk l d a b n).l) from ⟨do_inv h.inv d a b n, this.1, this.2, hlen⟩
  clear hlen
  have ho := h.inv.ok
  unfold doL
  by_cases h1 : d = 1
  · rw [if_pos h1]
    simp only [nextB_same]
    unfold makeL
    split
    · exact ⟨h.g, h.m⟩
    · split
      · exact ⟨h.g, h.m⟩
      · exact ⟨new_gd h.g ho mk n, fun em => by subst em; exact (h.m rfl).new ho h.len n⟩
  rw [if_neg h1]
  by_cases h2 : d = 2
  · rw [if_pos h2]; simp only [nextB_same]; exact set_k hk h a b n
  rw [if_neg h2]
  by_cases h4 : d = 4
  · rw [if_pos h4]; simp only [nextB_same]; exact hold_k h a true
  rw [if_neg h4]
  by_cases h3 : d = 3
  · rw [if_pos h3]; simp only [nextB_same]; exact hold_k h a false
  rw [if_neg h3]
  by_cases h6 : d = 6
  · rw [if_pos h6]
    by_cases hm : mk = true
    · rw [if_pos hm]; subst hm; simp only [nextB_same]; exact ⟨h.g, fun _ => h.m rfl⟩
    · rw [if_neg hm]
      have hf : mk = false := by simpa using hm
      subst hf
      exact ⟨begin_gd h.g, fun _ => by unfold nextB; rw [if_pos ⟨rfl, rfl⟩]; exact begin_mk ho (h.inv.clean rfl) h.g⟩
  rw [if_neg h6]
  by_cases h5 : d = 5
  · rw [if_pos h5]
    by_cases hm : mk = true
    · rw [if_pos hm]
      subst hm
      split
      · simp only [nextB_same]; exact ⟨h.g, fun _ => h.m rfl⟩
      · have h_ := (MG.run n (meas l + 1) 0 ⟨ho, h.g, h.m rfl⟩).1
        simp only [nextB_same]; exact ⟨h_.g, fun _ => h_.m⟩
    · rw [if_neg hm]
      have hf : mk = false := by simpa using hm
      subst hf
      exact ⟨h.g, fun e => by cases e⟩
  rw [if_neg h5]
  by_cases h7 : d = 7
  · rw [if_pos h7]
    by_cases hm : mk = true
    · rw [if_pos hm]
      subst hm
      exact ⟨end_gd (MG.fin (meas l + 1) ⟨ho, h.g, h.m rfl⟩).1 hk (no_grey (fin_no true _ _ (by omega))), fun e => by cases e⟩
    · rw [if_neg hm]
      have hf : mk = false := by simpa using hm
      subst hf
      exact ⟨h.g, fun e => by cases e⟩
  rw [if_neg h7]
  simp only [nextB_same]
  exact ⟨h.g, h.m⟩
theorem k_nil (kind : Int) : K kind false [] [] :=
  ⟨inv_nil _, ⟨fun n => by unfold cl; rw [thAt_none (by simp)]; decide, fun n x hp => absurd (pl_lt hp) (by simp), fun n hh => absurd (hd_lt hh) (by simp), fun n x hp => absurd (pl_lt hp) (by simp)⟩, fun e => (by cases e), Nat.le_refl _⟩
/-! ### What the laws ask -/
theorem K.kept {kind : Int} {mk : Bool} {B : List Bool} {l : List Th} (h : K kind mk B l) {k : Nat} (hk : k < l.length) (hn : (needL l).getD k false = true) : cl l k ≠ 3 := h.g.need ((need_iff h.inv.ok hk).1 hn)
theorem K.went {kind : Int} {mk : Bool} {B : List Bool} {l : List Th} (h : K kind mk B l) (a b n : Int) (he : (doL kind mk l 7 a b n).err = 0) {k : Nat} (hk : k < B.length) (hu : B.getD k true = false) : mk = true ∧ cl (doL kind mk l 7 a b n).l k = 3 := by
  unfold doL at he ⊢
  rw [if_neg (by decide), if_neg (by decide), if_neg (by decide), if_neg (by decide), if_neg (by decide), if_neg (by decide), if_pos rfl] at he ⊢
  by_cases hm : mk = true
  · rw [if_pos hm] at he ⊢
    have h_ := MG.fin (meas l + 1) ⟨h.inv.ok, h.g, h.m hm⟩
    refine ⟨hm, end_U h_.1 (by have h2 := h.len; have h3 := h_.2.len; omega) hu⟩
  · rw [if_neg hm] at he; cases he
end Go.Proofs.Ytnimidkeoocchaa.Mrk
