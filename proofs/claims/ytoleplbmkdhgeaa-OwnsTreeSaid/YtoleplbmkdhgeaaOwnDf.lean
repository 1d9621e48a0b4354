/- The walk into depth, told over lists: it leaves things in an order that Rp asks for. No program. -/
import Derived.Test.YtoleplbmkdhgeaaOwnDr
set_option linter.unusedVariables false
set_option linter.unusedSimpArgs false
set_option linter.unusedSectionVars false
namespace Go.Proofs.Ytoleplbmkdhgeaa.Own

/-- What the walk writes: marks, the order, who has whom. -/
structure Ds where
  pl : List Int
  ord : List Int
  fr : List (List Int)
def rowF (fr : List (List Int)) (k : Int) : List Int := fr.getD k.toNat []
def addF (fr : List (List Int)) (k n : Int) : List (List Int) := fr.set k.toNat (rowF fr k ++ [n])
def kid1 (f : Int → Ds → Ds) (n : Int) (s : Ds) (k : Int) : Ds := ⟨(f k s).pl, (f k s).ord, addF (f k s).fr k n⟩
def kids (f : Int → Ds → Ds) (n : Int) (l : List Int) (s : Ds) : Ds := l.foldl (kid1 f n) s
def mark (s : Ds) (n : Int) : Ds := ⟨s.pl.set n.toNat (-1), s.ord, s.fr⟩
def leaveP (s : Ds) (n : Int) : Ds := ⟨s.pl, s.ord ++ [n], s.fr⟩
def walkP (has : List (List Int)) : Nat → Int → Ds → Ds
  | 0, _, s => s
  | k + 1, n, s => if s.pl.getD n.toNat (-2) ≠ -2 then s else leaveP (kids (walkP has k) n (rowF has n) (mark s n)) n
def unv (s : Ds) : Nat := s.pl.count (-2)
def vis (s : Ds) (x : Int) : Prop := s.pl.getD x.toNat (-2) ≠ -2
theorem addF_len (fr : List (List Int)) (k n : Int) : (addF fr k n).length = fr.length := by unfold addF; simp
theorem addF_mem {fr : List (List Int)} {k n : Int} (hk : 0 ≤ k ∧ k < (fr.length : Int)) {q y : Int} (hq : 0 ≤ q) : y ∈ rowF (addF fr k n) q ↔ y ∈ rowF fr q ∨ (q = k ∧ y = n) := by
  unfold addF rowF
  rw [List.getD_eq_getElem?_getD, List.getElem?_set]
  by_cases e : k.toNat = q.toNat
  · have e2 : q = k := by omega
    subst e2
    rw [if_pos e, if_pos (by omega)]
    simp
  · rw [if_neg e, ← List.getD_eq_getElem?_getD]
    constructor
    · exact .inl
    · rintro (h | ⟨h, _⟩)
      · exact h
      · rw [h] at e; exact absurd rfl e
theorem mark_vis {s : Ds} {n : Int} (hn : 0 ≤ n ∧ n < (s.pl.length : Int)) {x : Int} (hx : 0 ≤ x) : vis (mark s n) x ↔ vis s x ∨ x = n := by
  unfold vis mark
  simp only
  rw [List.getD_eq_getElem?_getD, List.getElem?_set]
  by_cases e : n.toNat = x.toNat
  · have e2 : x = n := by omega
    subst e2
    rw [if_pos e, if_pos (by omega)]
    simp
  · rw [if_neg e, ← List.getD_eq_getElem?_getD]
    constructor
    · exact .inl
    · rintro (h | h)
      · exact h
      · rw [h] at e; exact absurd rfl e
theorem count_set : ∀ (l : List Int) (i : Nat), l.getD i 0 = -2 → (l.set i (-1)).count (-2) + 1 = l.count (-2) := by
  intro l
  induction l with
  | nil => intro i h; simp at h
  | cons x l ih =>
    intro i h
    cases i with
    | zero =>
      have h : x = -2 := by simpa using h
      subst h
      rw [List.set_cons_zero, List.count_cons, List.count_cons]
      simp
    | succ i =>
      have := ih i (by simpa using h)
      rw [List.set_cons_succ, List.count_cons, List.count_cons]
      omega
theorem unv_mark {s : Ds} {n : Int} (hn : 0 ≤ n ∧ n < (s.pl.length : Int)) (h : ¬ vis s n) : unv (mark s n) + 1 = unv s := by
  unfold unv mark
  refine count_set _ _ ?_
  unfold vis at h
  have h := Decidable.not_not.1 h
  rw [List.getD_eq_getElem?_getD, List.getElem?_eq_getElem (by omega)] at h ⊢
  exact h
theorem unv_zero {s : Ds} (h : unv s = 0) {n : Int} (hn : 0 ≤ n ∧ n < (s.pl.length : Int)) : vis s n := by
  intro e
  unfold unv at h
  rw [List.count_eq_zero] at h
  refine h ?_
  rw [List.getD_eq_getElem?_getD, List.getElem?_eq_getElem (by omega)] at e
  have e : s.pl[n.toNat] = -2 := e
  rw [← e]
  exact List.getElem_mem _
section
variable (has : List (List Int)) (roots : List Int)
def rootR (n : Int) : Prop := n ∈ roots
def edgeR (p n : Int) : Prop := 0 ≤ p ∧ p < (has.length : Int) ∧ n ∈ rowF has p
/-- A graph whose rows name its things. -/
structure Gr : Prop where
  h : ∀ p, 0 ≤ p → p < (has.length : Int) → ∀ n ∈ rowF has p, 0 ≤ n ∧ n < (has.length : Int)
  r : ∀ n ∈ roots, 0 ≤ n ∧ n < (has.length : Int)
structure J (s : Ds) : Prop where
  lp : s.pl.length = has.length
  lf : s.fr.length = has.length
  od : ∀ x ∈ s.ord, 0 ≤ x ∧ x < (has.length : Int) ∧ vis s x
  nd : s.ord.Nodup
  f1 : ∀ k, 0 ≤ k → ∀ y ∈ rowF s.fr k, (y = -1 ∧ k ∈ roots) ∨ (0 ≤ y ∧ y < (has.length : Int) ∧ vis s y ∧ k ∈ rowF has y)
  f2 : ∀ x ∈ s.ord, ∀ k ∈ rowF has x, x ∈ rowF s.fr k
  cl : ∀ x ∈ s.ord, ∀ k ∈ rowF has x, vis s k
  gd : ∀ a x b, s.ord = a ++ x :: b → ∃ l, Pth (rootR roots) (edgeR has) (x :: l) ∧ ∀ y ∈ l, y ∉ a ∧ y ≠ x
/-- What a walk adds. -/
structure Ext (s s' : Ds) : Prop where
  v : ∀ x, 0 ≤ x → vis s x → vis s' x
  f : ∀ k y, 0 ≤ k → y ∈ rowF s.fr k → y ∈ rowF s'.fr k
  o : ∃ new, s'.ord = s.ord ++ new ∧ ∀ y ∈ new, 0 ≤ y ∧ ¬ vis s y
  e : ∀ y, 0 ≤ y → vis s' y → vis s y ∨ y ∈ s'.ord
  u : unv s' ≤ unv s
theorem Ext.refl (s : Ds) : Ext s s := ⟨fun _ _ h => h, fun _ _ _ h => h, ⟨[], by simp, fun y hy => by simp at hy⟩, fun _ _ h => .inl h, Nat.le_refl _⟩
theorem Ext.trans {a b c : Ds} (h : Ext a b) (k : Ext b c) : Ext a c := by
  obtain ⟨n1, e1, q1⟩ := h.o
  obtain ⟨n2, e2, q2⟩ := k.o
  refine ⟨fun x hx hv => k.v x hx (h.v x hx hv), fun q y hq hy => k.f q y hq (h.f q y hq hy), ⟨n1 ++ n2, by rw [e2, e1, List.append_assoc], fun y hy => ?_⟩, fun y hy hv => ?_, Nat.le_trans k.u h.u⟩
  · rcases List.mem_append.1 hy with hy | hy
    · exact q1 y hy
    · exact ⟨(q2 y hy).1, fun hv => (q2 y hy).2 (h.v y (q2 y hy).1 hv)⟩
  · rcases k.e y hy hv with hv | hv
    · rcases h.e y hy hv with hv | hv
      · exact .inl hv
      · exact .inr (by rw [e2]; exact List.mem_append_left _ hv)
    · exact .inr hv
variable {has roots}
theorem J.addF {s : Ds} (j : J has roots s) {k n : Int} (hk : 0 ≤ k ∧ k < (has.length : Int)) (hn : (n = -1 ∧ k ∈ roots) ∨ (0 ≤ n ∧ n < (has.length : Int) ∧ vis s n ∧ k ∈ rowF has n)) : J has roots ⟨s.pl, s.ord, addF s.fr k n⟩ := by
  have hk' : 0 ≤ k ∧ k < (s.fr.length : Int) := by rw [j.lf]; exact hk
  refine ⟨j.lp, by show (Own.addF s.fr k n).length = _; rw [addF_len, j.lf], j.od, j.nd, fun q hq y hy => ?_, fun x hx q hq => ?_, j.cl, j.gd⟩
  · rcases (addF_mem hk' hq).1 hy with h | ⟨h1, h2⟩
    · exact j.f1 q hq y h
    · rw [h1, h2]; exact hn
  · by_cases hq0 : 0 ≤ q
    · exact (addF_mem hk' hq0).2 (.inl (j.f2 x hx q hq))
    · -- a negative place stands for the first row
      have h1 := j.f2 x hx q hq
      have e1 : rowF (Own.addF s.fr k n) q = rowF (Own.addF s.fr k n) 0 := by unfold rowF; rw [show q.toNat = (0 : Int).toNat from by omega]
      have e2 : rowF s.fr q = rowF s.fr 0 := by unfold rowF; rw [show q.toNat = (0 : Int).toNat from by omega]
      show x ∈ rowF (Own.addF s.fr k n) q
      rw [e1]
      rw [e2] at h1
      exact (addF_mem hk' (Int.le_refl 0)).2 (.inl h1)
theorem ext_addF {s : Ds} (j : J has roots s) {k n : Int} (hk : 0 ≤ k ∧ k < (has.length : Int)) : Ext s ⟨s.pl, s.ord, addF s.fr k n⟩ :=
  ⟨fun _ _ h => h, fun q y hq hy => (addF_mem (by rw [j.lf]; exact hk) hq).2 (.inl hy), ⟨[], by simp, fun y hy => by simp at hy⟩, fun _ _ h => .inl h, Nat.le_refl _⟩
theorem walk_ok (G : Gr has roots) : ∀ (k : Nat) (s : Ds) (n : Int), J has roots s → unv s ≤ k → 0 ≤ n ∧ n < (has.length : Int) → (∃ l, Pth (rootR roots) (edgeR has) (n :: l) ∧ ∀ y ∈ l, 0 ≤ y ∧ vis s y ∧ y ∉ s.ord) →
    J has roots (walkP has k n s) ∧ Ext s (walkP has k n s) ∧ vis (walkP has k n s) n := by
  intro k
  induction k with
  | zero => intro s n j hu hn _; have h0 := unv_zero (s := s) (by omega) (n := n) (by rw [j.lp]; exact hn); exact ⟨j, Ext.refl s, h0⟩
  | succ k ih =>
    intro s n j hu hn hl
    obtain ⟨σ, hσ1, hσ2⟩ := hl
    unfold walkP
    by_cases hv : vis s n
    · rw [if_pos (show s.pl.getD n.toNat (-2) ≠ -2 from hv)]
      exact ⟨j, Ext.refl s, hv⟩
    rw [if_neg (show ¬ s.pl.getD n.toNat (-2) ≠ -2 from hv)]
    have hn' : 0 ≤ n ∧ n < (s.pl.length : Int) := by rw [j.lp]; exact hn
    have hno : n ∉ s.ord := fun h => hv (j.od n h).2.2
    have mono : ∀ x, 0 ≤ x → vis s x → vis (mark s n) x := fun x hx h => (mark_vis hn' hx).2 (.inl h)
    have j1 : J has roots (mark s n) := ⟨by unfold mark; simp only [List.length_set]; exact j.lp, j.lf, fun x hx => ⟨(j.od x hx).1, (j.od x hx).2.1, mono x (j.od x hx).1 (j.od x hx).2.2⟩, j.nd,
      fun q hq y hy => (j.f1 q hq y hy).imp id (fun h => ⟨h.1, h.2.1, mono y h.1 h.2.2.1, h.2.2.2⟩), j.f2, fun x hx q hq => mono q (G.h x (j.od x hx).1 (j.od x hx).2.1 q hq).1 (j.cl x hx q hq), j.gd⟩
    have hu1 : unv (mark s n) ≤ k := by have := unv_mark hn' hv; omega
    have hvn : vis (mark s n) n := (mark_vis hn' hn.1).2 (.inr rfl)
    -- the things that it has, one by one
    have hk : ∀ (l : List Int) (t : Ds), (∀ q ∈ l, q ∈ rowF has n) → J has roots t → Ext (mark s n) t → 
        J has roots (kids (walkP has k) n l t) ∧ Ext (mark s n) (kids (walkP has k) n l t) ∧ ∀ q ∈ l, vis (kids (walkP has k) n l t) q ∧ n ∈ rowF (kids (walkP has k) n l t).fr q := by
      intro l
      induction l with
      | nil => intro t _ jt et; exact ⟨jt, et, fun q hq => by simp at hq⟩
      | cons q l ihl =>
        intro t hq jt et
        have hqn := hq q (List.mem_cons_self ..)
        have hqr := G.h n hn.1 hn.2 q hqn
        have open_ : ∀ y ∈ n :: σ, 0 ≤ y ∧ vis t y ∧ y ∉ t.ord := by
          intro y hy
          obtain ⟨new, e1, e2⟩ := et.o
          have h3 : 0 ≤ y ∧ vis (mark s n) y ∧ y ∉ s.ord := by
            rcases List.mem_cons.1 hy with h | h
            · rw [h]; exact ⟨hn.1, hvn, hno⟩
            · obtain ⟨g1, g2, g3⟩ := hσ2 y h
              exact ⟨g1, mono y g1 g2, g3⟩
          refine ⟨h3.1, et.v y h3.1 h3.2.1, fun h4 => ?_⟩
          rw [e1] at h4
          rcases List.mem_append.1 h4 with h4 | h4
          · exact h3.2.2 h4
          · exact (e2 y h4).2 h3.2.1
        obtain ⟨w1, w2, w3⟩ := ih t q jt (Nat.le_trans et.u hu1) hqr ⟨n :: σ, .step hσ1 ⟨hn.1, hn.2, hqn⟩, open_⟩
        have hvt := w2.v n hn.1 (et.v n hn.1 hvn)
        have j2 := w1.addF hqr (n := n) (.inr ⟨hn.1, hn.2, hvt, hqn⟩)
        have x2 := ext_addF w1 (n := n) hqr
        have e2 : Ext (mark s n) (kid1 (walkP has k) n t q) := (et.trans w2).trans x2
        unfold kids
        rw [List.foldl_cons]
        obtain ⟨r1, r2, r3⟩ := ihl (kid1 (walkP has k) n t q) (fun x hx => hq x (List.mem_cons_of_mem _ hx)) j2 e2
        refine ⟨r1, r2, fun x hx => ?_⟩
        rcases List.mem_cons.1 hx with h | h
        · -- the first one: what was written stays
          rw [h]
          have keep : ∀ (l : List Int) (u : Ds), (∀ y ∈ l, y ∈ rowF has n) → J has roots u → Ext (mark s n) u → (∀ y ∈ l, True) → Ext u (kids (walkP has k) n l u) := by
            intro l
            induction l with
            | nil => intro u _ _ _ _; exact Ext.refl u
            | cons y l ihk =>
              intro u hy ju eu _
              have hyn := hy y (List.mem_cons_self ..)
              have hyr := G.h n hn.1 hn.2 y hyn
              have open2 : ∀ z ∈ n :: σ, 0 ≤ z ∧ vis u z ∧ z ∉ u.ord := by
                intro z hz
                obtain ⟨new, e1, e2⟩ := eu.o
                have h3 : 0 ≤ z ∧ vis (mark s n) z ∧ z ∉ s.ord := by
                  rcases List.mem_cons.1 hz with h | h
                  · rw [h]; exact ⟨hn.1, hvn, hno⟩
                  · obtain ⟨g1, g2, g3⟩ := hσ2 z h
                    exact ⟨g1, mono z g1 g2, g3⟩
                refine ⟨h3.1, eu.v z h3.1 h3.2.1, fun h4 => ?_⟩
                rw [e1] at h4
                rcases List.mem_append.1 h4 with h4 | h4
                · exact h3.2.2 h4
                · exact (e2 z h4).2 h3.2.1
              obtain ⟨w1, w2, w3⟩ := ih u y ju (Nat.le_trans eu.u hu1) hyr ⟨n :: σ, .step hσ1 ⟨hn.1, hn.2, hyn⟩, open2⟩
              have hvt := w2.v n hn.1 (eu.v n hn.1 hvn)
              have j2 := w1.addF hyr (n := n) (.inr ⟨hn.1, hn.2, hvt, hyn⟩)
              have x2 := ext_addF w1 (n := n) hyr
              unfold kids
              rw [List.foldl_cons]
              exact (w2.trans x2).trans (ihk (kid1 (walkP has k) n u y) (fun x hx => hy x (List.mem_cons_of_mem _ hx)) j2 ((eu.trans w2).trans x2) (fun _ _ => trivial))
          have k2 := keep l (kid1 (walkP has k) n t q) (fun x hx => hq x (List.mem_cons_of_mem _ hx)) j2 e2 (fun _ _ => trivial)
          exact ⟨k2.v q hqr.1 (x2.v q hqr.1 w3), k2.f q n hqr.1 ((addF_mem (by rw [w1.lf]; exact hqr) hqr.1).2 (.inr ⟨rfl, rfl⟩))⟩
        · exact r3 x h
    obtain ⟨r1, r2, r3⟩ := hk (rowF has n) (mark s n) (fun _ h => h) j1 (Ext.refl _)
    generalize kids (walkP has k) n (rowF has n) (mark s n) = t at r1 r2 r3
    obtain ⟨new, e1, e2⟩ := r2.o
    have e1 : t.ord = s.ord ++ new := e1
    have hvt := r2.v n hn.1 hvn
    have hnt : n ∉ t.ord := by
      rw [e1]
      intro h
      rcases List.mem_append.1 h with h | h
      · exact hno h
      · exact (e2 n h).2 hvn
    refine ⟨⟨r1.lp, r1.lf, fun x hx => ?_, ?_, r1.f1, fun x hx q hq => ?_, fun x hx q hq => ?_, fun a x b hab => ?_⟩, ⟨fun x hx h => r2.v x hx (mono x hx h), r2.f, ⟨new ++ [n], by unfold leaveP; rw [e1, List.append_assoc], fun y hy => ?_⟩, fun y hy h => ?_, ?_⟩, hvt⟩
    · rcases List.mem_append.1 hx with h | h
      · exact r1.od x h
      · rw [List.mem_singleton.1 h]; exact ⟨hn.1, hn.2, hvt⟩
    · show (t.ord ++ [n]).Nodup
      rw [List.nodup_append]
      exact ⟨r1.nd, by simp, fun x hx y hy => by rw [List.mem_singleton.1 hy]; exact fun e => hnt (e ▸ hx)⟩
    · rcases List.mem_append.1 hx with h | h
      · exact r1.f2 x h q hq
      · rw [List.mem_singleton.1 h] at hq ⊢; exact (r3 q hq).2
    · rcases List.mem_append.1 hx with h | h
      · exact r1.cl x h q hq
      · rw [List.mem_singleton.1 h] at hq; exact (r3 q hq).1
    · have hab : t.ord ++ [n] = a ++ x :: b := hab
      rcases List.eq_nil_or_concat b with hb | ⟨b', z, hb⟩
      · subst hb
        obtain ⟨h1, h2⟩ := List.append_inj' hab rfl
        obtain ⟨h3, _⟩ := List.cons.inj h2
        subst h1
        subst h3
        refine ⟨σ, hσ1, fun y hy => ?_⟩
        obtain ⟨g1, g2, g3⟩ := hσ2 y hy
        refine ⟨fun h => ?_, fun h => hv (h ▸ g2)⟩
        rw [e1] at h
        rcases List.mem_append.1 h with h | h
        · exact g3 h
        · exact (e2 y h).2 (mono y g1 g2)
      · rw [List.concat_eq_append] at hb
        subst hb
        have hab : t.ord ++ [n] = (a ++ x :: b') ++ [z] := by rw [hab]; simp
        obtain ⟨h1, _⟩ := List.append_inj' hab rfl
        exact r1.gd a x b' h1
    · rcases List.mem_append.1 hy with h | h
      · exact ⟨(e2 y h).1, fun q => (e2 y h).2 (mono y (e2 y h).1 q)⟩
      · rw [List.mem_singleton.1 h]; exact ⟨hn.1, hv⟩
    · rcases r2.e y hy h with h | h
      · rcases (mark_vis hn' hy).1 h with h | h
        · exact .inl h
        · exact .inr (by rw [h]; exact List.mem_append_right _ (List.mem_singleton.2 rfl))
      · exact .inr (List.mem_append_left _ h)
    · have := unv_mark hn' hv
      exact Nat.le_trans r2.u (by omega)
end
end Go.Proofs.Ytoleplbmkdhgeaa.Own
