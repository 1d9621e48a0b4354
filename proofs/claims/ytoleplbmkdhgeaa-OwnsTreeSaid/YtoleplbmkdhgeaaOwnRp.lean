/- The order, the places, the rounds, told over lists. No program. -/
import Derived.Test.YtoleplbmkdhgeaaOwnDf
set_option linter.unusedVariables false
set_option linter.unusedSimpArgs false
set_option linter.unusedSectionVars false
namespace Go.Proofs.Ytoleplbmkdhgeaa.Own

def start (N : Nat) : Ds := ⟨List.replicate N (-2), [], List.replicate N []⟩
/-- All that the walks from the roots leave. -/
def rootsP (has : List (List Int)) (roots : List Int) : Ds := kids (walkP has has.length) (-1) roots (start has.length)
section
variable {has : List (List Int)} {roots : List Int}
theorem rowF_rep (N : Nat) (k : Int) : rowF (List.replicate N []) k = [] := by
  unfold rowF
  rw [List.getD_eq_getElem?_getD, List.getElem?_replicate]
  split <;> rfl
theorem vis_start (N : Nat) (x : Int) : ¬ vis (start N) x := by
  unfold vis start
  simp only
  rw [List.getD_eq_getElem?_getD, List.getElem?_replicate]
  split <;> simp
theorem j_start : J has roots (start has.length) := by
  refine ⟨by simp [start], by simp [start], fun x hx => by simp [start] at hx, by simp [start], fun k hk y hy => ?_, fun x hx => by simp [start] at hx, fun x hx => by simp [start] at hx, fun a x b h => ?_⟩
  · have : y ∈ rowF (List.replicate has.length []) k := hy
    rw [rowF_rep] at this
    simp at this
  · have : ([] : List Int) = a ++ x :: b := h
    simp at this
def Closed (s : Ds) : Prop := ∀ y, 0 ≤ y → vis s y → y ∈ s.ord
theorem closed_start (N : Nat) : Closed (start N) := fun y _ h => absurd h (vis_start N y)
theorem unv_le (s : Ds) (h : s.pl.length = has.length) : unv s ≤ has.length := by unfold unv; rw [← h]; exact List.count_le_length
theorem root1 (G : Gr has roots) {s : Ds} (j : J has roots s) (c : Closed s) {n : Int} (hn : n ∈ roots) : J has roots (kid1 (walkP has has.length) (-1) s n) ∧ Closed (kid1 (walkP has has.length) (-1) s n) ∧ Ext s (kid1 (walkP has has.length) (-1) s n) ∧ vis (kid1 (walkP has has.length) (-1) s n) n ∧ (-1) ∈ rowF (kid1 (walkP has has.length) (-1) s n).fr n := by
  have hr := G.r n hn
  obtain ⟨w1, w2, w3⟩ := walk_ok G has.length s n j (unv_le s j.lp) hr ⟨[], .root hn, fun y hy => by simp at hy⟩
  have c1 : Closed (walkP has has.length n s) := by
    intro y hy hv
    obtain ⟨new, e1, _⟩ := w2.o
    rcases w2.e y hy hv with h | h
    · rw [e1]; exact List.mem_append_left _ (c y hy h)
    · exact h
  have x2 := ext_addF w1 (n := -1) hr
  exact ⟨w1.addF hr (.inl ⟨rfl, hn⟩), c1, w2.trans x2, w3, (addF_mem (by rw [w1.lf]; exact hr) hr.1).2 (.inr ⟨rfl, rfl⟩)⟩
theorem roots_all (G : Gr has roots) : ∀ (l : List Int) (s : Ds), (∀ n ∈ l, n ∈ roots) → J has roots s → Closed s → J has roots (kids (walkP has has.length) (-1) l s) ∧ Closed (kids (walkP has has.length) (-1) l s) ∧ Ext s (kids (walkP has has.length) (-1) l s) ∧ ∀ n ∈ l, vis (kids (walkP has has.length) (-1) l s) n ∧ (-1) ∈ rowF (kids (walkP has has.length) (-1) l s).fr n := by
  intro l
  induction l with
  | nil => intro s _ j c; exact ⟨j, c, Ext.refl s, fun n hn => by simp at hn⟩
  | cons n l ih =>
    intro s hl j c
    obtain ⟨a1, a2, a3, a4, a5⟩ := root1 G j c (hl n (List.mem_cons_self ..))
    obtain ⟨b1, b2, b3, b4⟩ := ih _ (fun x hx => hl x (List.mem_cons_of_mem _ hx)) a1 a2
    unfold kids
    rw [List.foldl_cons]
    refine ⟨b1, b2, a3.trans b3, fun x hx => ?_⟩
    rcases List.mem_cons.1 hx with h | h
    · have hr := G.r n (hl n (List.mem_cons_self ..))
      rw [h]
      exact ⟨b3.v n hr.1 a4, b3.f n (-1) hr.1 a5⟩
    · exact b4 x h
theorem roots_ok (G : Gr has roots) : J has roots (rootsP has roots) ∧ Closed (rootsP has roots) ∧ ∀ n ∈ roots, vis (rootsP has roots) n ∧ (-1) ∈ rowF (rootsP has roots).fr n := by
  obtain ⟨h1, h2, _, h4⟩ := roots_all G roots (start has.length) (fun _ h => h) j_start (closed_start _)
  exact ⟨h1, h2, h4⟩
end
/-- Places by an order. -/
def placeTo (rpo : List Int) (pl : List Int) : Nat → List Int
  | 0 => pl
  | i + 1 => (placeTo rpo pl i).set (rpo.getD i 0).toNat (i : Int)
def posF (pl : List Int) : Int → Int := fun x => pl.getD x.toNat (-2)
theorem placeTo_len (rpo pl : List Int) : ∀ i, (placeTo rpo pl i).length = pl.length := by
  intro i
  induction i with
  | zero => rfl
  | succ i ih => unfold placeTo; rw [List.length_set, ih]
theorem placeTo_at {rpo pl : List Int} (nd : rpo.Nodup) (hr : ∀ x ∈ rpo, 0 ≤ x ∧ x < (pl.length : Int)) : ∀ i, i ≤ rpo.length → ∀ j (hj : j < rpo.length), j < i → posF (placeTo rpo pl i) rpo[j] = (j : Int) := by
  intro i
  induction i with
  | zero => intro _ j _ h; omega
  | succ i ih =>
    intro hi j hj hji
    have hlt : i < rpo.length := by omega
    have ei : rpo.getD i 0 = rpo[i] := by rw [List.getD_eq_getElem?_getD, List.getElem?_eq_getElem hlt]; rfl
    have h1 := hr rpo[i] (List.getElem_mem hlt)
    have h2 := hr rpo[j] (List.getElem_mem hj)
    unfold posF placeTo
    rw [ei, List.getD_eq_getElem?_getD, List.getElem?_set]
    by_cases e : j = i
    · subst e
      rw [if_pos rfl, if_pos (by rw [placeTo_len]; omega)]
      rfl
    · rw [if_neg (fun q => e ?_), ← List.getD_eq_getElem?_getD]
      · exact ih (by omega) j hj (by omega)
      · have : rpo[i] = rpo[j] := by omega
        exact ((List.getElem_inj nd).1 this).symm
section
variable {has : List (List Int)} {roots : List Int}
def rpoL (has : List (List Int)) (roots : List Int) : List Int := (rootsP has roots).ord.reverse
def placeL (has : List (List Int)) (roots : List Int) : List Int := placeTo (rpoL has roots) (rootsP has roots).pl (rpoL has roots).length
def fromR (has : List (List Int)) (roots : List Int) : List (List Int) := (rootsP has roots).fr
theorem rpo_in (G : Gr has roots) : ∀ x ∈ rpoL has roots, 0 ≤ x ∧ x < (has.length : Int) := fun x hx => by
  have h := (roots_ok G).1.od x (List.mem_reverse.1 hx)
  exact ⟨h.1, h.2.1⟩
theorem rp_ok (G : Gr has roots) : Rp (rootR roots) (edgeR has) (rpoL has roots) (posF (placeL has roots)) (rowF (fromR has roots)) := by
  obtain ⟨j, c, hr⟩ := roots_ok G
  have nd : (rpoL has roots).Nodup := by unfold rpoL; exact (List.reverse_perm _).symm.nodup j.nd
  have hin : ∀ x ∈ rpoL has roots, 0 ≤ x ∧ x < ((rootsP has roots).pl.length : Int) := fun x hx => by rw [j.lp]; exact rpo_in G x hx
  have at_ : ∀ i (h : i < (rpoL has roots).length), posF (placeL has roots) (rpoL has roots)[i] = (i : Int) := fun i h => placeTo_at nd hin _ (Nat.le_refl _) i h h
  have mem : ∀ x, x ∈ rpoL has roots ↔ x ∈ (rootsP has roots).ord := fun x => List.mem_reverse
  refine ⟨nd, at_, fun x hx => (rpo_in G x hx).1, fun n hn p => ?_, fun n h => ?_, fun p hp n he => ?_, fun n hn => ?_⟩
  · have hn0 := (rpo_in G n hn).1
    constructor
    · intro h
      rcases j.f1 n hn0 p h with h | ⟨h1, h2, h3, h4⟩
      · exact .inl h
      · exact .inr ⟨(mem p).2 (c p h1 h3), h1, h2, h4⟩
    · rintro (⟨rfl, h⟩ | ⟨h1, h2⟩)
      · exact (hr n h).2
      · exact j.f2 p ((mem p).1 h1) n h2.2.2
  · exact (mem n).2 (c n (G.r n h).1 (hr n h).1)
  · have hp2 := (mem p).1 hp
    have hq := j.od p hp2
    exact (mem n).2 (c n (G.h p hq.1 hq.2.1 n he.2.2).1 (j.cl p hp2 n he.2.2))
  · obtain ⟨a, b, e⟩ := List.append_of_mem ((mem n).1 hn)
    obtain ⟨l, h1, h2⟩ := j.gd a n b e
    refine ⟨l, h1, fun y hy => ?_⟩
    -- all on the way are in the order
    have hall : ∀ {l : List Int}, Pth (rootR roots) (edgeR has) l → ∀ x ∈ l, x ∈ (rootsP has roots).ord := by
      intro l hl
      induction hl with
      | @root m h => intro x hx; rw [List.mem_singleton.1 hx]; exact c m (G.r m h).1 (hr m h).1
      | @step p m l h3 h4 ih =>
        intro x hx
        rcases List.mem_cons.1 hx with h | h
        · rw [h]
          have hp2 := ih p (List.mem_cons_self ..)
          have hq := j.od p hp2
          exact c m (G.h p hq.1 hq.2.1 m h4.2.2).1 (j.cl p hp2 m h4.2.2)
        · exact ih x h
    have hyo := hall h1 y (List.mem_cons_of_mem _ hy)
    obtain ⟨g1, g2⟩ := h2 y hy
    have hyb : y ∈ b := by
      rw [e] at hyo
      rcases List.mem_append.1 hyo with h | h
      · exact absurd h g1
      · rcases List.mem_cons.1 h with h | h
        · exact absurd h g2
        · exact h
    have er : rpoL has roots = b.reverse ++ n :: a.reverse := by unfold rpoL; rw [e]; simp
    obtain ⟨k, hk, ek⟩ := List.getElem_of_mem (List.mem_reverse.2 hyb)
    have hk1 : k < (rpoL has roots).length := by rw [er, List.length_append]; omega
    have hk2 : b.reverse.length < (rpoL has roots).length := by rw [er, List.length_append, List.length_cons]; omega
    have e1 : (rpoL has roots)[k] = y := by
      have : (rpoL has roots)[k]? = some y := by rw [er, List.getElem?_append_left hk, List.getElem?_eq_getElem hk, ek]
      exact (List.getElem?_eq_some_iff.1 this).2
    have e2 : (rpoL has roots)[b.reverse.length] = n := by
      have : (rpoL has roots)[b.reverse.length]? = some n := by rw [er, List.getElem?_append_right (Nat.le_refl _), Nat.sub_self]; rfl
      exact (List.getElem?_eq_some_iff.1 this).2
    have p1 := at_ k hk1
    have p2 := at_ b.reverse.length hk2
    rw [e1] at p1
    rw [e2] at p2
    omega
/-! Rounds over lists. -/
def fnD (D : List Int) : Int → Int := fun x => if 0 ≤ x then D.getD x.toNat (-2) else -2
theorem fnD_set {D : List Int} {n v : Int} (hn : 0 ≤ n ∧ n < (D.length : Int)) : fnD (D.set n.toNat v) = upd (fnD D) n v := by
  funext x
  show (if 0 ≤ x then (D.set n.toNat v).getD x.toNat (-2) else -2) = if x = n then v else (if 0 ≤ x then D.getD x.toNat (-2) else -2)
  by_cases hx : 0 ≤ x
  · rw [if_pos hx, if_pos hx, List.getD_eq_getElem?_getD, List.getElem?_set]
    by_cases e : n.toNat = x.toNat
    · rw [if_pos e, if_pos (by omega), if_pos (by omega)]
      rfl
    · rw [if_neg e, if_neg (by omega), ← List.getD_eq_getElem?_getD]
  · rw [if_neg hx, if_neg hx, if_neg (by omega)]
def stepL (pos : Int → Int) (prd : Int → List Int) (K : Nat) (s : List Int × Bool) (n : Int) : List Int × Bool :=
  if atF pos (fnD s.1) K (prd n) ≠ -2 ∧ atF pos (fnD s.1) K (prd n) ≠ fnD s.1 n then (s.1.set n.toNat (atF pos (fnD s.1) K (prd n)), true) else s
def roundL (pos : Int → Int) (prd : Int → List Int) (K : Nat) (rpo : List Int) (D : List Int) : List Int × Bool := rpo.foldl (stepL pos prd K) (D, false)
theorem stepL_len (pos : Int → Int) (prd : Int → List Int) (K : Nat) (s : List Int × Bool) (n : Int) : (stepL pos prd K s n).1.length = s.1.length := by unfold stepL; split <;> simp
theorem stepL_fn {pos : Int → Int} {prd : Int → List Int} {K : Nat} {s : List Int × Bool} {n : Int} (hn : 0 ≤ n ∧ n < (s.1.length : Int)) : stepF pos prd K (fnD s.1, s.2) n = (fnD (stepL pos prd K s n).1, (stepL pos prd K s n).2) := by
  unfold stepF stepL
  simp only
  split
  · rw [fnD_set hn]
  · rfl
theorem foldL_fn {pos : Int → Int} {prd : Int → List Int} {K : Nat} : ∀ (l : List Int) (s : List Int × Bool), (∀ n ∈ l, 0 ≤ n ∧ n < (s.1.length : Int)) → l.foldl (stepF pos prd K) (fnD s.1, s.2) = (fnD (l.foldl (stepL pos prd K) s).1, (l.foldl (stepL pos prd K) s).2) ∧ (l.foldl (stepL pos prd K) s).1.length = s.1.length := by
  intro l
  induction l with
  | nil => intro s _; exact ⟨rfl, rfl⟩
  | cons n l ih =>
    intro s h
    rw [List.foldl_cons, List.foldl_cons, stepL_fn (h n (List.mem_cons_self ..))]
    obtain ⟨h1, h2⟩ := ih (stepL pos prd K s n) (fun x hx => by rw [stepL_len]; exact h x (List.mem_cons_of_mem _ hx))
    exact ⟨h1, by rw [h2, stepL_len]⟩
theorem fnD_start (N : Nat) : fnD (List.replicate N (-2)) = fun _ => -2 := by
  funext x
  unfold fnD
  split
  · rw [List.getD_eq_getElem?_getD, List.getElem?_replicate]
    split <;> rfl
  · rfl
/-- What the lists are behind r rounds. -/
structure Rd (has : List (List Int)) (roots : List Int) (r : Nat) (D : List Int) : Prop where
  len : D.length = has.length
  inv : Inv (rootR roots) (edgeR has) (rpoL has roots) (posF (placeL has roots)) r 0 (fnD D)
def bigK (has : List (List Int)) : Nat := 2 * has.length + 2
theorem rpo_le (G : Gr has roots) : (rpoL has roots).length ≤ has.length := by
  have h : ∀ (n : Nat) (l : List Int), l.Nodup → (∀ x ∈ l, 0 ≤ x ∧ x < (n : Int)) → l.length ≤ n := by
    intro n l hn hl
    have := nodup_len l ((List.range n).map (fun i : Nat => (i : Int))) hn (fun x hx => by
      have := hl x hx
      exact List.mem_map.2 ⟨x.toNat, List.mem_range.2 (by omega), by omega⟩)
    simpa using this
  exact h _ _ (rp_ok G).nod (rpo_in G)
theorem rd_start (G : Gr has roots) : Rd has roots 0 (List.replicate has.length (-2)) := ⟨by simp, by rw [fnD_start]; exact inv0 (rp_ok G)⟩
theorem Rd.next (G : Gr has roots) {r : Nat} {D : List Int} (h : Rd has roots r D) :
    Rd has roots (r + 1) (roundL (posF (placeL has roots)) (rowF (fromR has roots)) (bigK has) (rpoL has roots) D).1 ∧ ((roundL (posF (placeL has roots)) (rowF (fromR has roots)) (bigK has) (rpoL has roots) D).2 = true → r ≤ has.length) ∧
      ((roundL (posF (placeL has roots)) (rowF (fromR has roots)) (bigK has) (rpoL has roots) D).2 = false → Done (rootR roots) (edgeR has) (rpoL has roots) (posF (placeL has roots)) (fnD (roundL (posF (placeL has roots)) (rowF (fromR has roots)) (bigK has) (rpoL has roots) D).1)) := by
  have R := rp_ok G
  have hl := rpo_le G
  have hK : 2 * (rpoL has roots).length ≤ bigK has := by unfold bigK; omega
  obtain ⟨h1, h2⟩ := foldL_fn (pos := posF (placeL has roots)) (prd := rowF (fromR has roots)) (K := bigK has) (rpoL has roots) (D, false) (fun x hx => by show 0 ≤ x ∧ x < (D.length : Int); rw [h.len]; exact rpo_in G x hx)
  have e : roundF (posF (placeL has roots)) (rowF (fromR has roots)) (bigK has) (rpoL has roots) (fnD D) = (fnD (roundL (posF (placeL has roots)) (rowF (fromR has roots)) (bigK has) (rpoL has roots) D).1, (roundL (posF (placeL has roots)) (rowF (fromR has roots)) (bigK has) (rpoL has roots) D).2) := h1
  have hn := h.inv.round R hK
  rw [e] at hn
  refine ⟨⟨by rw [← h.len]; exact h2, hn⟩, fun ht => ?_, fun hf => ?_⟩
  · by_cases hr : (rpoL has roots).length < r
    · have := h.inv.quiet R hK hr
      rw [e] at this
      have := congrArg Prod.snd this
      simp only at this
      rw [ht] at this
      exact absurd this (by decide)
    · omega
  · have hfx := h.inv.fixed R hK (by rw [e]; exact hf)
    rw [e] at hfx
    simp only at hfx
    rw [hfx.1]
    refine done_of R hK (r := r) ?_ hfx.2
    rw [← hfx.1]
    exact hn
theorem done_uniq (G : Gr has roots) {d1 d2 : Int → Int} (h1 : Done (rootR roots) (edgeR has) (rpoL has roots) (posF (placeL has roots)) d1) (h2 : Done (rootR roots) (edgeR has) (rpoL has roots) (posF (placeL has roots)) d2) : d1 = d2 := by
  have R := rp_ok G
  funext x
  by_cases hx : x ∈ rpoL has roots
  · -- the nearest one of those on every way
    have up1 : ∀ (d : Int → Int), Done (rootR roots) (edgeR has) (rpoL has roots) (posF (placeL has roots)) d → ∀ y, Up d (d x) y ↔ Dom (rootR roots) (edgeR has) y x ∧ y ≠ x := by
      intro d h y
      have hn : ¬ Up d (d x) x := fun hu => by
        rcases h.wf x hx with h3 | h3 | ⟨h3, h4, h5⟩
        · exact h.told x hx h3
        · rw [h3] at hu; exact absurd hu (up_neg (by decide))
        · have := (up_pos R h.wf hu h3 h4).2.2
          omega
      constructor
      · intro hu
        exact ⟨(h.dom x hx y).1 (.step (R.nn x hx) hu), fun e => hn (e ▸ hu)⟩
      · rintro ⟨hd, hne⟩
        cases (h.dom x hx y).2 hd with
        | refl _ => exact absurd rfl hne
        | step _ hu => exact hu
    have e1 := up1 d1 h1
    have e2 := up1 d2 h2
    rcases h1.wf x hx with h3 | h3 | ⟨h3, h4, h5⟩
    · exact absurd h3 (h1.told x hx)
    · rcases h2.wf x hx with g3 | g3 | ⟨g3, g4, g5⟩
      · exact absurd g3 (h2.told x hx)
      · rw [h3, g3]
      · have := (e1 (d2 x)).2 ((e2 (d2 x)).1 (.refl (R.nn _ g3)))
        rw [h3] at this
        exact absurd this (up_neg (by decide))
    · rcases h2.wf x hx with g3 | g3 | ⟨g3, g4, g5⟩
      · exact absurd g3 (h2.told x hx)
      · have := (e2 (d1 x)).2 ((e1 (d1 x)).1 (.refl (R.nn _ h3)))
        rw [g3] at this
        exact absurd this (up_neg (by decide))
      · have q1 := (e1 (d2 x)).2 ((e2 (d2 x)).1 (.refl (R.nn _ g3)))
        have q2 := (e2 (d1 x)).2 ((e1 (d1 x)).1 (.refl (R.nn _ h3)))
        have p1 := (up_pos R h1.wf q1 h3 h4).2.2
        have p2 := (up_pos R h2.wf q2 g3 g4).2.2
        exact R.pos_inj h3 g3 (by omega)
  · rw [h1.out x hx, h2.out x hx]
end
end Go.Proofs.Ytoleplbmkdhgeaa.Own
