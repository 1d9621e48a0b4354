/- Package mark, in plain words: what its deeds do to things. -/
import Derived.Test.YtnimidkeoocchaaMarkGr
set_option linter.unusedVariables false
set_option linter.unusedSimpArgs false
namespace Go.Proofs.Ytnimidkeoocchaa.Mrk
open Go.RowKit Go.Proofs.Ytnimidkeoocchaa.PK

def shadesL (mk : Bool) (ks : List Int) (l : List Th) : List Th := ks.foldl (fun l k => shadeL mk k l) l
def stepL (mk : Bool) (l : List Th) : List Th × Bool :=
  if idxG l < 0 then (l, false) else (shadesL mk (thAt l (idxG l).toNat).f0 (setC l (idxG l).toNat 2), true)
/-- Steps, as long as there are fewer than n. -/
def runL (mk : Bool) (n : Int) : Nat → Int → List Th → List Th × Int
  | 0, many, l => (l, many)
  | k + 1, many, l => if many < n then (if (stepL mk l).2 = true then runL mk n k (many + 1) (stepL mk l).1 else (l, many)) else (l, many)
/-- Steps until none is grey. -/
def finL (mk : Bool) : Nat → List Th → List Th
  | 0, l => l
  | k + 1, l => if (stepL mk l).2 = true then finL mk k (stepL mk l).1 else l
def begin1 (s : List Th × Nat) (n : Nat) : List Th × Nat := if (thAt s.1 n).f2 = true then (shadeL true n s.1, s.2 + 1) else s
def beginL (l : List Th) : List Th × Nat := (List.range l.length).foldl begin1 (l, 0)
def end1 (x : Th) : Th := if x.f1 = 0 then ⟨[], 3, false⟩ else if x.f1 = 2 then ⟨x.f0, 0, x.f2⟩ else x
def whites (l : List Th) : Nat := l.countP (fun x => x.f1 == 0)
/-! ### What stays of them -/
structure OkL (l : List Th) : Prop where
  len : l.length ≤ 1000
  pl : ∀ x ∈ l, x.f0.length ≤ 1000 ∧ ∀ k ∈ x.f0, k < l.length
def hasL (l : List Th) : List (List Int) := l.map (·.f0)
theorem OkL.of_has {l l' : List Th} (h : OkL l) (e : hasL l' = hasL l) : OkL l' := by
  have hl : l'.length = l.length := by have := congrArg List.length e; simpa [hasL] using this
  refine ⟨by rw [hl]; exact h.len, fun x hx => ?_⟩
  have hm : x.f0 ∈ hasL l := e ▸ List.mem_map_of_mem hx
  obtain ⟨y, hy, he⟩ := List.mem_map.1 hm
  rw [← he, hl]
  exact h.pl y hy
theorem hasL_len {l l' : List Th} (e : hasL l' = hasL l) : l'.length = l.length := by have := congrArg List.length e; simpa [hasL] using this
theorem hasL_at {l l' : List Th} (e : hasL l' = hasL l) (i : Nat) : (thAt l' i).f0 = (thAt l i).f0 := by
  have h_ : (hasL l')[i]? = (hasL l)[i]? := by rw [e]
  unfold thAt
  simp only [hasL, List.getElem?_map, List.getD_eq_getElem?_getD] at h_ ⊢
  cases h1 : l'[i]? <;> cases h2 : l[i]? <;> simp_all
theorem set_same_has {l : List Th} {i : Nat} {x : Th} (hx : x.f0 = (thAt l i).f0) : hasL (l.set i x) = hasL l := by
  unfold hasL
  rw [List.map_set]
  apply List.ext_getElem?
  intro j
  rw [List.getElem?_set]
  split
  · rename_i e
    subst e
    split
    · rename_i h
      have h' : i < l.length := by simpa using h
      rw [hx, thAt_eq h', List.getElem?_map, List.getElem?_eq_getElem h']
      rfl
    · rename_i h
      have h' : ¬ i < l.length := by simpa using h
      rw [List.getElem?_eq_none (by simpa using h')]
  · rfl
theorem setC_has (l : List Th) (i : Nat) (c : Int) : hasL (setC l i c) = hasL l := set_same_has rfl
theorem setH_has (l : List Th) (i : Nat) (c : Bool) : hasL (setH l i c) = hasL l := set_same_has rfl
theorem shadeL_has (mk : Bool) (n : Int) (l : List Th) : hasL (shadeL mk n l) = hasL l := by unfold shadeL; split; exact setC_has _ _ _; rfl
theorem shadesL_has (mk : Bool) (ks : List Int) : ∀ l, hasL (shadesL mk ks l) = hasL l := by
  induction ks with
  | nil => intro l; rfl
  | cons k ks ih => intro l; rw [shadesL, List.foldl_cons, ← shadesL, ih, shadeL_has]
theorem shadesL_snoc (mk : Bool) (ks : List Int) (k : Int) (l : List Th) : shadesL mk (ks ++ [k]) l = shadeL mk k (shadesL mk ks l) := by simp [shadesL]
theorem stepL_has (mk : Bool) (l : List Th) : hasL (stepL mk l).1 = hasL l := by
  unfold stepL; split
  · rfl
  · exact (shadesL_has _ _ _).trans (setC_has _ _ _)
theorem stepL_len (mk : Bool) (l : List Th) : (stepL mk l).1.length = l.length := hasL_len (stepL_has mk l)
theorem finL_has (mk : Bool) : ∀ k l, hasL (finL mk k l) = hasL l
  | 0, l => rfl
  | k + 1, l => by rw [finL]; split; exact (finL_has mk k _).trans (stepL_has mk l); rfl
theorem runL_has (mk : Bool) (n : Int) : ∀ k m l, hasL (runL mk n k m l).1 = hasL l
  | 0, m, l => rfl
  | k + 1, m, l => by rw [runL]; split; split; exact (runL_has mk n k _ _).trans (stepL_has mk l); rfl; rfl
theorem begin1_has (s : List Th × Nat) (n : Nat) : hasL (begin1 s n).1 = hasL s.1 := by unfold begin1; split; exact shadeL_has _ _ _; rfl
theorem beginF_has (ns : List Nat) : ∀ s : List Th × Nat, hasL (ns.foldl begin1 s).1 = hasL s.1 := by
  induction ns with
  | nil => intro s; rfl
  | cons n ns ih => intro s; rw [List.foldl_cons, ih, begin1_has]
/-! ### Steps come to an end -/
def wt (x : Th) : Nat := if x.f1 = 0 then 2 else if x.f1 = 1 then 1 else 0
def meas (l : List Th) : Nat := (l.map wt).sum
theorem meas_set : ∀ (l : List Th) (i : Nat) (x : Th), i < l.length → meas (l.set i x) + wt (thAt l i) = meas l + wt x
  | [], _, _, h => by simp at h
  | y :: l, 0, x, h => by simp [meas, thAt]; omega
  | y :: l, i + 1, x, h => by
    have h_ := meas_set l i x (by simpa using h)
    simp only [meas, List.set_cons_succ, List.map_cons, List.sum_cons, thAt, List.getD_cons_succ] at h_ ⊢
    omega
theorem thAt_out {l : List Th} {i : Nat} {x : Th} (h : ¬ i < l.length) : l.set i x = l := List.set_eq_of_length_le (by omega)
theorem shadeL_meas (mk : Bool) (n : Int) (l : List Th) : meas (shadeL mk n l) ≤ meas l := by
  unfold shadeL
  split
  · rename_i h
    by_cases hi : n.toNat < l.length
    · have h_ := meas_set l n.toNat ⟨(thAt l n.toNat).f0, 1, (thAt l n.toNat).f2⟩ hi
      have h1 : wt (thAt l n.toNat) = 2 := by unfold wt; rw [if_pos h.2.2]
      have h2 : wt (⟨(thAt l n.toNat).f0, 1, (thAt l n.toNat).f2⟩ : Th) = 1 := rfl
      unfold setC
      omega
    · unfold setC; rw [thAt_out hi]; exact Nat.le_refl _
  · exact Nat.le_refl _
theorem shadesL_meas (mk : Bool) (ks : List Int) : ∀ l, meas (shadesL mk ks l) ≤ meas l := by
  induction ks with
  | nil => intro l; exact Nat.le_refl _
  | cons k ks ih => intro l; rw [shadesL, List.foldl_cons, ← shadesL]; exact Nat.le_trans (ih _) (shadeL_meas _ _ _)
theorem stepL_meas (mk : Bool) (l : List Th) (h : (stepL mk l).2 = true) : meas (stepL mk l).1 < meas l := by
  unfold stepL at h ⊢
  split at h
  · simp at h
  · rename_i hn
    rw [if_neg hn]
    rcases idxG_cases l with ⟨e, _⟩ | ⟨i, hi, e, hc⟩
    · rw [e] at hn; simp at hn
    · rw [e, Int.toNat_natCast]
      refine Nat.lt_of_le_of_lt (shadesL_meas _ _ _) ?_
      have h_ := meas_set l i ⟨(thAt l i).f0, 2, (thAt l i).f2⟩ hi
      have h1 : wt (thAt l i) = 1 := by unfold wt; rw [thAt_eq hi, hc]; rfl
      have h2 : wt (⟨(thAt l i).f0, 2, (thAt l i).f2⟩ : Th) = 0 := rfl
      unfold setC
      omega
theorem stepL_no (mk : Bool) (l : List Th) (h : (stepL mk l).2 = false) : (stepL mk l).1 = l := by
  unfold stepL at h ⊢
  split
  · rfl
  · rename_i hn; rw [if_neg hn] at h; simp at h
theorem meas_le (l : List Th) : meas l ≤ 2 * l.length := by
  induction l with
  | nil => exact Nat.le_refl _
  | cons x l ih =>
    simp only [meas, List.map_cons, List.sum_cons, List.length_cons] at ih ⊢
    have : wt x ≤ 2 := by unfold wt; split; omega; split <;> omega
    omega
theorem beginF_snoc (l : List Th) (i : Nat) : (List.range (i + 1)).foldl begin1 (l, 0) = begin1 ((List.range i).foldl begin1 (l, 0)) i := by rw [List.range_succ, List.foldl_append]; rfl
theorem beginF_le (ns : List Nat) : ∀ s : List Th × Nat, (ns.foldl begin1 s).2 ≤ s.2 + ns.length := by
  induction ns with
  | nil => intro s; exact Nat.le_refl _
  | cons n ns ih =>
    intro s
    rw [List.foldl_cons]
    have h_ := ih (begin1 s n)
    have : (begin1 s n).2 ≤ s.2 + 1 := by unfold begin1; split <;> simp
    simp only [List.length_cons]; omega
end Go.Proofs.Ytnimidkeoocchaa.Mrk
