/- Package mark, in plain words: what deeds keep, and how colours are counted. -/
import Derived.Test.YtnimidkeoocchaaMarkMd
set_option linter.unusedVariables false
set_option linter.unusedSimpArgs false
namespace Go.Proofs.Ytnimidkeoocchaa.Mrk
open Go.RowKit Go.Proofs.Ytnimidkeoocchaa.PK Go.Proofs.Ytnimidkeoocchaa.Rch

def col (l : List Th) : List Int := l.map (·.f1)
def Clean (l : List Th) : Prop := ∀ x ∈ l, x.f1 ≠ 1 ∧ x.f1 ≠ 2
structure Inv (mk : Bool) (l : List Th) : Prop where
  ok : OkL l
  clean : mk = false → Clean l
theorem putL_len (l : List Th) (i j : Nat) (x : Int) : (putL l i j x).length = l.length := by simp [putL]
theorem getElem_thAt {l : List Th} {i : Nat} (h : i < l.length) : l[i] = thAt l i := (thAt_eq h).symm
theorem putL_ok {l : List Th} (h : OkL l) (i j : Nat) {x : Int} (hx : x < l.length) : OkL (putL l i j x) := by
  refine ⟨by rw [putL_len]; exact h.len, fun y hy => ?_⟩
  rw [putL_len]
  by_cases hi : i < l.length
  · unfold putL at hy
    rcases List.mem_or_eq_of_mem_set hy with hy | rfl
    · exact h.pl y hy
    · have h_ := h.pl _ (List.getElem_mem hi)
      rw [getElem_thAt hi] at h_
      refine ⟨by simpa using h_.1, fun k hk => ?_⟩
      rcases List.mem_or_eq_of_mem_set hk with hk | rfl
      · exact h_.2 k hk
      · exact hx
  · unfold putL at hy
    rw [thAt_out hi] at hy
    exact h.pl y hy
theorem set_f1 {l : List Th} {i : Nat} {x : Th} (hx : x.f1 = (thAt l i).f1) : col (l.set i x) = col l := by
  unfold col
  rw [List.map_set]
  apply List.ext_getElem?
  intro j
  rw [List.getElem?_set]
  split
  · rename_i e
    subst e
    split
    · rename_i h
      have h' : i < l.length := by simpa using h
      rw [hx, thAt_eq h', List.getElem?_map, List.getElem?_eq_getElem h']
      rfl
    · rename_i h
      have h' : ¬ i < l.length := by simpa using h
      rw [List.getElem?_eq_none (by simpa using h')]
  · rfl
theorem putL_col (l : List Th) (i j : Nat) (x : Int) : col (putL l i j x) = col l := set_f1 rfl
theorem setH_col (l : List Th) (i : Nat) (b : Bool) : col (setH l i b) = col l := set_f1 rfl
theorem shade_false (n : Int) (l : List Th) : shadeL false n l = l := by unfold shadeL; simp
theorem Clean.of_col {l l' : List Th} (h : Clean l) (e : col l' = col l) : Clean l' := by
  intro x hx
  have : x.f1 ∈ col l := e ▸ List.mem_map_of_mem hx
  obtain ⟨y, hy, he⟩ := List.mem_map.1 this
  rw [← he]; exact h y hy
theorem end_ok {l : List Th} (h : OkL l) : OkL (l.map end1) := by
  refine ⟨by simpa using h.len, fun x hx => ?_⟩
  obtain ⟨y, hy, rfl⟩ := List.mem_map.1 hx
  have h_ := h.pl y hy
  unfold end1
  split
  · simp
  · split <;> simpa using h_
theorem make_ok {l : List Th} (h : OkL l) (mk : Bool) (n : Int) : OkL (makeL mk l n).1 := by
  unfold makeL
  split
  · exact h
  · split
    · exact h
    · rename_i h1 h2
      refine ⟨by simp; omega, fun x hx => ?_⟩
      rcases List.mem_append.1 hx with hx | hx
      · have h_ := h.pl x hx
        exact ⟨h_.1, fun k hk => by have := h_.2 k hk; simp; omega⟩
      · simp at hx
        subst hx
        unfold newTh
        refine ⟨by simp; omega, fun k hk => ?_⟩
        have := List.eq_of_mem_replicate hk
        simp; omega
theorem fin_no (mk : Bool) : ∀ k l, meas l < k → ∀ x ∈ finL mk k l, x.f1 ≠ 1
  | 0, l, h => by omega
  | k + 1, l, h => by
    rw [finL]
    cases hq : (stepL mk l).2 with
    | true => rw [if_pos rfl]; exact fin_no mk k _ (by have := stepL_meas mk l hq; omega)
    | false =>
      rw [if_neg (by decide)]
      unfold stepL at hq
      split at hq
      · rename_i h0
        rcases idxG_cases l with ⟨_, hn⟩ | ⟨i, hi, e, _⟩
        · exact hn
        · rw [e] at h0; omega
      · simp at hq
theorem end_clean {r : List Th} (h : ∀ x ∈ r, x.f1 ≠ 1) : Clean (r.map end1) := by
  intro x hx
  obtain ⟨y, hy, rfl⟩ := List.mem_map.1 hx
  have h_ := h y hy
  unfold end1
  split
  · simp
  · split
    · simp
    · rename_i h2; exact ⟨h_, h2⟩
theorem old_lt {kind : Int} {l : List Th} {a b n : Int} (h : OkL l) : True := trivial
theorem set_ok {kind : Int} {mk : Bool} {l : List Th} (h : OkL l) (a b n : Int) : OkL (setL kind mk l a b n).1 := by
  unfold setL
  split
  · rename_i he
    split
    · exact h
    · have h1 : OkL (shadeL mk (oldOf kind l a b n) l) := h.of_has (shadeL_has _ _ _)
      refine putL_ok h1 _ _ ?_
      rw [shadeL_len]
      by_cases hb : b = -1
      · omega
      · exact (namedE_in he b (by unfold nsOf; rw [if_neg hb]; simp)).2
  · exact h
theorem hold_ok {kind : Int} {mk : Bool} {l : List Th} (h : OkL l) (n : Int) (is : Bool) : OkL (holdL kind mk l n is).1 := by
  unfold holdL
  split
  · split
    · exact h
    · refine OkL.of_has (l := l) h ((setH_has _ _ _).trans ?_)
      split
      · exact shadeL_has _ _ _
      · rfl
  · exact h
theorem begin_ok {l : List Th} (h : OkL l) : OkL (beginL l).1 := h.of_has (beginF_has _ _)
theorem set_clean {kind : Int} {l : List Th} (h : Clean l) (a b n : Int) : Clean (setL kind false l a b n).1 := by
  unfold setL
  rw [shade_false]
  split
  · split
    · exact h
    · exact h.of_col (putL_col _ _ _ _)
  · exact h
theorem hold_clean {kind : Int} {l : List Th} (h : Clean l) (n : Int) (is : Bool) : Clean (holdL kind false l n is).1 := by
  unfold holdL
  rw [shade_false]
  split
  · split
    · exact h
    · refine h.of_col ((setH_col _ _ _).trans ?_)
      split <;> rfl
  · exact h
theorem make_clean {l : List Th} (h : Clean l) (n : Int) : Clean (makeL false l n).1 := by
  unfold makeL
  split
  · exact h
  · split
    · exact h
    · intro x hx
      rcases List.mem_append.1 hx with hx | hx
      · exact h x hx
      · simp at hx; subst hx; simp [newTh]
theorem do_inv {kind : Int} {mk : Bool} {l : List Th} (h : Inv mk l) (d a b n : Int) : Inv (doL kind mk l d a b n).mk (doL kind mk l d a b n).l := by
  have h0 := h.ok
  unfold doL
  by_cases h1 : d = 1
  · rw [if_pos h1]; exact ⟨make_ok h0 mk n, fun e => by subst e; exact make_clean (h.clean rfl) n⟩
  rw [if_neg h1]
  by_cases h2 : d = 2
  · rw [if_pos h2]; exact ⟨set_ok h0 a b n, fun e => by subst e; exact set_clean (h.clean rfl) a b n⟩
  rw [if_neg h2]
  by_cases h4 : d = 4
  · rw [if_pos h4]; exact ⟨hold_ok h0 a true, fun e => by subst e; exact hold_clean (h.clean rfl) a true⟩
  rw [if_neg h4]
  by_cases h3 : d = 3
  · rw [if_pos h3]; exact ⟨hold_ok h0 a false, fun e => by subst e; exact hold_clean (h.clean rfl) a false⟩
  rw [if_neg h3]
  by_cases h6 : d = 6
  · rw [if_pos h6]
    split
    · exact ⟨h0, fun e => by cases e⟩
    · exact ⟨begin_ok h0, fun e => by cases e⟩
  rw [if_neg h6]
  by_cases h5 : d = 5
  · rw [if_pos h5]
    split
    · split
      · exact ⟨h0, fun e => by cases e⟩
      · exact ⟨h0.of_has (runL_has _ _ _ _ _), fun e => by cases e⟩
    · rename_i hm; exact ⟨h0, fun _ => h.clean (by simpa using hm)⟩
  rw [if_neg h5]
  by_cases h7 : d = 7
  · rw [if_pos h7]
    split
    · exact ⟨end_ok (h0.of_has (finL_has _ _ _)), fun _ => end_clean (fin_no _ _ _ (by omega))⟩
    · rename_i hm; exact ⟨h0, fun _ => h.clean (by simpa using hm)⟩
  rw [if_neg h7]
  exact ⟨h0, h.clean⟩
theorem inv_nil (mk : Bool) : Inv mk [] := ⟨⟨by simp, fun x hx => by simp at hx⟩, fun _ x hx => by simp at hx⟩
/-! ### Counting -/
theorem cnt_set : ∀ (l : List Int) (i : Nat) (y c : Int) (h : i < l.length), cnt (l.set i y) c + (if l[i] = c then 1 else 0) = cnt l c + (if y = c then 1 else 0)
  | [], _, _, _, h => by simp at h
  | x :: l, 0, y, c, h => by
    simp only [List.set_cons_zero, cnt, List.countP_cons, List.getElem_cons_zero, beq_iff_eq]
    omega
  | x :: l, i + 1, y, c, h => by
    have h_ := cnt_set l i y c (by simpa using h)
    simp only [List.set_cons_succ, cnt, List.countP_cons, List.getElem_cons_succ, beq_iff_eq] at h_ ⊢
    omega
theorem cnt_setC {l : List Th} {i : Nat} (hi : i < l.length) (y c : Int) : cnt (col (setC l i y)) c + (if l[i].f1 = c then 1 else 0) = cnt (col l) c + (if y = c then 1 else 0) := by
  unfold setC col
  rw [List.map_set]
  have h_ := cnt_set (l.map (·.f1)) i y c (by simpa using hi)
  simpa using h_
theorem cnt_shade {c : Int} (h0 : c ≠ 0) (h1 : c ≠ 1) (mk : Bool) (n : Int) (l : List Th) : cnt (col (shadeL mk n l)) c = cnt (col l) c := by
  unfold shadeL
  split
  · rename_i h
    by_cases hi : n.toNat < l.length
    · have h_ := cnt_setC hi 1 c
      have h2 := h.2.2
      rw [thAt_eq hi] at h2
      rw [if_neg (by omega), if_neg (by omega)] at h_
      exact h_
    · unfold setC; rw [thAt_out hi]
  · rfl
theorem cnt_shades {c : Int} (h0 : c ≠ 0) (h1 : c ≠ 1) (mk : Bool) (ks : List Int) : ∀ l, cnt (col (shadesL mk ks l)) c = cnt (col l) c := by
  induction ks with
  | nil => intro l; rfl
  | cons k ks ih => intro l; rw [shadesL, List.foldl_cons, ← shadesL, ih, cnt_shade h0 h1]
theorem cnt_step (mk : Bool) (l : List Th) (h : (stepL mk l).2 = true) : cnt (col (stepL mk l).1) 2 = cnt (col l) 2 + 1 ∧ cnt (col (stepL mk l).1) 3 = cnt (col l) 3 := by
  unfold stepL at h ⊢
  split at h
  · simp at h
  · rename_i hn
    rw [if_neg hn]
    rcases idxG_cases l with ⟨e, _⟩ | ⟨i, hi, e, hc⟩
    · rw [e] at hn; simp at hn
    · rw [e, Int.toNat_natCast]
      simp only
      rw [cnt_shades (by decide) (by decide), cnt_shades (by decide) (by decide)]
      have h2 := cnt_setC hi 2 2
      have h3 := cnt_setC hi 2 3
      rw [hc] at h2 h3
      simp at h2 h3
      exact ⟨h2, h3⟩
theorem cnt_run (mk : Bool) (n : Int) : ∀ k m l, m ≤ n → (m ≤ (runL mk n k m l).2 ∧ (runL mk n k m l).2 ≤ n ∧ (cnt (col (runL mk n k m l).1) 2 : Int) + m = cnt (col l) 2 + (runL mk n k m l).2)
  | 0, m, l, h => ⟨Int.le_refl _, h, rfl⟩
  | k + 1, m, l, h => by
    rw [runL]
    split
    · cases hq : (stepL mk l).2 with
      | true =>
        rw [if_pos rfl]
        have h_ := cnt_run mk n k (m + 1) (stepL mk l).1 (by omega)
        have h2 := (cnt_step mk l hq).1
        omega
      | false => rw [if_neg (by decide)]; exact ⟨Int.le_refl _, h, rfl⟩
    · exact ⟨Int.le_refl _, h, rfl⟩
theorem run_no (mk : Bool) (n : Int) : ∀ k m l, meas l < k → (runL mk n k m l).2 < n → ∀ x ∈ (runL mk n k m l).1, x.f1 ≠ 1
  | 0, m, l, h, _ => by omega
  | k + 1, m, l, h, h2 => by
    rw [runL] at h2 ⊢
    split
    · rename_i hmn
      rw [if_pos hmn] at h2
      cases hq : (stepL mk l).2 with
      | true =>
        rw [hq, if_pos rfl] at h2
        rw [if_pos rfl]
        exact run_no mk n k _ _ (by have := stepL_meas mk l hq; omega) h2
      | false =>
        rw [if_neg (by decide)]
        unfold stepL at hq
        split at hq
        · rename_i h0
          rcases idxG_cases l with ⟨_, hn⟩ | ⟨i, hi, e, _⟩
          · exact hn
          · rw [e] at h0; omega
        · simp at hq
    · rename_i hmn
      rw [if_neg hmn] at h2
      exact absurd h2 (by simpa using hmn)
theorem cnt_zero {l : List Th} {c : Int} (h : ∀ x ∈ l, x.f1 ≠ c) : cnt (col l) c = 0 := by
  unfold cnt col
  rw [List.countP_eq_zero]
  intro x hx
  obtain ⟨y, hy, rfl⟩ := List.mem_map.1 hx
  simpa using h y hy
theorem cnt_fin (mk : Bool) : ∀ k l, cnt (col (finL mk k l)) 3 = cnt (col l) 3
  | 0, l => rfl
  | k + 1, l => by
    rw [finL]
    cases hq : (stepL mk l).2 with
    | true => rw [if_pos rfl, cnt_fin mk k, (cnt_step mk l hq).2]
    | false => rw [if_neg (by decide)]
theorem cnt_end (r : List Th) : cnt (col (r.map end1)) 3 = cnt (col r) 3 + whites r := by
  induction r with
  | nil => rfl
  | cons x r ih =>
    simp only [cnt, col, whites, List.map_cons, List.countP_cons, end1] at ih ⊢
    rw [ih]
    by_cases h0 : x.f1 = 0
    · first | (simp [h0]; done) | (simp [h0]; omega)
    · by_cases h2 : x.f1 = 2
      · first | (simp [h0, h2]; done) | (simp [h0, h2]; omega)
      · first | (simp [h0, h2]; done) | (simp [h0, h2]; omega)
/-- MarkSteps' three claims, of one deed. -/
def StepsOk (mk : Bool) (l : List Th) (d n : Int) (o : Out) : Prop :=
  (d = 5 → o.err = 0 → o.many ≤ n ∧ (cnt (col o.l) 2 : Int) = cnt (col l) 2 + o.many ∧ (o.many < n → cnt (col o.l) 1 = 0)) ∧
  (d = 7 → o.err = 0 → (cnt (col o.l) 3 : Int) = cnt (col l) 3 + o.many ∧ cnt (col o.l) 1 = 0 ∧ cnt (col o.l) 2 = 0 ∧ o.mk = false) ∧
  (mk = false → o.mk = false → cnt (col o.l) 1 = 0 ∧ cnt (col o.l) 2 = 0)
theorem steps_ok {kind : Int} {mk : Bool} {l : List Th} (h : Inv mk l) (d a b n : Int) : StepsOk mk l d n (doL kind mk l d a b n) := by
  refine ⟨fun h5 => ?_, fun h7 => ?_, fun hm hm' => ?_⟩
  · subst h5
    unfold doL
    rw [if_neg (by decide), if_neg (by decide), if_neg (by decide), if_neg (by decide), if_neg (by decide), if_pos rfl]
    split
    · split
      · intro h_; cases h_
      · rename_i hn
        intro _
        have h1 := cnt_run true n (meas l + 1) 0 l (by omega)
        refine ⟨h1.2.1, by simp only; omega, fun hlt => cnt_zero (run_no true n (meas l + 1) 0 l (by omega) hlt)⟩
    · intro h_; cases h_
  · subst h7
    unfold doL
    rw [if_neg (by decide), if_neg (by decide), if_neg (by decide), if_neg (by decide), if_neg (by decide), if_neg (by decide), if_pos rfl]
    split
    · intro _
      have hc := end_clean (fin_no true (meas l + 1) l (by omega))
      refine ⟨?_, cnt_zero (fun x hx => (hc x hx).1), cnt_zero (fun x hx => (hc x hx).2), rfl⟩
      simp only
      rw [cnt_end, cnt_fin]; rfl
    · intro h_; cases h_
  · have h_ := (do_inv (kind := kind) h d a b n).clean hm'
    exact ⟨cnt_zero (fun x hx => (h_ x hx).1), cnt_zero (fun x hx => (h_ x hx).2)⟩
end Go.Proofs.Ytnimidkeoocchaa.Mrk
