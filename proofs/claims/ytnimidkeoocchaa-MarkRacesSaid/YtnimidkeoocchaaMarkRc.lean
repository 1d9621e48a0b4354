/- Marking in whatever steps leaves just what is needed: plain words. -/
import Derived.Test.YtnimidkeoocchaaMarkNeed
import Derived.Test.YtnimidkeoocchaaPK1
set_option linter.unusedVariables false
set_option linter.unusedSimpArgs false
namespace Go.Proofs.Ytnimidkeoocchaa.Mrk
open Go.RowKit Go.Proofs.YtnimidkeoocchaaW.PrintWords Go.Proofs.YtnimidkeoocchaaW.PrintLast Go.Proofs.YtnimidkeoocchaaW.PrintMore Go.Proofs.Ytnimidkeoocchaa.PK Go.Proofs.Ytnimidkeoocchaa.Hnd Go.Proofs.Ytnimidkeoocchaa.Rch

theorem rdA (l : List Int) (i : Nat) (h : i < l.length) : rd l (i : Int) = l[i] := by unfold rd; simp [List.getD_eq_getElem?_getD, h]
theorem eq_l0 (a b : List Int) (hl : a.length ≤ 1000000) (hab : a.length = b.length) : ∀ (d i k : Nat), a.length - i = d → i ≤ a.length → d < k → backstitchref3_Eq_int.l0 k b a (a.length : Int) (i : Int) = some (decide (a.drop i = b.drop i)) := by
  intro d
  induction d with
  | zero =>
    intro i k hd hi hk
    obtain ⟨k, rfl⟩ : ∃ q, k = q + 1 := ⟨k - 1, by omega⟩
    simp only [backstitchref3_Eq_int.l0]
    rw [if_neg (by omega), List.drop_eq_nil_of_le (by omega), List.drop_eq_nil_of_le (by omega)]
    simp
  | succ d ih =>
    intro i k hd hi hk
    obtain ⟨k, rfl⟩ : ∃ q, k = q + 1 := ⟨k - 1, by omega⟩
    have hlt : i < a.length := by omega
    have hlt2 : i < b.length := by omega
    have := ih (i + 1) k (by omega) (by omega) (by omega)
    rw [show ((i + 1 : Nat) : Int) = (i : Int) + 1 from by omega] at this
    simp only [backstitchref3_Eq_int.l0]
    rw [if_pos (by omega), if_pos (by omega), if_pos (by omega), if_pos (by omega), rdA a i hlt, rdA b i hlt2, List.drop_eq_getElem_cons hlt, List.drop_eq_getElem_cons hlt2]
    generalize a.drop (i + 1) = t at this ⊢
    generalize b.drop (i + 1) = t2 at this ⊢
    by_cases h : a[i] = b[i]
    · rw [if_pos h, wrap_up_ (i : Int) (by omega) (by omega), this]; simp [h]
    · rw [if_neg h]; simp [h]
theorem eq_f (a b : List Int) (hl : a.length ≤ 1000000) (k : Nat) (hk : a.length < k) : backstitchref3_Eq_int.f k a b = some (decide (a = b)) := by
  unfold backstitchref3_Eq_int.f
  by_cases h : (a.length : Int) = (b.length : Int)
  · rw [if_pos h]
    have := eq_l0 a b hl (by omega) a.length 0 k rfl (by omega) hk
    rw [show ((0 : Nat) : Int) = 0 from rfl, List.drop_zero, List.drop_zero] at this
    exact this
  · rw [if_neg h]
    have : a ≠ b := by rintro rfl; exact h rfl
    simp [this]

theorem rest5 (a : Int) : ∃ r, backstitchref3_Rest.f a 5 = some r ∧ 0 ≤ r ∧ r ≤ 4 := by
  unfold backstitchref3_Rest.f
  rw [if_neg (by decide)]
  have h1 : Int.tmod a 5 < 5 := Int.tmod_lt_of_pos a (by decide)
  have h2 : -5 < Int.tmod a 5 := Int.lt_tmod_of_pos a (by decide)
  generalize Int.tmod a 5 = t at h1 h2
  by_cases h : t < 0
  · rw [if_pos h]
    exact ⟨_, rfl, by unfold wrap64; omega⟩
  · rw [if_neg h]
    exact ⟨_, rfl, by omega⟩
theorem low_mk (kind : Int) (mk : Bool) (l : List Th) {d : Int} (a b n : Int) (h : d < 5) : (doL kind mk l d a b n).mk = mk := by
  unfold doL
  split
  · rfl
  split
  · rfl
  split
  · rfl
  split
  · rfl
  split
  · omega
  split
  · omega
  split
  · omega
  rfl
theorem K.steps {kind : Int} {B : List Bool} {l : List Th} (h : K kind true B l) (a b n : Int) : (doL kind true l 5 a b n).mk = true ∧ Sm l (doL kind true l 5 a b n).l := by
  unfold doL
  rw [if_neg (by decide), if_neg (by decide), if_neg (by decide), if_neg (by decide), if_neg (by decide), if_pos rfl, if_pos rfl]
  split
  · exact ⟨rfl, Sm.refl l⟩
  · exact ⟨rfl, (MG.run n (meas l + 1) 0 ⟨h.inv.ok, h.g, h.m rfl⟩).2⟩
theorem K.begun {kind : Int} {B : List Bool} {l : List Th} (h : K kind false B l) (a b n : Int) : (doL kind false l 6 a b n).mk = true ∧ Sm l (doL kind false l 6 a b n).l ∧ nextB false (doL kind false l 6 a b n).mk B l = needL l := by
  have e : doL kind false l 6 a b n = ⟨true, (beginL l).1, ((beginL l).2 : Int), 0⟩ := by
    unfold doL
    rw [if_neg (by decide), if_neg (by decide), if_neg (by decide), if_neg (by decide), if_pos rfl, if_neg (by decide)]
  rw [e]
  exact ⟨rfl, (begin_fold l l.length).1, by unfold nextB; rw [if_pos ⟨rfl, rfl⟩]⟩
def leftL (cs : List Int) : List Int := ((List.range cs.length).filter (fun i => !(cs.getD i 0 == 3))).map Int.ofNat
def leftTo (cs : List Int) (i : Nat) : List Int := ((List.range i).filter (fun i => !(cs.getD i 0 == 3))).map Int.ofNat
theorem leftTo_next (cs : List Int) (i : Nat) : leftTo cs (i + 1) = leftTo cs i ++ (if (cs.getD i 0 == 3) = true then [] else [(i : Int)]) := by
  unfold leftTo
  rw [List.range_succ, List.filter_append, List.map_append]
  congr 1
  by_cases h : (cs.getD i 0 == 3) = true
  · rw [if_pos h, List.filter_cons, if_neg (by rw [h]; decide)]; rfl
  · rw [if_neg h, List.filter_cons, if_pos (by simpa using h)]; rfl
theorem leftTo_len (cs : List Int) (i : Nat) : (leftTo cs i).length ≤ i := by
  unfold leftTo
  rw [List.length_map]
  exact Nat.le_trans (List.length_filter_le _ _) (by simp)
/-- WHERE NOTHING ELSE IS DONE BETWEEN, JUST WHAT IS NEEDED IS LEFT. -/
theorem K.left {kind : Int} {l0 l : List Th} (hk : kind = 1 ∨ kind = 2) (h : K kind true (needL l0) l) (s : Sm l0 l) (ho : OkL l0) (a b n : Int) :
    (doL kind true l 7 a b n).mk = false ∧ (doL kind true l 7 a b n).err = 0 ∧ leftL (col (doL kind true l 7 a b n).l) = rise (needL l0) := by
  have e : doL kind true l 7 a b n = ⟨false, (finL true (meas l + 1) l).map end1, (whites (finL true (meas l + 1) l) : Int), 0⟩ := by
    unfold doL
    rw [if_neg (by decide), if_neg (by decide), if_neg (by decide), if_neg (by decide), if_neg (by decide), if_neg (by decide), if_pos rfl, if_pos rfl]
  rw [e]
  refine ⟨rfl, rfl, ?_⟩
  obtain ⟨hm, hs⟩ := MG.fin (meas l + 1) ⟨h.inv.ok, h.g, h.m rfl⟩
  have hg := no_grey (fin_no true (meas l + 1) l (by omega))
  generalize finL true (meas l + 1) l = r at hm hs hg
  have hs2 : Sm l0 r := s.trans hs
  have hlen : ((col (r.map end1)).length) = (needL l0).length := by
    rw [needL_len]; unfold col; simp [hs2.len]
  unfold leftL rise
  rw [hlen]
  congr 1
  apply List.filter_congr
  intro i hi
  have hi' : i < l0.length := by rw [List.mem_range, needL_len] at hi; exact hi
  have hir : i < r.length := by rw [hs2.len]; exact hi'
  rw [col_at]
  change (!(cl (r.map end1) i == 3)) = (needL l0).getD i false
  cases hq : (needL l0).getD i false with
  | false =>
    have hU : U (needL l0) i := by unfold U; rw [getD_true_false _ _ (by rw [needL_len]; exact hi')]; exact hq
    rw [end_U hm hir hU]; rfl
  | true =>
    have hN := hs2.nd ((need_iff ho hi').1 hq)
    have h0 : cl r i ≠ 0 := by
      clear hq hir hi' hi
      induction hN with
      | @root n hr =>
        rcases hk with e1 | e1
        · exact hm.m.d2 e1 n hr
        · intro h0
          exact gy_none hg (hm.m.y e1 n (hd_lt hr) (hm.m.c n hr) h0)
      | has _ hp ih => exact hm.black hk hg hp ih
    have h3 := hm.g.need hN
    rw [end_cl hir, if_neg h0]
    split
    · rfl
    · simpa using h3
end Go.Proofs.Ytnimidkeoocchaa.Mrk
