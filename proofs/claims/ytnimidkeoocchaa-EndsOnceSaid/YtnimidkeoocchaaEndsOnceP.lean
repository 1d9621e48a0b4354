/- The law EndsOnce over the printed functions: plain lists, no program. -/
import Derived.Test.YtnimidkeoocchaaEndsRp
import Derived.Test.YtnimidkeoocchaaPE16
import Derived.Test.YtnimidkeoocchaaStmEndsOnce
set_option linter.unusedVariables false
set_option linter.unusedSimpArgs false
namespace Go.Proofs.Ytnimidkeoocchaa.End
open Go.RowKit Go.Proofs.YtnimidkeoocchaaW.PrintWords Go.Proofs.Ytnimidkeoocchaa.Opn Go.Proofs.Ytnimidkeoocchaa.PE Go.Proofs.Ytnimidkeoocchaa.Rch Go.Proofs.Ytnimidkeoocchaa.Chk

section
variable (l D ST ND : List Int) (RS : List (List Int))
theorem once_l2 (hl : l.length ≤ 1000) (hD : D.length ≤ 1000) (hS : ST.length ≤ 1000) (hN : ND.length ≤ 1000) (h : ∀ x ∈ D, x ∉ ND ∧ x ∈ ST ∧ x ∈ l) : ∀ (d i k : Nat), D.length - i = d → i ≤ D.length → d + 2000 ≤ k → backstitchkeep3_EndsOnce.l2 k l D ST 0 ND 0 (D.length : Int) D (D.length : Int) (i : Int) = some true := by
  intro d
  induction d with
  | zero =>
    intro i k hd hi hk
    obtain ⟨k, rfl⟩ : ∃ q, k = q + 1 := ⟨k - 1, by omega⟩
    simp only [backstitchkeep3_EndsOnce.l2]
    rw [if_neg (by omega), ended_f k (by omega)]
    simp
  | succ d ih =>
    intro i k hd hi hk
    obtain ⟨k, rfl⟩ : ∃ q, k = q + 1 := ⟨k - 1, by omega⟩
    have hlt : i < D.length := by omega
    have next := ih (i + 1) k (by omega) (by omega) (by omega)
    rw [show ((i + 1 : Nat) : Int) = (i : Int) + 1 from by omega, ← wrap_up (i : Int) (by omega) (by omega)] at next
    obtain ⟨h1, h2, h3⟩ := h _ (List.getElem_mem hlt)
    simp only [backstitchkeep3_EndsOnce.l2]
    rw [if_pos (by omega), if_pos (by omega), if_pos (by omega), rdI D i hlt, has_f ND _ (by omega) k (by omega)]
    simp only [Option.bind_some]
    rw [if_neg (by simpa using h1), has_f ST _ (by omega) k (by omega)]
    simp only [Option.bind_some]
    rw [if_pos (by simpa using h2), has_f l _ (by omega) k (by omega)]
    simp only [Option.bind_some]
    rw [if_pos (by simpa using h3)]
    exact next
theorem once_l1 (hD : D.length ≤ 1000) (row : List Int) (hr : row.Pairwise (· < ·)) (hrl : row.length ≤ 1000) (hm : ∀ x ∈ row, x ∈ D) (many i0 : Int) (K0 : Nat) (hK0 : 2000 ≤ K0)
    (next0 : ∀ k', K0 ≤ k' → backstitchkeep3_EndsOnce.l0 k' l D ST 0 ND 0 many RS (RS.length : Int) (wrap64 (i0 + 1)) = some true) :
    ∀ (d i k : Nat), row.length - i = d → i ≤ row.length → K0 + d + 1 ≤ k → backstitchkeep3_EndsOnce.l1 k l D ST 0 ND 0 many row RS (RS.length : Int) i0 row (row.length : Int) (i : Int) = some true := by
  intro d
  induction d with
  | zero =>
    intro i k hd hi hk
    obtain ⟨k, rfl⟩ : ∃ q, k = q + 1 := ⟨k - 1, by omega⟩
    simp only [backstitchkeep3_EndsOnce.l1]
    rw [if_neg (by omega)]
    exact next0 k (by omega)
  | succ d ih =>
    intro i k hd hi hk
    obtain ⟨k, rfl⟩ : ∃ q, k = q + 1 := ⟨k - 1, by omega⟩
    have hlt : i < row.length := by omega
    have next := ih (i + 1) k (by omega) (by omega) (by omega)
    rw [show ((i + 1 : Nat) : Int) = (i : Int) + 1 from by omega, ← wrap_up (i : Int) (by omega) (by omega)] at next
    simp only [backstitchkeep3_EndsOnce.l1]
    rw [if_pos (by omega), if_pos (by omega), if_pos (by omega), rdI row i hlt, has_f D _ (by omega) k (by omega)]
    simp only [Option.bind_some]
    rw [if_pos (by simpa using hm _ (List.getElem_mem hlt))]
    by_cases h0 : (i : Int) > 0
    · have e : wrap64 ((i : Int) - 1) = ((i - 1 : Nat) : Int) := by unfold wrap64; omega
      have hlt2 : i - 1 < row.length := by omega
      rw [if_pos h0, e, if_pos (by omega), if_pos (by omega), rdI row (i - 1) hlt2]
      have hlt3 : row[i - 1] < row[i] := List.pairwise_iff_getElem.1 hr (i - 1) i hlt2 hlt (by omega)
      rw [if_neg (by omega)]
      exact next
    · rw [if_neg h0]
      exact next
theorem once_num {C sm d rl k K0 : Nat} (h : C + (rl + sm) + 2 * (d + 1) + 1 ≤ k + 1) (e : K0 = C + sm + 2 * d + 1) : K0 + rl + 1 ≤ k := by omega
theorem once_l0 (C : Nat) (hC : 3010 ≤ C) (hl : l.length ≤ 1000) (hD : D.length ≤ 1000) (hS : ST.length ≤ 1000) (hN : ND.length ≤ 1000) (h : ∀ x ∈ D, x ∉ ND ∧ x ∈ ST ∧ x ∈ l) (hRl : RS.length ≤ 1000) (hR : ∀ r ∈ RS, r.Pairwise (· < ·) ∧ ∀ x ∈ r, x ∈ D) :
    ∀ (d i many k : Nat), RS.length - i = d → i ≤ RS.length → many + ((RS.drop i).map List.length).sum = D.length → C + ((RS.drop i).map List.length).sum + 2 * d + 1 ≤ k → backstitchkeep3_EndsOnce.l0 k l D ST 0 ND 0 (many : Int) RS (RS.length : Int) (i : Int) = some true := by
  intro d
  induction d with
  | zero =>
    intro i many k hd hi hs hk
    obtain ⟨k, rfl⟩ : ∃ q, k = q + 1 := ⟨k - 1, by omega⟩
    have e : many = D.length := by rw [List.drop_eq_nil_of_le (by omega)] at hs; simpa using hs
    subst e
    simp only [backstitchkeep3_EndsOnce.l0]
    rw [if_neg (by omega)]
    exact once_l2 l D ST ND hl hD hS hN h _ 0 k rfl (by omega) (by omega)
  | succ d ih =>
    intro i many k hd hi hs hk
    obtain ⟨k, rfl⟩ : ∃ q, k = q + 1 := ⟨k - 1, by omega⟩
    have hlt : i < RS.length := by omega
    have hdrop : RS.drop i = RS[i] :: RS.drop (i + 1) := List.drop_eq_getElem_cons hlt
    rw [hdrop, List.map_cons, List.sum_cons] at hs hk
    obtain ⟨h1, h2⟩ := hR _ (List.getElem_mem hlt)
    have ih := ih (i + 1)
    obtain ⟨sm, hsm⟩ : ∃ s, s = ((RS.drop (i + 1)).map List.length).sum := ⟨_, rfl⟩
    rw [← hsm] at hs hk ih
    obtain ⟨row, hrow⟩ : ∃ r, r = RS[i] := ⟨_, rfl⟩
    have hrow' : RS[i] = row := hrow.symm
    rw [hrow'] at hs hk h1 h2 hdrop
    have hrl : row.length ≤ 1000 := by omega
    have hrd : rd_L1 RS (i : Int) = row := (rdL RS i hlt).trans hrow'
    simp only [backstitchkeep3_EndsOnce.l0]
    rw [if_pos (by omega), if_pos (by omega), if_pos (by omega), hrd]
    have ew : wrap64 ((many : Int) + (row.length : Int)) = ((many + row.length : Nat) : Int) := by unfold wrap64; omega
    rw [ew]
    obtain ⟨K0, hK0⟩ : ∃ q, q = C + sm + 2 * d + 1 := ⟨_, rfl⟩
    have hk3 : K0 + row.length + 1 ≤ k := once_num hk hK0
    have hk4 : 2000 ≤ K0 := by omega
    have next : ∀ k', K0 ≤ k' → backstitchkeep3_EndsOnce.l0 k' l D ST 0 ND 0 ((many + row.length : Nat) : Int) RS (RS.length : Int) (wrap64 ((i : Int) + 1)) = some true := by
      intro k' hk'
      rw [wrap_up (i : Int) (by omega) (by omega), show (i : Int) + 1 = ((i + 1 : Nat) : Int) from by omega]
      exact ih (many + row.length) k' (by omega) (by omega) (by omega) (by omega)
    have last := once_l1 l D ST ND RS hD row h1 hrl h2 ((many + row.length : Nat) : Int) (i : Int) K0 hk4 next row.length 0 k (Nat.sub_zero _) (Nat.zero_le _) hk3
    exact last
end
theorem endsOnce : EndsOnceS.EndsOnce.Pure := by
  rintro ⟨has, roots⟩ l ⟨hG1, hG2⟩ hL
  refine ⟨checkK has roots + 10000, ?_⟩
  generalize hK : checkK has roots + 10000 = K
  show backstitchkeep3_EndsOnce.f K has roots l = some true
  unfold backstitchkeep3_EndsOnce.f
  rw [ended_f K (by omega)]
  simp only [Option.bind_some, if_true]
  unfold ends_Due.f ends_Rounds.f
  simp only [Option.bind_some]
  rw [need_f has _ K (by omega)]
  simp only [Option.bind_some]
  by_cases hE : dueE has roots l = 0
  · rw [if_pos hE, hE]
    obtain ⟨hck, hl100, hin⟩ := dueE_ok hE
    obtain ⟨hz1, hz2, hz3, hri, hhi⟩ := check_ok hck
    have hDl := due_len has roots l
    have hDR : dueR has roots l = dueL has roots l := by unfold dueR; rw [if_pos hE]
    have hSR : stayR has roots l = rise (stayB has roots l) := by unfold stayR; rw [if_pos hE]
    have hRR : roundsR has roots l = roundsL has (dueL has roots l).length (dueL has roots l) := by unfold roundsR; rw [if_pos hE]
    have hNR : needE has roots = rise (fromL has roots) := by unfold needE; rw [if_pos hck]
    obtain ⟨r1, r2, r3⟩ := rounds_spec (has := has) _ (dueL has roots l) (Nat.le_refl _) (due_sorted has roots l)
    have hsl := stayR_len has roots l
    have hnl : (needE has roots).length ≤ 1000 := by
      rw [hNR]
      have := rise_length (fromL has roots)
      rw [fromL_length] at this
      omega
    have hfacts : ∀ x ∈ dueL has roots l, x ∉ needE has roots ∧ x ∈ stayR has roots l ∧ x ∈ l := by
      intro x hx
      obtain ⟨h1, h2⟩ := due_mem.1 hx
      have hxr := hin x h1
      refine ⟨fun hn => ?_, ?_, h1⟩
      · rw [hNR, mem_rise] at hn
        unfold ndB at h2
        rw [hn.2] at h2; cases h2
      · rw [hSR, mem_stay]
        exact ⟨hxr, (mem_from hck (fun y hy => hin y (due_mem.1 hy).1) hxr).2 (.root hx), h2⟩
    rw [hDR, hRR, hck]
    rw [show (0 : Int) = ((0 : Nat) : Int) from rfl]
    refine once_l0 l _ _ _ _ 3010 (by omega) (by omega) (by omega) (by omega) hnl hfacts (by omega) r1 _ 0 0 K rfl (by omega) (by simpa using r2) ?_
    rw [List.drop_zero, r2]
    omega
  · rw [if_neg hE]
    have e1 : dueR has roots l = [] := by unfold dueR; rw [if_neg hE]
    have e2 : stayR has roots l = [] := by unfold stayR; rw [if_neg hE]
    have e3 : roundsR has roots l = [] := by unfold roundsR; rw [if_neg hE]
    rw [e1, e2, e3]
    simp [wrap64]
end Go.Proofs.Ytnimidkeoocchaa.End
