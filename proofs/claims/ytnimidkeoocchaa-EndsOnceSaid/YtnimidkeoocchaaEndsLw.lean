/- Package ends: what the laws about it share, in plain words. -/
import Derived.Test.YtnimidkeoocchaaEndsDe
import Derived.Test.YtnimidkeoocchaaPE13
import Derived.Test.YtnimidkeoocchaaPE3
import Derived.Test.YtnimidkeoocchaaPE4
set_option linter.unusedVariables false
set_option linter.unusedSimpArgs false
namespace Go.Proofs.Ytnimidkeoocchaa.End
open Go.RowKit Go.Proofs.YtnimidkeoocchaaW.PrintWords Go.Proofs.Ytnimidkeoocchaa.PE Go.Proofs.Ytnimidkeoocchaa.Rch Go.Proofs.Ytnimidkeoocchaa.Chk

theorem copy_int (l : List Int) (h : l.length * 8 ≤ 140737488351232) : backstitchref3_Copy_int.f l = some l := by
  unfold backstitchref3_Copy_int.f
  rw [if_pos (by simp; omega)]
  rfl
/-- Two rising rows with the same members are one. -/
theorem rising_unique : ∀ {a b : List Int}, a.Pairwise (· < ·) → b.Pairwise (· < ·) → (∀ x, x ∈ a ↔ x ∈ b) → a = b
  | [], [], _, _, _ => rfl
  | [], y :: b, _, _, h => by have := (h y).2 (by simp); simp at this
  | x :: a, [], _, _, h => by have := (h x).1 (by simp); simp at this
  | x :: a, y :: b, ha, hb, h => by
    rw [List.pairwise_cons] at ha hb
    have e : x = y := by
      rcases List.mem_cons.1 ((h x).1 (by simp)) with h1 | h1
      · exact h1
      · rcases List.mem_cons.1 ((h y).2 (by simp)) with h2 | h2
        · exact h2.symm
        · have g1 := hb.1 x h1; have g2 := ha.1 y h2; omega
    subst e
    congr 1
    refine rising_unique ha.2 hb.2 (fun z => ?_)
    have hz := h z
    simp only [List.mem_cons] at hz
    constructor
    · intro hza
      rcases hz.1 (.inr hza) with e | e
      · subst e; exact absurd (ha.1 z hza) (by omega)
      · exact e
    · intro hzb
      rcases hz.2 (.inr hzb) with e | e
      · subst e; exact absurd (hb.1 z hzb) (by omega)
      · exact e
theorem nd_0 : ndB [[1], [], []] [2] 0 = false := by decide +kernel
theorem nd_2 : ndB [[1], [], []] [2] 2 = true := by decide +kernel
theorem due_0 : dueL [[1], [], []] [2] [0, 2] = [0] := by
  refine rising_unique (due_sorted _ _ _) (by simp) (fun x => ?_)
  rw [due_mem]
  constructor
  · rintro ⟨h1, h2⟩
    simp only [List.mem_cons, List.not_mem_nil, or_false] at h1
    rcases h1 with rfl | rfl
    · simp
    · rw [nd_2] at h2; cases h2
  · intro h
    simp only [List.mem_cons, List.not_mem_nil, or_false] at h
    subst h
    exact ⟨by simp, nd_0⟩
theorem dueE_0 : dueE [[1], [], []] [2] [0, 2] = 0 := by decide +kernel
theorem stay_0 : rise (stayB [[1], [], []] [2] [0, 2]) = [0, 1] := by
  unfold stayB
  rw [due_0]
  decide +kernel
theorem ended_f (k : Nat) (hk : 10 ≤ k) : backstitchkeep3_ended.f k = some true := by
  unfold backstitchkeep3_ended.f
  unfold ends_Due.f dueR stayR
  simp only [Option.bind_some]
  rw [dueE_0]
  simp only [if_true]
  rw [due_0, stay_0, eq_f _ _ (by simp) k (by simp; omega)]
  simp only [Option.bind_some, decide_true, if_true]
  rw [eq_f _ _ (by simp) k (by simp; omega)]
  rfl
def needE (has : List (List Int)) (roots : List Int) : List Int := if checkE has roots = 0 then rise (fromL has roots) else []
theorem need_f (has : List (List Int)) (roots : List Int) (k : Nat) (hk : checkK has roots + 101 ≤ k) : weak_Needed.f k has roots = some (needE has roots, checkE has roots) := by
  unfold weak_Needed.f needE
  rw [check_f has roots k (by omega)]
  simp only [Option.bind_some]
  by_cases h : checkE has roots = 0
  · rw [if_pos h, if_pos h]
    obtain ⟨h1, h2, h3, h4, h5⟩ := check_ok h
    unfold weak_From.f
    rw [if_pos (okF_iff.2 ⟨by omega, fun r hr x hx => h5 r hr x hx, h4⟩)]
    simp only [Option.bind_some]
    rw [rising_f _ (by rw [fromL_length]; omega) k (by rw [fromL_length]; omega), h]
    rfl
  · rw [if_neg h, if_neg h]
theorem mem_from {has : List (List Int)} {roots : List Int} (hc : checkE has roots = 0) {l : List Int} (hl : InR has.length l) {x : Int} (hx : 0 ≤ x ∧ x < (has.length : Int)) : (fromL has l).getD x.toNat false = true ↔ Lf has l x := by
  obtain ⟨h1, h2, h3, h4, h5⟩ := check_ok hc
  exact (fromL_iff (fun r hr x hx => h5 r hr x hx) hl).2 x hx
theorem getD_ndB {has : List (List Int)} {roots : List Int} (n : Nat) : (fromL has roots).getD n false = ndB has roots (n : Int) := by unfold ndB; rw [Int.toNat_natCast]
theorem mem_stay {has : List (List Int)} {roots l : List Int} {x : Int} : x ∈ rise (stayB has roots l) ↔ (0 ≤ x ∧ x < (has.length : Int)) ∧ (fromL has (dueL has roots l)).getD x.toNat false = true ∧ ndB has roots x = false := by
  rw [mem_rise, stayB_len]
  constructor
  · rintro ⟨h1, h2⟩
    refine ⟨h1, ?_⟩
    unfold stayB at h2
    rw [List.getD_eq_getElem?_getD, List.getElem?_map, List.getElem?_range (by omega)] at h2
    simp only [Option.map_some, Option.getD_some, Bool.and_eq_true, Bool.not_eq_true'] at h2
    exact ⟨h2.1, h2.2⟩
  · rintro ⟨h1, h2, h3⟩
    refine ⟨h1, ?_⟩
    unfold stayB
    rw [List.getD_eq_getElem?_getD, List.getElem?_map, List.getElem?_range (by omega)]
    simp only [Option.map_some, Option.getD_some, Bool.and_eq_true, Bool.not_eq_true']
    exact ⟨h2, h3⟩
theorem stayR_len (has : List (List Int)) (roots l : List Int) : (stayR has roots l).length ≤ has.length := by
  unfold stayR
  split
  · have := rise_length (stayB has roots l); rwa [stayB_len] at this
  · simp
theorem lf_nil {has : List (List Int)} {x : Int} (h : Lf has [] x) : False := by
  induction h with
  | root h => simp at h
  | has _ _ ih => exact ih
end Go.Proofs.Ytnimidkeoocchaa.End
