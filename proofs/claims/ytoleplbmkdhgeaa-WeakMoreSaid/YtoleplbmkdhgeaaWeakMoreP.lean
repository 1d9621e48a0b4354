/- The law WeakMore over the printed functions: plain lists, no program. -/
import Derived.Test.YtoleplbmkdhgeaaWeakPure
import Derived.Test.YtoleplbmkdhgeaaStmWeakMore
set_option linter.unusedVariables false
set_option linter.unusedSimpArgs false
namespace Go.Proofs.Ytoleplbmkdhgeaa.Rch
open Go.RowKit Go.Proofs.YtoleplbmkdhgeaaW.PrintWords Go.Proofs.Ytoleplbmkdhgeaa.Opn Go.Proofs.Ytoleplbmkdhgeaa.PQ Go.Proofs.Ytoleplbmkdhgeaa.Chk

theorem copy_int (l : List Int) (h : l.length * 8 ≤ 140737488351232) : backstitchref3_Copy_int.f l = some l := by
  unfold backstitchref3_Copy_int.f
  rw [if_pos (by simp; omega)]
  rfl
theorem copy_pairs (l : List Pair) (h : l.length * 16 ≤ 140737488351232) : api_RPair.f l = some l := by
  unfold api_RPair.f
  rw [if_pos (by simp; omega)]
  rfl
section
variable (has : List (List Int)) (roots : List Int) (ps : List Pair) (n k0 v0 : Int)
/-- The loop: each that was live is live with a root more, and with a pair more. -/
theorem more_l0 (lv mo pa : List Int) (em ep : Int) (hl : lv.length ≤ 100) (hm : mo.length ≤ 1000000) (hp : pa.length ≤ 1000000) (h1 : em = 0 → ∀ x ∈ lv, x ∈ mo) (h2 : ep = 0 → ∀ x ∈ lv, x ∈ pa) (h3 : ep = 0 → k0 ∉ lv → pa = lv) :
    ∀ (d i k : Nat), lv.length - i = d → i ≤ lv.length → d + 131 + lv.length + mo.length + pa.length ≤ k → backstitchkeep3_WeakMore.l0 k lv mo em pa ep lv (lv.length : Int) (i : Int) k0 v0 = some true := by
  intro d
  induction d with
  | zero =>
    intro i k hd hi hk
    obtain ⟨k, rfl⟩ : ∃ q, k = q + 1 := ⟨k - 1, by omega⟩
    simp only [backstitchkeep3_WeakMore.l0]
    rw [if_neg (by omega), paired_f k (by omega)]
    simp only [Option.bind_some, if_true]
    by_cases he : ep = 0
    · rw [if_pos he, has_f lv k0 (by omega) k (by omega)]
      simp only [Option.bind_some]
      by_cases hk0 : k0 ∈ lv
      · rw [if_pos (by simpa using hk0)]
      · rw [if_neg (by simpa using hk0), eq_f pa lv (by omega) k (by omega), h3 he hk0]
        simp
    · rw [if_neg he]
  | succ d ih =>
    intro i k hd hi hk
    obtain ⟨k, rfl⟩ : ∃ q, k = q + 1 := ⟨k - 1, by omega⟩
    have hlt : i < lv.length := by omega
    have hmem : lv[i] ∈ lv := List.getElem_mem hlt
    have next := ih (i + 1) k (by omega) (by omega) (by omega)
    rw [show ((i + 1 : Nat) : Int) = (i : Int) + 1 from by omega, ← wrap_up (i : Int) (by omega) (by omega)] at next
    simp only [backstitchkeep3_WeakMore.l0]
    rw [if_pos (by omega), if_pos (by omega), if_pos (by omega), rdI lv i hlt]
    have second : (if ep = 0 then ((backstitchref3_Has_int.f k pa lv[i]).bind fun t192 => (if t192 = true then (backstitchkeep3_WeakMore.l0 k lv mo em pa ep lv (lv.length : Int) (wrap64 ((i : Int) + 1)) k0 v0) else (some false))) else (backstitchkeep3_WeakMore.l0 k lv mo em pa ep lv (lv.length : Int) (wrap64 ((i : Int) + 1)) k0 v0)) = some true := by
      by_cases he : ep = 0
      · rw [if_pos he, has_f pa _ (by omega) k (by omega)]
        simp only [Option.bind_some]
        rw [if_pos (by simpa using h2 he _ hmem)]
        exact next
      · rw [if_neg he]; exact next
    by_cases he : em = 0
    · rw [if_pos he, has_f mo _ (by omega) k (by omega)]
      simp only [Option.bind_some]
      rw [if_pos (by simpa using h1 he _ hmem)]
      exact second
    · rw [if_neg he]; exact second
end
theorem weakMore : WeakMoreS.WeakMore.Pure := by
  rintro ⟨has, roots⟩ ps n ⟨k0, v0⟩ ⟨hG1, hG2⟩ hG3 _ _
  refine ⟨checkK has roots + checkK has (roots ++ [n]) + 1000, ?_⟩
  generalize hK : checkK has roots + checkK has (roots ++ [n]) + 1000 = K
  show backstitchkeep3_WeakMore.f K has roots ps n k0 v0 = some true
  have hr := hG2.1
  have hp := hG3.1
  unfold backstitchkeep3_WeakMore.f
  rw [paired_f K (by omega)]
  simp only [Option.bind_some, if_true]
  rw [Live_f has roots ps K (by omega)]
  simp only [Option.bind_some]
  by_cases he : liveE has roots ps = 0
  · have b1 := Nat.le_trans (rise_length _) (liveB_length has roots ps)
    have b2 := Nat.le_trans (rise_length _) (liveB_length has (roots ++ [n]) ps)
    have b3 := Nat.le_trans (rise_length _) (liveB_length has roots (ps ++ [(⟨k0, v0⟩ : Pair)]))
    simp only [] at hr hp
    rw [if_pos he, copy_int roots hr]
    simp only [Option.bind_some, List.length_singleton]
    rw [if_pos (by omega), Live_f has (roots ++ [n]) ps K (by omega)]
    simp only [Option.bind_some]
    rw [copy_pairs ps hp]
    simp only [Option.bind_some, List.length_singleton]
    rw [if_pos (by omega), Live_f has roots (ps ++ [(⟨k0, v0⟩ : Pair)]) K (by omega)]
    simp only [Option.bind_some]
    refine more_l0 k0 v0 _ _ _ _ _ b1 (by omega) (by omega) (fun h x hx => ?_) (fun h x hx => ?_) (fun h hk => ?_) _ 0 K rfl (by omega) (by omega)
    · rw [mem_live he] at hx
      rw [mem_live h]
      exact hx.mono (fun n hn => List.mem_append_left _ hn) (fun p hp => hp)
    · rw [mem_live he] at hx
      rw [mem_live h]
      exact hx.mono (fun n hn => hn) (fun p hp => List.mem_append_left _ hp)
    · rw [mem_live he] at hk
      rw [live_same h he]
      intro x
      constructor
      · intro hx
        induction hx with
        | root h => exact .root h
        | has _ hk ih => exact .has ih hk
        | pair h _ ih =>
          rcases List.mem_append.1 h with h | h
          · exact .pair h ih
          · rw [List.mem_singleton.1 h] at ih
            exact absurd ih hk
      · intro hx
        exact hx.mono (fun n hn => hn) (fun p hp => List.mem_append_left _ hp)
  · rw [if_neg he]
end Go.Proofs.Ytoleplbmkdhgeaa.Rch
