/- slices.Sort and slices.Compact at a row of the call's own. -/
import Derived.Test.YtnimidkeoocchaaShelf
import Derived.Test.YtnimidkeoocchaaEndsPl
import Derived.Test.YtnimidkeoocchaaFnI
import Derived.Sort.OwnSortedInts
import Derived.Lib.OwnBridge
set_option linter.unusedVariables false
set_option linter.unusedSimpArgs false
namespace Go.Proofs.Ytnimidkeoocchaa.End
open Go.RowKit Go.Proofs.YtnimidkeoocchaaW.PrintWords Go.Proofs.YtnimidkeoocchaaW.PrintLast Go.Proofs.YtnimidkeoocchaaW.PrintMore Go.Proofs.Ytnimidkeoocchaa.PE Go.Proofs.Ytnimidkeoocchaa.Rch Go.Proofs.Ytnimidkeoocchaa.Chk Go.Proofs.Ytnimidkeoocchaa.Fni Go.Sort

theorem sort_own (w : World) (B : Nat) (v : Value) (zs : List Int) (h : w.ownsRow B 3 1 v zs.length (zs.map (Value.int .i64))) (hz : zs.length ≤ 1000000) :
    Calls Try.prog 46 #[v] w fun e w' => e = .returned (.tuple #[]) ∧ w'.ownsRow B 3 1 v zs.length ((sortL zs).map (Value.int .i64)) ∧ w.grownBy w' v.ownBlock := by
  rcases h.2 with ⟨rfl, hn⟩ | ⟨g, cap, cur, rfl, hb, hg, hnc, hcm, hcs, ht⟩
  · have e0 : zs = [] := List.eq_nil_of_length_eq_zero hn
    subst e0
    refine (Try.slices_Sort_int_none none 0 w).mono ?_
    rintro e w' ⟨rfl, rfl⟩
    refine ⟨rfl, ?_, ⟨rfl, rfl, rfl, Nat.le_refl _, fun _ _ _ => rfl⟩⟩
    have e1 : sortL [] = [] := List.eq_nil_of_length_eq_zero (sort_spec []).2.1
    rw [e1]
    exact World.ownsRow_nil _ _ _ _
  · have hH := holds_of_blockI (ss := zs) hg (by simpa using ht)
    refine (Try.slices_Sort_int g 0 cap zs w hH (Array.getElem?_eq_some_iff.1 hg).1 (by omega)).mono ?_
    rintro e w' ⟨rfl, n, os, rfl⟩
    exact ⟨rfl, ownsRow_sortedI (ts := sortL zs) (sort_spec zs).2.1 hb hg hnc hcm hcs, grownBy_sortedI _⟩
theorem compact_own (w : World) (B : Nat) (v : Value) (zs : List Int) (h : w.ownsRow B 3 1 v zs.length (zs.map (Value.int .i64))) (hz : zs.length ≤ 1000000) :
    Calls Try.prog 76 #[v] w fun e w' => ∃ A c, e = .returned (.slice A (Lib.compact zs).length c) ∧ w'.ownsRow B 3 1 (.slice A (Lib.compact zs).length c) (Lib.compact zs).length ((Lib.compact zs).map (Value.int .i64)) ∧ (Value.slice A (Lib.compact zs).length c).ownBlock = v.ownBlock ∧ w.grownBy w' v.ownBlock := by
  have hcl : (Lib.compact zs).length ≤ zs.length := compact_len zs zs.length
  rcases h.2 with ⟨rfl, hn⟩ | ⟨g, cap, cur, rfl, hb, hg, hnc, hcm, hcs, ht⟩
  · have e0 : zs = [] := List.eq_nil_of_length_eq_zero hn
    subst e0
    refine (Try.slices_Compact_int_empty none 0 w).mono ?_
    rintro e w' ⟨rfl, rfl⟩
    have e1 : Lib.compact ([] : List Int) = [] := List.eq_nil_of_length_eq_zero (by simpa using hcl)
    rw [e1]
    exact ⟨none, 0, rfl, World.ownsRow_nil _ _ _ _, rfl, ⟨rfl, rfl, rfl, Nat.le_refl _, fun _ _ _ => rfl⟩⟩
  · have hH := holds_of_blockI (ss := zs) hg (by simpa using ht)
    refine (Try.slices_Compact_int g 0 cap zs w hH (by omega) hnc).mono ?_
    rintro e w' ⟨rfl, q, rfl⟩
    refine ⟨_, _, rfl, ?_, rfl, ⟨rfl, rfl, rfl, by simp [putRow, mapBlock, Sort.ahead], fun k hk hne => ?_⟩⟩
    · have h_ := Go.Lib.ownsRow_putRow (q := q) (k := (Lib.compact zs).length) (ys := Lib.compact zs ++ List.replicate (zs.length - (Lib.compact zs).length) 0) h (by simp; omega) hcl
      rwa [List.take_left'] at h_
      rfl
    · have : g ≠ k := fun e => hne (by rw [e]; rfl)
      simp [putRow, mapBlock, Sort.ahead, Array.getElem?_modify, this]
end Go.Proofs.Ytnimidkeoocchaa.End
