/- Cells that are one are said to be, and what the laws of words ask of a cell. -/
import Derived.Test.YtkefekdphkclmaaWordsCel
import Derived.Test.YtkefekdphkclmaaNbOdd
import Derived.Test.YtkefekdphkclmaaPC11
import Derived.Test.YtkefekdphkclmaaPC9
import Derived.Test.YtkefekdphkclmaaPC9
import Derived.Test.YtkefekdphkclmaaPC9
import Derived.Test.YtkefekdphkclmaaPC5
set_option linter.unusedVariables false
set_option linter.unusedSimpArgs false
namespace Go.Proofs.Ytkefekdphkclmaa.Wrt
open Go.RowKit Go.Proofs.YtkefekdphkclmaaW.PrintWords Go.Proofs.YtkefekdphkclmaaW.PrintMore Go.Proofs.Ytkefekdphkclmaa.PC Go.Proofs.Ytkefekdphkclmaa.Nb

theorem eq_vals (l : List SV) (hl : l.length ≤ 4611686018427387904) : ∀ (d i k : Nat), l.length - i = d → i ≤ l.length → d < k → api_Val_40.l0 k l l (l.length : Int) (i : Int) = some true := by
  intro d
  induction d with
  | zero =>
    intro i k hd hi hk
    obtain ⟨k, rfl⟩ : ∃ m, k = m + 1 := ⟨k - 1, by omega⟩
    simp only [api_Val_40.l0]
    rw [if_neg (by omega)]
  | succ d ih =>
    intro i k hd hi hk
    obtain ⟨k, rfl⟩ : ∃ m, k = m + 1 := ⟨k - 1, by omega⟩
    simp only [api_Val_40.l0]
    rw [if_pos (by omega), if_pos (by omega), if_pos (by omega), if_pos (by omega), if_neg (by simp), wrap_up (i : Int) (by omega) (by omega)]
    have := ih (i + 1) k (by omega) (by omega) (by omega)
    rw [show ((i + 1 : Nat) : Int) = (i : Int) + 1 from by omega] at this
    exact this
theorem eq_tries (l : List ST) (hl : l.length ≤ 4611686018427387904) : ∀ (d i k : Nat), l.length - i = d → i ≤ l.length → d < k → api_Try.l0 k l l (l.length : Int) (i : Int) = some true := by
  intro d
  induction d with
  | zero =>
    intro i k hd hi hk
    obtain ⟨k, rfl⟩ : ∃ m, k = m + 1 := ⟨k - 1, by omega⟩
    simp only [api_Try.l0]
    rw [if_neg (by omega)]
  | succ d ih =>
    intro i k hd hi hk
    obtain ⟨k, rfl⟩ : ∃ m, k = m + 1 := ⟨k - 1, by omega⟩
    simp only [api_Try.l0]
    rw [if_pos (by omega), if_pos (by omega), if_pos (by omega), if_pos (by omega), if_neg (by simp), wrap_up (i : Int) (by omega) (by omega)]
    have := ih (i + 1) k (by omega) (by omega) (by omega)
    rw [show ((i + 1 : Nat) : Int) = (i : Int) + 1 from by omega] at this
    exact this
theorem eq_words (l : List Int) (hl : l.length ≤ 4611686018427387904) : ∀ (d i k : Nat), l.length - i = d → i ≤ l.length → d < k → backstitchref3_Eq_uint64.l0 k l l (l.length : Int) (i : Int) = some true := by
  intro d
  induction d with
  | zero =>
    intro i k hd hi hk
    obtain ⟨k, rfl⟩ : ∃ m, k = m + 1 := ⟨k - 1, by omega⟩
    simp only [backstitchref3_Eq_uint64.l0]
    rw [if_neg (by omega)]
  | succ d ih =>
    intro i k hd hi hk
    obtain ⟨k, rfl⟩ : ∃ m, k = m + 1 := ⟨k - 1, by omega⟩
    simp only [backstitchref3_Eq_uint64.l0]
    rw [if_pos (by omega), if_pos (by omega), if_pos (by omega), if_pos (by omega), if_pos True.intro, wrap_up (i : Int) (by omega) (by omega)]
    have := ih (i + 1) k (by omega) (by omega) (by omega)
    rw [show ((i + 1 : Nat) : Int) = (i : Int) + 1 from by omega] at this
    exact this
theorem eq_words_f (l : List Int) (hl : l.length ≤ 4611686018427387904) (k : Nat) (hk : l.length < k) : backstitchref3_Eq_uint64.f k l l = some true := by
  unfold backstitchref3_Eq_uint64.f
  rw [if_pos rfl]
  exact eq_words l hl l.length 0 k rfl (by omega) (by omega)
theorem same_frame (k : Nat) (a0 a1 a2 a3 a4 a5 : Int) (regs : List SV) (tries : List ST) (h1 : regs.length ≤ 4611686018427387904) (h2 : tries.length ≤ 4611686018427387904) (hk : regs.length + tries.length < k) :
    backstitchkeep3_sameFrame.f k a0 a1 a2 a3 a4 a5 regs tries a0 a1 a2 a3 a4 a5 regs tries = some true := by
  unfold backstitchkeep3_sameFrame.f
  have e1 : api_Val_40.f k regs regs = some true := by
    unfold api_Val_40.f; rw [if_pos rfl]; exact eq_vals regs h1 regs.length 0 k rfl (by omega) (by omega)
  have e2 : api_Try.f k tries tries = some true := by
    unfold api_Try.f; rw [if_pos rfl]; exact eq_tries tries h2 tries.length 0 k rfl (by omega) (by omega)
  rw [e1, e2]
  simp
theorem same_l0 (a b a' b' : Int) (v v' : List SV) (l : List SF) (hl : l.length ≤ 1000000) (hs : ∀ f ∈ l, f.f5.length ≤ 60 ∧ f.f6.length ≤ 20) : ∀ (d i : Nat), l.length - i = d → i ≤ l.length → Ev (fun k => backstitchkeep3_sameCell.l0 k (l.length : Int) (i : Int) a b v l a' b' v' l) true := by
  intro d
  induction d with
  | zero =>
    intro i hd hi
    refine Ev.now fun k => ?_
    simp only [backstitchkeep3_sameCell.l0]
    rw [if_neg (by omega)]
  | succ d ih =>
    intro i hd hi
    have hlt : i < l.length := by omega
    have hm := hs l[i] (List.getElem_mem hlt)
    have := ih (i + 1) (by omega) (by omega)
    rw [show ((i + 1 : Nat) : Int) = (i : Int) + 1 from by omega] at this
    refine Ev.late 81 this fun k hk => ?_
    simp only [backstitchkeep3_sameCell.l0]
    rw [if_pos (by omega), if_pos (by omega), if_pos (by omega), if_pos (by omega), rdTF l i hlt, same_frame k _ _ _ _ _ _ _ _ (by omega) (by omega) (by omega)]
    simp only [Option.bind_some, if_true]
    rw [wrap_up (i : Int) (by omega) (by omega)]
theorem same_cell (a0 a1 : Int) (l2 : List SV) (l3 : List SF) (h2 : l2.length ≤ 1000000) (h3 : l3.length ≤ 1000000) (hs : ∀ f ∈ l3, f.f5.length ≤ 60 ∧ f.f6.length ≤ 20) : Ev (fun k => backstitchkeep3_sameCell.f k a0 a1 l2 l3 a0 a1 l2 l3) true := by
  have hv : Ev (fun k => api_Val_40.f k l2 l2) true := ⟨l2.length + 1, fun k hk => by
    show api_Val_40.f k l2 l2 = some true
    unfold api_Val_40.f; rw [if_pos rfl]; exact eq_vals l2 (by omega) l2.length 0 k rfl (by omega) (by omega)⟩
  have hj : Ev (fun k => backstitchkeep3_sameCell.j0 k false a0 a1 l2 l3 a0 a1 l2 l3) true := by
    refine (same_l0 a0 a1 a0 a1 l2 l2 l3 h3 hs l3.length 0 rfl (by omega)).step fun k => ?_
    simp only [backstitchkeep3_sameCell.j0]
    rw [if_neg (by decide)]
    rfl
  refine Ev.here hv hj fun k hb => ?_
  unfold backstitchkeep3_sameCell.f
  (try simp only at hb)
  rw [if_pos rfl, if_pos rfl, hb]
  simp
def plainB (v : SV) : Bool := !(decide (v.f0 = 3) && odd (v.f1 % 18446744073709551616))
theorem rdTV (l : List SV) (i : Nat) (h : i < l.length) : rd_T27 l (i : Int) = l[i] := by
  unfold rd_T27
  simp [List.getD_eq_getElem?_getD, h]
theorem plain_l0 (l : List SV) (hl : l.length ≤ 4611686018427387904) : ∀ (d i k : Nat), l.length - i = d → i ≤ l.length → d < k → backstitchkeep3_plain.l0 k l (l.length : Int) (i : Int) = some ((l.drop i).all plainB) := by
  intro d
  induction d with
  | zero =>
    intro i k hd hi hk
    obtain ⟨k, rfl⟩ : ∃ m, k = m + 1 := ⟨k - 1, by omega⟩
    simp only [backstitchkeep3_plain.l0]
    rw [if_neg (by omega), List.drop_eq_nil_of_le (by omega)]
    rfl
  | succ d ih =>
    intro i k hd hi hk
    obtain ⟨k, rfl⟩ : ∃ m, k = m + 1 := ⟨k - 1, by omega⟩
    have hlt : i < l.length := by omega
    have := ih (i + 1) k (by omega) (by omega) (by omega)
    rw [show ((i + 1 : Nat) : Int) = (i : Int) + 1 from by omega] at this
    simp only [backstitchkeep3_plain.l0]
    rw [if_pos (by omega), if_pos (by omega), if_pos (by omega), rdTV l i hlt, List.drop_eq_getElem_cons hlt, List.all_cons, wrap_up (i : Int) (by omega) (by omega), this]
    by_cases h3 : l[i].f0 = 3
    · rw [if_pos h3, wrap_u64, odd_ref _ (by omega) (by omega)]
      simp only [Option.bind_some]
      by_cases ho : odd (l[i].f1 % 18446744073709551616) = true
      · rw [if_pos ho]; simp [plainB, h3, ho]
      · rw [if_neg ho]; simp [plainB, h3, ho]
    · rw [if_neg h3]; simp [plainB, h3]
def cellVals (l2 : List SV) (l3 : List SF) : List SV := l2 ++ l3.flatMap (fun f => f.f4 :: f.f5)
theorem cellVals_l0 (l : List SF) (hl : l.length ≤ 30) (hs : ∀ f ∈ l, f.f5.length ≤ 60) : ∀ (d i : Nat) (out : List SV), l.length - i = d → i ≤ l.length → out.length ≤ 1000 + 61 * i → Ev (fun k => backstitchref3_CellVals.l0 k out l (l.length : Int) (i : Int)) (out ++ (l.drop i).flatMap (fun f => f.f4 :: f.f5)) := by
  intro d
  induction d with
  | zero =>
    intro i out hd hi ho
    refine Ev.now fun k => ?_
    simp only [backstitchref3_CellVals.l0]
    rw [if_neg (by omega), List.drop_eq_nil_of_le (by omega)]
    simp
  | succ d ih =>
    intro i out hd hi ho
    have hlt : i < l.length := by omega
    have hm := hs l[i] (List.getElem_mem hlt)
    have := ih (i + 1) (out ++ [l[i].f4] ++ l[i].f5) (by omega) (by omega) (by simp; omega)
    rw [show ((i + 1 : Nat) : Int) = (i : Int) + 1 from by omega] at this
    rw [List.drop_eq_getElem_cons hlt, List.flatMap_cons]
    have e : out ++ (l[i].f4 :: l[i].f5 ++ (l.drop (i + 1)).flatMap (fun f => f.f4 :: f.f5)) = out ++ [l[i].f4] ++ l[i].f5 ++ (l.drop (i + 1)).flatMap (fun f => f.f4 :: f.f5) := by simp
    rw [e]
    refine this.step fun k => ?_
    simp only [backstitchref3_CellVals.l0]
    rw [if_pos (by omega), if_pos (by omega), if_pos (by omega), rdTF l i hlt, if_pos (by omega)]
    simp only [Option.bind_some]
    rw [if_pos (by simp; omega), wrap_up (i : Int) (by omega) (by omega)]
end Go.Proofs.Ytkefekdphkclmaa.Wrt
