/- The words of a cell, in plain lists. -/
import Derived.Test.YtkefekdphkclmaaWordsOf
set_option linter.unusedVariables false
set_option linter.unusedSimpArgs false
namespace Go.Proofs.Ytkefekdphkclmaa.Wrt
open Go.RowKit Go.Proofs.YtkefekdphkclmaaW.PrintWords Go.Proofs.YtkefekdphkclmaaW.PrintMore Go.Proofs.Ytkefekdphkclmaa.PC Go.Proofs.Ytkefekdphkclmaa.Nb

def encV (v : SV) : Int := (bx v.f0 v.f1).1
def okV (v : SV) : Prop := (bx v.f0 v.f1).2 = 0
def encVs (l : List SV) : List Int := u64 (l.length : Int) :: l.map encV
def encT (t : ST) : List Int := [u64 t.f0, u64 t.f1]
def encF (f : SF) : List Int := u64 f.f0 :: u64 f.f1 :: u64 f.f2 :: u64 f.f3 :: encV f.f4 :: (encVs f.f5 ++ (u64 (f.f6.length : Int) :: f.f6.flatMap encT))
def encC (a0 a1 : Int) (l2 : List SV) (l3 : List SF) : List Int := u64 a0 :: u64 a1 :: (encVs l2 ++ (u64 (l3.length : Int) :: l3.flatMap encF))
def okF (f : SF) : Prop := okV f.f4 ∧ ∀ v ∈ f.f5, okV v
theorem fold_wv_1 : ∀ (l : List SV) (s : List Int × Int), (l.foldl wv s).1 = s.1 ++ l.map encV
  | [], s => by simp
  | v :: l, s => by rw [List.foldl_cons, fold_wv_1 l]; simp [wv, encV]
theorem wv_2 (s : List Int × Int) (v : SV) : (wv s v).2 = 0 ↔ s.2 = 0 ∧ okV v := by
  unfold wv okV
  by_cases h : s.2 = 0 <;> simp [h]
theorem fold_wv_2 : ∀ (l : List SV) (s : List Int × Int), (l.foldl wv s).2 = 0 ↔ s.2 = 0 ∧ ∀ v ∈ l, okV v
  | [], s => by simp
  | v :: l, s => by rw [List.foldl_cons, fold_wv_2 l, wv_2]; simp [and_assoc]
theorem wvs_1 (s : List Int × Int) (l : List SV) : (wvs s l).1 = s.1 ++ encVs l := by unfold wvs encVs; rw [fold_wv_1]; simp [wn]
theorem wvs_2 (s : List Int × Int) (l : List SV) : (wvs s l).2 = 0 ↔ s.2 = 0 ∧ ∀ v ∈ l, okV v := by unfold wvs; rw [fold_wv_2]; simp [wn]
theorem fold_wt_1 : ∀ (l : List ST) (s : List Int × Int), (l.foldl wt s).1 = s.1 ++ l.flatMap encT
  | [], s => by simp
  | t :: l, s => by rw [List.foldl_cons, fold_wt_1 l]; simp [wt, wn, encT]
theorem fold_wt_2 : ∀ (l : List ST) (s : List Int × Int), (l.foldl wt s).2 = s.2
  | [], s => rfl
  | t :: l, s => by rw [List.foldl_cons, fold_wt_2 l]; rfl
theorem wf_1 (s : List Int × Int) (f : SF) : (wf s f).1 = s.1 ++ encF f := by
  unfold wf wf0
  rw [fold_wt_1]
  simp only [wn]
  rw [wvs_1]
  simp [wv, wn, encF, encV]
theorem wf_2 (s : List Int × Int) (f : SF) : (wf s f).2 = 0 ↔ s.2 = 0 ∧ okF f := by
  unfold wf wf0 okF
  rw [fold_wt_2]
  show (wvs _ _).2 = 0 ↔ _
  rw [wvs_2, wv_2]
  simp [wn, and_assoc]
theorem fold_wf_1 : ∀ (l : List SF) (s : List Int × Int), (l.foldl wf s).1 = s.1 ++ l.flatMap encF
  | [], s => by simp
  | f :: l, s => by rw [List.foldl_cons, fold_wf_1 l, wf_1]; simp
theorem fold_wf_2 : ∀ (l : List SF) (s : List Int × Int), (l.foldl wf s).2 = 0 ↔ s.2 = 0 ∧ ∀ f ∈ l, okF f
  | [], s => by simp
  | f :: l, s => by rw [List.foldl_cons, fold_wf_2 l, wf_2]; simp [and_assoc]
theorem wc_1 (a0 a1 : Int) (l2 : List SV) (l3 : List SF) : (wc ([], 0) a0 a1 l2 l3).1 = encC a0 a1 l2 l3 := by
  unfold wc wc0
  rw [fold_wf_1]
  simp only [wn]
  rw [wvs_1]
  simp [encC]
theorem wc_2 (a0 a1 : Int) (l2 : List SV) (l3 : List SF) : (wc ([], 0) a0 a1 l2 l3).2 = 0 ↔ (∀ v ∈ l2, okV v) ∧ ∀ f ∈ l3, okF f := by
  unfold wc wc0
  rw [fold_wf_2]
  have : (wn (wvs (wn ([], 0) [a0, a1]) l2) [(l3.length : Int)]).2 = (wvs (wn ([], 0) [a0, a1]) l2).2 := rfl
  rw [this, wvs_2]
  simp [wn]
/-- Of answers words: what that says. -/
theorem ofL_ok {a0 a1 : Int} {l2 : List SV} {l3 : List SF} (h : (ofL a0 a1 l2 l3).2 = 0) : largeL a0 l2 l3 = false ∧ (∀ v ∈ l2, okV v) ∧ (∀ f ∈ l3, okF f) ∧ (ofL a0 a1 l2 l3).1 = encC a0 a1 l2 l3 := by
  unfold ofL at h ⊢
  by_cases h1 : largeL a0 l2 l3 = true
  · rw [if_pos h1] at h; simp at h
  · rw [if_neg h1] at h ⊢
    by_cases h2 : (wc ([], 0) a0 a1 l2 l3).2 = 0
    · rw [if_pos h2]
      obtain ⟨h3, h4⟩ := (wc_2 a0 a1 l2 l3).1 h2
      exact ⟨by simpa using h1, h3, h4, wc_1 a0 a1 l2 l3⟩
    · rw [if_neg h2] at h; exact absurd h h2
theorem ofL_is {a0 a1 : Int} {l2 : List SV} {l3 : List SF} (h1 : largeL a0 l2 l3 = false) (h2 : ∀ v ∈ l2, okV v) (h3 : ∀ f ∈ l3, okF f) : ofL a0 a1 l2 l3 = (encC a0 a1 l2 l3, 0) := by
  unfold ofL
  rw [h1, if_neg (by decide), if_pos ((wc_2 a0 a1 l2 l3).2 ⟨h2, h3⟩), wc_1]
end Go.Proofs.Ytkefekdphkclmaa.Wrt
