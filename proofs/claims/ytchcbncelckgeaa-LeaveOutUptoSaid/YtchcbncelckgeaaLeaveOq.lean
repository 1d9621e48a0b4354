/- Package leave: Out told over plain lists of a size that machines have. -/
import Derived.Test.YtchcbncelckgeaaLeaveOt
import Derived.Test.YtchcbncelckgeaaLeaveMakesP
import Derived.Test.YtchcbncelckgeaaPM10
set_option linter.unusedVariables false
set_option linter.unusedSimpArgs false
namespace Go.Proofs.Ytchcbncelckgeaa.Lvo
open Go.RowKit Go.Proofs.YtchcbncelckgeaaW.PrintWords Go.Proofs.YtchcbncelckgeaaW.PrintLast Go.Proofs.YtchcbncelckgeaaW.PrintMore Go.Proofs.Ytchcbncelckgeaa.PM Go.Proofs.Ytchcbncelckgeaa.Hnd Go.Proofs.Ytchcbncelckgeaa.LeavePM

/-- Of a size that machines have. -/
def SmF (f : Fm) : Prop := f.f5.length ≤ 1048576 ∧ f.f6.length ≤ 1048576
def SmT (t : Td) : Prop := t.f0.length ≤ 1048576 ∧ ∀ f ∈ t.f0, SmF f
/-- What Frame leaves, and what it says. -/
def frF (vals : List Vl) (sets : List S34) (xa : Int) (f : Fm) : Fm × Int := if sets.all (may vals f.f5.length) = true then (⟨f.f0, xa, f.f2, f.f3, f.f4, sets.foldl (doset vals) f.f5, f.f6⟩, 0) else (z27, 3)
theorem frF_f (vals : List Vl) (sets : List S34) (makes : List S46) (xa xs : Int) (f : Fm) (hf : SmF f) (hs : sets.length ≤ 1048576) (k : Nat) (hk : sets.length + 3 ≤ k) :
    leave_Frame.f k f.f0 f.f1 f.f2 f.f3 f.f4.f0 f.f4.f1 f.f5 f.f6 xa xs sets makes vals = some ((frF vals sets xa f).1.f0, (frF vals sets xa f).1.f1, (frF vals sets xa f).1.f2, (frF vals sets xa f).1.f3, (frF vals sets xa f).1.f4.f0, (frF vals sets xa f).1.f4.f1, (frF vals sets xa f).1.f5, (frF vals sets xa f).1.f6, (frF vals sets xa f).2) := by
  rw [frame_f k _ _ _ _ _ _ f.f5 f.f6 xa xs sets makes vals (by have := hf.1; omega) (by have := hf.2; omega) (by omega) hk]
  unfold fr frF
  split <;> rfl
theorem clone_th (l : List Td) (h : l.length ≤ 1048576) : api_Thread.f l = some l := by
  unfold api_Thread.f
  simp only [Option.bind_some, List.length_nil, List.nil_append]
  rw [if_pos (by omega)]
theorem clone_sh (l : List S68) (h : l.length ≤ 1048576) : api_Shape_47.f l = some l := by
  unfold api_Shape_47.f
  simp only [Option.bind_some, List.length_nil, List.nil_append]
  rw [if_pos (by omega)]
theorem clone_tx (l : List ByteArray) (h : l.length ≤ 1048576) : slices_Clone_string_string.f l = some l := by
  unfold slices_Clone_string_string.f
  simp only [Option.bind_some, List.length_nil, List.nil_append]
  rw [if_pos (by omega)]
theorem clone_en (l : List S71) (h : l.length ≤ 1048576) : api_End_49.f l = some l := by
  unfold api_End_49.f
  simp only [Option.bind_some, List.length_nil, List.nil_append]
  rw [if_pos (by omega)]
theorem ev_all {α β : Type} {f : Nat → α → Option β} {r : α → β} : ∀ (l : List α), (∀ x ∈ l, LeavePM.Ev (fun k => f k x) (r x)) → ∃ K, ∀ k, K ≤ k → ∀ x ∈ l, f k x = some (r x)
  | [], _ => ⟨0, fun k _ x hx => by simp at hx⟩
  | x :: l, h => by
    obtain ⟨K1, h1⟩ := h x (List.mem_cons_self ..)
    obtain ⟨K2, h2⟩ := ev_all l (fun y hy => h y (List.mem_cons_of_mem _ hy))
    refine ⟨max K1 K2, fun k hk y hy => ?_⟩
    rcases List.mem_cons.1 hy with rfl | hy
    · exact h1 k (by omega)
    · exact h2 k (by omega) y hy
theorem frames_all (l : List Td) (h : ∀ t ∈ l, SmT t) : ∃ k, ∀ t ∈ l, leave_frames.f k t.f0 = some t.f0 := by
  obtain ⟨K, hK⟩ := ev_all (f := fun k (t : Td) => leave_frames.f k t.f0) (r := fun t => t.f0) l (fun t ht => frames_f t.f0 (h t ht).1 (h t ht).2)
  exact ⟨K, hK K (Nat.le_refl _)⟩
theorem V_of_C {α : Type} {d : Kd α} {e : Nat} {W : World} {base : Nat} {A : Option Addr} {c : Nat} {xs : List α} (hd : Kd.Heap d) (h : Kd.C d W A xs.length xs) (hc : xs.length ≤ c) : Kd.V d e W base (fun k => k < W.heap.size) (.slice A xs.length c) xs := Kd.V_mk hc (Kd.C_F hd h)
set_option maxRecDepth 100000 in
/-- Out of a state with such a thread. -/
theorem out_good (w : World) {AC : Option Addr} {cC : Nat} {cs : List S50} {ASh : Option Addr} {cSh : Nat} {sh : List S68} {ATx : Option Addr} {cTx : Nat} {tx : List ByteArray} {AT : Option Addr} {cT : Nat} {th : List Td} {AE : Option Addr} {cE : Nat} {en : List S71} {AS : Option Addr} {cS : Nat} {sa : List Vl} {asked steps xa xs : Int} {thread : Nat} {ASt : Option Addr} {cSt : Nat} {sets : List S34} {AM : Option Addr} {cM : Nat} {makes : List S46} {AV : Option Addr} {cV : Nat} {vals : List Vl}
    (P : Nat → Prop) (h : OutI w P (AC := AC) (cC := cC) (cs := cs) (ASh := ASh) (cSh := cSh) (sh := sh) (ATx := ATx) (cTx := cTx) (tx := tx) (AT := AT) (cT := cT) (th := th) (AE := AE) (cE := cE) (en := en) (AS := AS) (cS := cS) (sa := sa) (ASt := ASt) (cSt := cSt) (sets := sets) (AM := AM) (cM := cM) (makes := makes) (AV := AV) (cV := cV) (vals := vals))
    (hcs : cs.length ≤ 1048576) (hcm : ∀ c ∈ cs, Sm c) (hsh : sh.length ≤ 1048576) (htx : tx.length ≤ 1048576) (hth : th.length ≤ 1048576) (htm : ∀ t ∈ th, SmT t) (hen : en.length ≤ 1048576) (hsa : sa.length ≤ 1048576) (hst : sets.length ≤ 1048576) (hmk : makes.length ≤ 1048576) (hmm : ∀ m ∈ makes, m.f3.length ≤ 1048576)
    (ht : thread < th.length) (m : Nat) (hm : (th.getD thread z62).f0.length = m + 1) :
    Calls Try.prog 20 #[.agg #[.slice AC cs.length cC, .slice ASh sh.length cSh, .slice ATx tx.length cTx, .slice AT th.length cT, .slice AE en.length cE, .slice AS sa.length cS, .int .i64 asked, .int .i64 steps], .int .i64 (thread : Int), .agg #[.int .i64 xa, .int .i64 xs, .slice ASt sets.length cSt, .slice AM makes.length cM], .slice AV vals.length cV] w fun e w' =>
      ((cellsL vals makes cs).2 ≠ 0 → OutP (fun k => P k ∨ w.heap.size ≤ k) w' e [] [] [] [] [] [] 0 0 (cellsL vals makes cs).2) ∧
      ((cellsL vals makes cs).2 = 0 → (frF vals sets xa ((th.getD thread z62).f0.getD m z27)).2 ≠ 0 → OutP (fun k => P k ∨ w.heap.size ≤ k) w' e [] [] [] [] [] [] 0 0 (frF vals sets xa ((th.getD thread z62).f0.getD m z27)).2) ∧
      ((cellsL vals makes cs).2 = 0 → (frF vals sets xa ((th.getD thread z62).f0.getD m z27)).2 = 0 → OutP (fun k => P k ∨ w.heap.size ≤ k) w' e (cellsL vals makes cs).1 sh tx (newTh th thread m (frF vals sets xa ((th.getD thread z62).f0.getD m z27)).1) en sa asked (wrap64 (steps + xs)) 0) ∧ Below w.heap.size w w' := by
  obtain ⟨kc, hkc⟩ := cells_f cs xa xs sets makes vals hcs hcm hmk hmm
  have hcells := hkc kc (Nat.le_refl _)
  have hrd : rd_T62 th (thread : Int) = th.getD thread z62 := by unfold rd_T62; rw [Int.toNat_natCast]
  have hne : (rd_T62 th (thread : Int)).f0 ≠ [] := by rw [hrd]; intro e; rw [e] at hm; simp at hm
  by_cases hec : (cellsL vals makes cs).2 = 0
  · obtain ⟨kf, hkf⟩ := frames_all th htm
    have hcells' : leave_Cells.f kc cs xa xs sets makes vals = some ((cellsL vals makes cs).1, 0) := by
      show leave_Cells.f kc cs xa xs sets makes vals = _
      rw [← hec]; exact hcells
    have hgd : th.getD thread z62 = th[thread] := by rw [List.getD_eq_getElem?_getD, List.getElem?_eq_getElem ht]; rfl
    have hsf : SmF ((th.getD thread z62).f0.getD m z27) := by
      have h1 := (htm th[thread] (List.getElem_mem ht)).2
      rw [← hgd] at h1
      have h2 : m < (th.getD thread z62).f0.length := by omega
      rw [List.getD_eq_getElem?_getD, List.getElem?_eq_getElem h2]
      exact h1 _ (List.getElem_mem h2)
    refine (out_ok w _ h ht hth hne kc _ hcells' (clone_th th hth) (clone_sh sh hsh) (clone_tx tx htx) (clone_en en hen) (clone_vals sa (by omega)) kf hkf m hm _ rfl (sets.length + 3) _ _ (frF_f vals sets makes xa xs _ hsf hst _ (Nat.le_refl _))).mono ?_
    rintro e w' ⟨h1, h2, h3⟩
    exact ⟨fun h4 => absurd hec h4, fun _ => h2, fun _ => h1, h3⟩
  · refine (out_ec w _ h ht hth hne kc _ _ hcells hec).mono ?_
    rintro e w' ⟨h1, h2⟩
    exact ⟨fun _ => h1, fun h4 => absurd h4 hec, fun h4 => absurd h4 hec, h2⟩
end Go.Proofs.Ytchcbncelckgeaa.Lvo
