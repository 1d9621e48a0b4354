/- The law LeaveMakes over the printed functions: plain lists, no program. -/
import Derived.Test.YtchcbncelckgeaaLeavePureM
import Derived.Test.YtchcbncelckgeaaOpenB
import Derived.Test.YtchcbncelckgeaaPM8
import Derived.Test.YtchcbncelckgeaaPM9
set_option linter.unusedVariables false
set_option linter.unusedSimpArgs false
namespace Go.Proofs.Ytchcbncelckgeaa.LeavePM
open Go.RowKit Go.Proofs.YtchcbncelckgeaaW.PrintWords Go.Proofs.YtchcbncelckgeaaW.PrintMore Go.Proofs.Ytchcbncelckgeaa.OpnB Go.Proofs.Ytchcbncelckgeaa.PM

/-- From some number of rounds on that is the answer. -/
def Ev {α : Type} (f : Nat → Option α) (r : α) : Prop := ∃ K, ∀ k, K ≤ k → f k = some r
theorem Ev.now {α : Type} {f : Nat → Option α} {r : α} (h : ∀ k, f (k + 1) = some r) : Ev f r :=
  ⟨1, fun k hk => by obtain ⟨m, rfl⟩ : ∃ m, k = m + 1 := ⟨k - 1, by omega⟩; exact h m⟩
theorem Ev.step {α : Type} {f g : Nat → Option α} {r : α} (h : Ev g r) (e : ∀ k, f (k + 1) = g k) : Ev f r := by
  obtain ⟨K, hK⟩ := h
  exact ⟨K + 1, fun k hk => by obtain ⟨m, rfl⟩ : ∃ m, k = m + 1 := ⟨k - 1, by omega⟩; rw [e]; exact hK m (by omega)⟩
theorem Ev.step2 {α β : Type} {f g : Nat → Option α} {b : Nat → Option β} {r : α} {s : β} (hb : Ev b s) (h : Ev g r) (e : ∀ k, b k = some s → f (k + 1) = g k) : Ev f r := by
  obtain ⟨K, hK⟩ := h
  obtain ⟨L, hL⟩ := hb
  exact ⟨max K L + 1, fun k hk => by obtain ⟨m, rfl⟩ : ∃ m, k = m + 1 := ⟨k - 1, by omega⟩; rw [e m (hL m (by omega))]; exact hK m (by omega)⟩
theorem Ev.here {α β : Type} {f g : Nat → Option α} {b : Nat → Option β} {r : α} {s : β} (hb : Ev b s) (h : Ev g r) (e : ∀ k, b k = some s → f k = g k) : Ev f r := by
  obtain ⟨K, hK⟩ := h
  obtain ⟨L, hL⟩ := hb
  exact ⟨max K L, fun k hk => by rw [e k (hL k (by omega))]; exact hK k (by omega)⟩

def inV (vals : List S23) (n : Int) : Bool := decide (0 ≤ n) && decide (n < vals.length)
def toldL (vals : List S23) (l : List Int) : List S23 × Bool := if l.all (inV vals) = true then (l.map (rd_T23 vals), true) else ([], false)
theorem rd_nat (l : List Int) (i : Nat) (h : i < l.length) : rd l (i : Int) = l[i] := by
  unfold rd
  simp [List.getD_eq_getElem?_getD, h]
theorem rdT46 (l : List S46) (i : Nat) (h : i < l.length) : rd_T46 l (i : Int) = l[i] := by
  unfold rd_T46
  simp [List.getD_eq_getElem?_getD, h]
theorem rdT27 (l : List S27) (i : Nat) (h : i < l.length) : rd_T27 l (i : Int) = l[i] := by
  unfold rd_T27
  simp [List.getD_eq_getElem?_getD, h]
theorem rdT50 (l : List S50) (i : Nat) (h : i < l.length) : rd_T50 l (i : Int) = l[i] := by
  unfold rd_T50
  simp [List.getD_eq_getElem?_getD, h]
theorem told_l0 (vals : List S23) (l : List Int) (hl : l.length ≤ 1048576) : ∀ (d i : Nat) (out : List S23), l.length - i = d → i ≤ l.length → out.length ≤ i →
    Ev (fun k => leave_told.l0 k vals out l (l.length : Int) (i : Int)) (if (l.drop i).all (inV vals) = true then (out ++ (l.drop i).map (rd_T23 vals), true) else ([], false)) := by
  intro d
  induction d with
  | zero =>
    intro i out hd hi ho
    refine Ev.now fun k => ?_
    simp only [leave_told.l0]
    rw [if_neg (by omega), List.drop_eq_nil_of_le (by omega)]
    simp
  | succ d ih =>
    intro i out hd hi ho
    have hlt : i < l.length := by omega
    rw [List.drop_eq_getElem_cons hlt, List.all_cons]
    by_cases h1 : l[i] < 0
    · refine Ev.now fun k => ?_
      simp only [leave_told.l0]
      rw [if_pos (by omega), if_pos (by omega), if_pos (by omega), rd_nat l i hlt, if_pos h1, if_neg (by simp [inV]; omega)]
    · by_cases h2 : l[i] ≥ (vals.length : Int)
      · refine Ev.now fun k => ?_
        simp only [leave_told.l0]
        rw [if_pos (by omega), if_pos (by omega), if_pos (by omega), rd_nat l i hlt, if_neg h1, if_pos h2, if_neg (by simp [inV]; omega)]
      · have := ih (i + 1) (out ++ [rd_T23 vals l[i]]) (by omega) (by omega) (by simp; omega)
        have hin : inV vals l[i] = true := by simp [inV]; omega
        rw [hin, Bool.true_and, List.map_cons]
        rw [List.append_assoc, List.singleton_append] at this
        refine this.step fun k => ?_
        simp only [leave_told.l0]
        rw [if_pos (by omega), if_pos (by omega), if_pos (by omega), rd_nat l i hlt, if_neg h1, if_neg h2, if_pos (by omega), if_pos (by omega), if_pos (by omega), wrap_up (i : Int) (by omega) (by omega)]
        rfl
theorem told_f (vals : List S23) (l : List Int) (hl : l.length ≤ 1048576) : Ev (fun k => leave_told.f k l vals) (toldL vals l) := by
  have := told_l0 vals l hl l.length 0 [] rfl (by omega) (by simp)
  simpa [leave_told.f, toldL] using this

theorem frames_l0 (l : List S27) (hl : l.length ≤ 1048576) (hs : ∀ f ∈ l, f.f5.length ≤ 1048576 ∧ f.f6.length ≤ 1048576) : ∀ (d i : Nat), l.length - i = d → i ≤ l.length → Ev (fun k => leave_frames.l0 k l l (l.length : Int) (i : Int)) l := by
  intro d
  induction d with
  | zero =>
    intro i hd hi
    refine Ev.now fun k => ?_
    simp only [leave_frames.l0]
    rw [if_neg (by omega)]
  | succ d ih =>
    intro i hd hi
    have hlt : i < l.length := by omega
    have hm := hs l[i] (List.getElem_mem hlt)
    refine (ih (i + 1) (by omega) (by omega)).step fun k => ?_
    simp only [leave_frames.l0]
    rw [if_pos (by omega), if_pos (by omega), if_pos (by omega), rdT27 l i hlt, clone_vals _ (by omega), clone_tries _ (by omega)]
    simp only [Option.bind_some]
    rw [if_pos (by omega), wrap_up (i : Int) (by omega) (by omega)]
    have e1 : l.set ((i : Int)).toNat (⟨l[i].f0, l[i].f1, l[i].f2, l[i].f3, ⟨l[i].f4.f0, l[i].f4.f1⟩, l[i].f5, l[i].f6⟩ : S27) = l := by
      show l.set i l[i] = l
      exact List.set_getElem_self hlt
    rw [e1, rdT27 l i hlt, e1]
    rfl
theorem frames_f (l : List S27) (hl : l.length ≤ 1048576) (hs : ∀ f ∈ l, f.f5.length ≤ 1048576 ∧ f.f6.length ≤ 1048576) : Ev (fun k => leave_frames.f k l) l := by
  obtain ⟨K, hK⟩ := frames_l0 l hl hs l.length 0 rfl (by omega)
  refine ⟨K, fun k hk => ?_⟩
  show leave_frames.f k l = some l
  unfold leave_frames.f api_Frame.f
  simp only [Option.bind_some, List.length_nil, List.nil_append]
  rw [if_pos (by omega)]
  exact hK k hk
/-- A cell of a size that machines have. -/
def Sm (c : S50) : Prop := c.f2.length ≤ 1048576 ∧ c.f3.length ≤ 1048576 ∧ ∀ f ∈ c.f3, f.f5.length ≤ 1048576 ∧ f.f6.length ≤ 1048576
theorem own_l0 (l : List S50) (hl : l.length ≤ 1048576) (hs : ∀ c ∈ l, Sm c) : ∀ (d i : Nat), l.length - i = d → i ≤ l.length → Ev (fun k => leave_own.l0 k l l (l.length : Int) (i : Int)) l := by
  intro d
  induction d with
  | zero =>
    intro i hd hi
    refine Ev.now fun k => ?_
    simp only [leave_own.l0]
    rw [if_neg (by omega)]
  | succ d ih =>
    intro i hd hi
    have hlt : i < l.length := by omega
    obtain ⟨h1, h2, h3⟩ := hs l[i] (List.getElem_mem hlt)
    refine Ev.step2 (frames_f l[i].f3 h2 h3) (ih (i + 1) (by omega) (by omega)) fun k hb => ?_
    simp only [leave_own.l0]
    rw [if_pos (by omega), if_pos (by omega), if_pos (by omega), rdT50 l i hlt, clone_vals _ (by omega), hb]
    simp only [Option.bind_some]
    rw [if_pos (by omega), wrap_up (i : Int) (by omega) (by omega)]
    have e1 : l.set ((i : Int)).toNat (⟨l[i].f0, l[i].f1, l[i].f2, l[i].f3⟩ : S50) = l := by
      show l.set i l[i] = l
      exact List.set_getElem_self hlt
    rw [e1, rdT50 l i hlt, e1]
    rfl
theorem own_f (l : List S50) (hl : l.length ≤ 1048576) (hs : ∀ c ∈ l, Sm c) : Ev (fun k => leave_own.f k l) l := by
  obtain ⟨K, hK⟩ := own_l0 l hl hs l.length 0 rfl (by omega)
  refine ⟨K, fun k hk => ?_⟩
  show leave_own.f k l = some l
  unfold leave_own.f api_Cell.f
  simp only [Option.bind_some, List.length_nil, List.nil_append]
  rw [if_pos (by omega)]
  exact hK k hk

/-- May what is made be told? -/
def okM (vals : List S23) (m : S46) : Bool := inV vals m.f0 && m.f3.all (inV vals)
def tgt (vals : List S23) (m : S46) : Int := (rd_T23 vals m.f0).f1
def free (vals : List S23) (out : List S50) (m : S46) : Bool := decide ((rd_T23 vals m.f0).f0 = 5) && decide (0 ≤ tgt vals m) && decide (tgt vals m < out.length) && decide ((rd_T50 out (tgt vals m)).f0 = 0)
theorem free_iff (vals : List S23) (out : List S50) (m : S46) : free vals out m = true ↔ ((((rd_T23 vals m.f0).f0 = 5 ∧ 0 ≤ tgt vals m) ∧ tgt vals m < out.length) ∧ (rd_T50 out (tgt vals m)).f0 = 0) := by
  simp only [free, Bool.and_eq_true, decide_eq_true_eq]
def made (vals : List S23) (m : S46) : S50 := ⟨m.f1, m.f2, m.f3.map (rd_T23 vals), []⟩
def cellsL (vals : List S23) : List S46 → List S50 → List S50 × Int
  | [], out => (out, 0)
  | m :: ms, out => if okM vals m = true then (if free vals out m = true then cellsL vals ms (out.set (tgt vals m).toNat (made vals m)) else ([], 8)) else ([], 3)
theorem cells_l0 (vals : List S23) (l : List S46) (hl : l.length ≤ 1048576) (hs : ∀ m ∈ l, m.f3.length ≤ 1048576) : ∀ (d i : Nat) (out : List S50), l.length - i = d → i ≤ l.length →
    Ev (fun k => leave_Cells.l0 k vals out l (l.length : Int) (i : Int)) (cellsL vals (l.drop i) out) := by
  intro d
  induction d with
  | zero =>
    intro i out hd hi
    refine Ev.now fun k => ?_
    simp only [leave_Cells.l0]
    rw [if_neg (by omega), List.drop_eq_nil_of_le (by omega)]
    rfl
  | succ d ih =>
    intro i out hd hi
    have hlt : i < l.length := by omega
    have hm := hs l[i] (List.getElem_mem hlt)
    have h1 := told_f vals [l[i].f0] (by simp)
    have h2 := told_f vals l[i].f3 hm
    obtain ⟨K1, h1⟩ := h1
    obtain ⟨K2, h2⟩ := h2
    obtain ⟨K3, h3⟩ := ih (i + 1) (out.set (tgt vals l[i]).toNat (made vals l[i])) (by omega) (by omega)
    refine ⟨max K1 (max K2 K3) + 2, fun k hk => ?_⟩
    obtain ⟨k, rfl⟩ : ∃ m, k = m + 2 := ⟨k - 2, by omega⟩
    have h1 := h1 (k + 1) (by omega)
    have h2 := h2 (k + 1) (by omega)
    have h3 := h3 k (by omega)
    show leave_Cells.l0 (k + 1 + 1) vals out l (l.length : Int) (i : Int) = _
    rw [List.drop_eq_getElem_cons hlt]
    simp only [leave_Cells.l0]
    rw [if_pos (by omega), if_pos (by omega), if_pos (by omega), rdT46 l i hlt]
    simp only at h1 h2 h3
    rw [h1, h2]
    simp only [Option.bind_some]
    unfold cellsL okM toldL
    simp only [List.all_cons, List.all_nil, Bool.and_true, List.map_cons, List.map_nil]
    by_cases g1 : inV vals l[i].f0 = true
    · rw [if_pos g1, if_pos rfl]
      by_cases g2 : l[i].f3.all (inV vals) = true
      · rw [if_pos g2, g1, g2]
        simp only [leave_Cells.j1, Bool.not_true, Bool.and_true, if_true]
        rw [if_neg (by simp), if_pos (by simp)]
        have e0 : rd_T23 [rd_T23 vals l[i].f0] 0 = rd_T23 vals l[i].f0 := rfl
        rw [e0]
        by_cases c1 : (rd_T23 vals l[i].f0).f0 = 5
        · rw [if_pos c1]
          by_cases c2 : (rd_T23 vals l[i].f0).f1 < 0
          · rw [if_pos c2, if_neg (fun hx => by obtain ⟨⟨⟨q1, q2⟩, q3⟩, q4⟩ := (free_iff _ _ _).1 hx; unfold tgt at q2 q3 q4; first | contradiction | omega)]
          · rw [if_neg c2]
            by_cases c3 : (rd_T23 vals l[i].f0).f1 ≥ (out.length : Int)
            · rw [if_pos c3, if_neg (fun hx => by obtain ⟨⟨⟨q1, q2⟩, q3⟩, q4⟩ := (free_iff _ _ _).1 hx; unfold tgt at q2 q3 q4; first | contradiction | omega)]
            · rw [if_neg c3, if_pos (by omega), if_pos (by omega)]
              by_cases c4 : (rd_T50 out (rd_T23 vals l[i].f0).f1).f0 = 0
              · rw [if_pos c4, if_pos ((free_iff _ _ _).2 ⟨⟨⟨c1, by unfold tgt; omega⟩, by unfold tgt; omega⟩, c4⟩), wrap_up (i : Int) (by omega) (by omega)]
                exact h3
              · rw [if_neg c4, if_neg (fun hx => by obtain ⟨⟨⟨q1, q2⟩, q3⟩, q4⟩ := (free_iff _ _ _).1 hx; unfold tgt at q2 q3 q4; first | contradiction | omega)]
        · rw [if_neg c1, if_neg (fun hx => by obtain ⟨⟨⟨q1, q2⟩, q3⟩, q4⟩ := (free_iff _ _ _).1 hx; unfold tgt at q2 q3 q4; first | contradiction | omega)]
      · rw [if_neg g2, if_neg (by simp [g2])]
        simp [leave_Cells.j1]
    · have g1' : inV vals l[i].f0 = false := by simpa using g1
      simp [g1', leave_Cells.j1]
theorem cells_f (l : List S50) (a b : Int) (ss : List S34) (ms : List S46) (vals : List S23) (hl : l.length ≤ 1048576) (hs : ∀ c ∈ l, Sm c) (hm : ms.length ≤ 1048576) (hms : ∀ m ∈ ms, m.f3.length ≤ 1048576) :
    Ev (fun k => leave_Cells.f k l a b ss ms vals) (cellsL vals ms l) := by
  refine Ev.here (own_f l hl hs) (cells_l0 vals ms hm hms ms.length 0 l rfl (by omega)) fun k hb => ?_
  unfold leave_Cells.f
  (try simp only at hb)
  rw [hb]
  rfl

/-- Lists that are one are said to be: cells. -/
theorem same_l0 (c : S50) (h : Sm c) (a b a' b' : Int) (v v' : List S23) : ∀ (d i : Nat), c.f3.length - i = d → i ≤ c.f3.length → Ev (fun k => backstitchkeep3_sameCell.l0 k (c.f3.length : Int) (i : Int) a b v c.f3 a' b' v' c.f3) true := by
  obtain ⟨h1, h2, h3⟩ := h
  intro d
  induction d with
  | zero =>
    intro i hd hi
    refine Ev.now fun k => ?_
    simp only [backstitchkeep3_sameCell.l0]
    rw [if_neg (by omega)]
  | succ d ih =>
    intro i hd hi
    have hlt : i < c.f3.length := by omega
    have hm := h3 c.f3[i] (List.getElem_mem hlt)
    have hf : Ev (fun k => backstitchkeep3_sameFrame.f k c.f3[i].f0 c.f3[i].f1 c.f3[i].f2 c.f3[i].f3 c.f3[i].f4.f0 c.f3[i].f4.f1 c.f3[i].f5 c.f3[i].f6 c.f3[i].f0 c.f3[i].f1 c.f3[i].f2 c.f3[i].f3 c.f3[i].f4.f0 c.f3[i].f4.f1 c.f3[i].f5 c.f3[i].f6) true :=
      ⟨c.f3[i].f5.length + c.f3[i].f6.length + 1, fun k hk => same_frame k _ _ _ _ _ _ _ _ (by omega) (by omega) (by omega)⟩
    refine Ev.step2 hf (ih (i + 1) (by omega) (by omega)) fun k hb => ?_
    simp only [backstitchkeep3_sameCell.l0]
    (try simp only at hb)
    rw [if_pos (by omega), if_pos (by omega), if_pos (by omega), if_pos (by omega), rdT27 c.f3 i hlt, hb]
    simp only [Option.bind_some, if_true]
    rw [wrap_up (i : Int) (by omega) (by omega)]
    rfl
theorem same_cell (c : S50) (h : Sm c) : Ev (fun k => backstitchkeep3_sameCell.f k c.f0 c.f1 c.f2 c.f3 c.f0 c.f1 c.f2 c.f3) true := by
  have hv : Ev (fun k => api_Val_22.f k c.f2 c.f2) true := ⟨c.f2.length + 1, fun k hk => by
    show api_Val_22.f k c.f2 c.f2 = some true
    unfold api_Val_22.f; rw [if_pos rfl]; exact eq_vals c.f2 (by have := h.1; omega) c.f2.length 0 k rfl (by omega) (by omega)⟩
  have hj : Ev (fun k => backstitchkeep3_sameCell.j0 k false c.f0 c.f1 c.f2 c.f3 c.f0 c.f1 c.f2 c.f3) true := by
    refine (same_l0 c h c.f0 c.f1 c.f0 c.f1 c.f2 c.f2 c.f3.length 0 rfl (by omega)).step fun k => ?_
    simp only [backstitchkeep3_sameCell.j0]
    rw [if_neg (by decide)]
    rfl
  refine Ev.here hv hj fun k hb => ?_
  unfold backstitchkeep3_sameCell.f
  (try simp only at hb)
  rw [if_pos rfl, if_pos rfl, hb]
  simp

/-! ### The law itself, of lists -/
theorem cells_err (vals : List S23) : ∀ (ms : List S46) (out : List S50), (cellsL vals ms out).2 ≠ 0 → (cellsL vals ms out).1 = []
  | [], out, h => by simp [cellsL] at h
  | m :: ms, out, h => by
    unfold cellsL at h ⊢
    split
    · rename_i h1
      rw [if_pos h1] at h
      split
      · rename_i h2
        rw [if_pos h2] at h
        exact cells_err vals ms _ h
      · rfl
    · rfl
theorem cells_ok (vals : List S23) : ∀ (ms : List S46) (out : List S50), (cellsL vals ms out).2 = 0 →
    (cellsL vals ms out).1.length = out.length ∧ (∀ m ∈ ms, okM vals m = true ∧ 0 ≤ tgt vals m ∧ tgt vals m < out.length) ∧
    (∀ i : Nat, (∀ m ∈ ms, (tgt vals m).toNat ≠ i) → (cellsL vals ms out).1[i]? = out[i]?) ∧
    (∀ i : Nat, (rd_T50 out (i : Int)).f0 ≠ 0 → (cellsL vals ms out).1[i]? = out[i]?) ∧
    (∀ m ∈ ms, m.f1 ≠ 0 → (rd_T50 (cellsL vals ms out).1 (tgt vals m)).f0 ≠ 0)
  | [], out, h => by simp [cellsL]
  | m :: ms, out, h => by
    unfold cellsL at h ⊢
    by_cases h1 : okM vals m = true
    · rw [if_pos h1] at h ⊢
      by_cases h2 : free vals out m = true
      · rw [if_pos h2] at h ⊢
        obtain ⟨i1, i2, i3, i4, i5⟩ := cells_ok vals ms (out.set (tgt vals m).toNat (made vals m)) h
        rw [List.length_set] at i1 i2
        rw [free_iff] at h2
        obtain ⟨⟨⟨q1, q2⟩, q3⟩, q4⟩ := h2
        have hlt : (tgt vals m).toNat < out.length := by omega
        refine ⟨i1, ?_, ?_, ?_, ?_⟩
        · intro m' hm'
          rcases List.mem_cons.1 hm' with rfl | hm'
          · exact ⟨h1, q2, q3⟩
          · exact i2 m' hm'
        · intro i hi
          rw [i3 i (fun m' hm' => hi m' (List.mem_cons_of_mem _ hm'))]
          exact List.getElem?_set_ne (hi m List.mem_cons_self)
        · intro i hi
          have hne : (tgt vals m).toNat ≠ i := by
            intro he
            apply hi
            rw [← he]
            have e2 : (((tgt vals m).toNat : Nat) : Int) = tgt vals m := by omega
            rw [e2]
            exact q4
          have hs : (rd_T50 (out.set (tgt vals m).toNat (made vals m)) (i : Int)).f0 ≠ 0 := by
            unfold rd_T50 at hi ⊢
            rw [Int.toNat_natCast, List.getD_eq_getElem?_getD, List.getElem?_set_ne hne]
            rwa [Int.toNat_natCast, List.getD_eq_getElem?_getD] at hi
          rw [i4 i hs]
          exact List.getElem?_set_ne hne
        · intro m' hm' hk
          rcases List.mem_cons.1 hm' with rfl | hm'
          · have hs : (rd_T50 (out.set (tgt vals m').toNat (made vals m')) (((tgt vals m').toNat : Nat) : Int)).f0 ≠ 0 := by
              unfold rd_T50
              rw [Int.toNat_natCast, List.getD_eq_getElem?_getD, List.getElem?_set_self hlt]
              exact hk
            have := i4 _ hs
            unfold rd_T50
            rw [List.getD_eq_getElem?_getD, this, List.getElem?_set_self hlt]
            exact hk
          · exact i5 m' hm' hk
      · rw [if_neg h2] at h
        simp at h
    · rw [if_neg h1] at h
      simp at h
theorem cells_again (vals : List S23) : ∀ (ms : List S46) (out : List S50), (∀ m ∈ ms, okM vals m = true) → (∃ m ∈ ms, (rd_T50 out (tgt vals m)).f0 ≠ 0) → (cellsL vals ms out).2 = 8
  | [], out, _, h => by obtain ⟨m, hm, _⟩ := h; simp at hm
  | m :: ms, out, ho, h => by
    unfold cellsL
    rw [if_pos (ho m List.mem_cons_self)]
    by_cases h2 : free vals out m = true
    · rw [if_pos h2]
      refine cells_again vals ms _ (fun m' hm' => ho m' (List.mem_cons_of_mem _ hm')) ?_
      rw [free_iff] at h2
      obtain ⟨⟨⟨q1, q2⟩, q3⟩, q4⟩ := h2
      obtain ⟨m', hm', hk⟩ := h
      rcases List.mem_cons.1 hm' with rfl | hm'
      · exact absurd q4 hk
      · refine ⟨m', hm', ?_⟩
        have hne : (tgt vals m).toNat ≠ (tgt vals m').toNat := by
          intro he
          apply hk
          unfold rd_T50 at q4 ⊢
          rw [← he]
          exact q4
        unfold rd_T50 at hk ⊢
        rw [List.getD_eq_getElem?_getD, List.getElem?_set_ne hne]
        rwa [List.getD_eq_getElem?_getD] at hk
    · rw [if_neg h2]
theorem cells_sm (vals : List S23) : ∀ (ms : List S46) (out : List S50), (∀ m ∈ ms, m.f3.length ≤ 1048576) → (∀ c ∈ out, Sm c) → ∀ c ∈ (cellsL vals ms out).1, Sm c
  | [], out, _, h => h
  | m :: ms, out, hm, h => by
    unfold cellsL
    split
    · split
      · refine cells_sm vals ms _ (fun m' hm' => hm m' (List.mem_cons_of_mem _ hm')) fun c hc => ?_
        rcases List.mem_or_eq_of_mem_set hc with hc | rfl
        · exact h c hc
        · exact ⟨by simpa [made] using hm m List.mem_cons_self, by simp [made], fun f hf => by simp [made] at hf⟩
      · intro c hc; simp at hc
    · intro c hc; simp at hc
end Go.Proofs.Ytchcbncelckgeaa.LeavePM
