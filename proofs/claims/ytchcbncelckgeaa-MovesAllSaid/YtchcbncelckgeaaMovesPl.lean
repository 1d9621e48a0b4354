/- Moves side by side: what Order does, plain law. -/
import Derived.Test.YtchcbncelckgeaaPV0
set_option linter.unusedVariables false
set_option linter.unusedSimpArgs false
namespace Go.Proofs.Ytchcbncelckgeaa.Mvs
open Go.RowKit Go.Proofs.YtchcbncelckgeaaW.PrintWords Go.Proofs.Ytchcbncelckgeaa.PV
abbrev Mv := S89
instance : DecidableEq Mv := fun a b => if h : a.f0 = b.f0 ∧ a.f1 = b.f1 then isTrue (by cases a; cases b; simp at h; simp [h]) else isFalse (fun e => h (by rw [e]; exact ⟨rfl, rfl⟩))
/-- Distinct ones among as many: all of them. -/
theorem sub_all : ∀ (a b : List Int), a.Nodup → a ⊆ b → b.length ≤ a.length → ∀ x ∈ b, x ∈ a := by
  intro a
  induction a with
  | nil => intro b _ _ hl x hx; cases b with
    | nil => exact hx
    | cons y b => simp at hl
  | cons y a ih =>
    intro b hn hs hl x hx
    obtain ⟨h1, h2⟩ := List.nodup_cons.1 hn
    have hy : y ∈ b := hs List.mem_cons_self
    by_cases he : x = y
    · rw [he]; exact List.mem_cons_self
    · have hb : (b.erase y).length ≤ a.length := by
        rw [List.length_erase_of_mem hy]; simp at hl; omega
      have hs2 : a ⊆ b.erase y := by
        intro z hz
        have hzy : z ≠ y := fun e => h1 (e ▸ hz)
        exact (List.mem_erase_of_ne hzy).2 (hs (List.mem_cons_of_mem _ hz))
      exact List.mem_cons_of_mem _ (ih (b.erase y) h2 hs2 hb x ((List.mem_erase_of_ne he).2 hx))
/-- Does nobody else want what a move goes to? -/
def freeAt (l : List Mv) (m : Mv) : Bool := !(l.any (fun x => x != m && x.f1 == m.f0))
def freeI (l : List Mv) : Option Nat := l.findIdx? (freeAt l)
def turnM (tt spare : Int) (m : Mv) : Mv := if m.f1 = tt then ⟨m.f0, spare⟩ else m
def ordL (spare : Int) : Nat → List Mv → List Mv
  | 0, _ => []
  | k + 1, l => match l with
    | [] => []
    | m :: t => match freeI (m :: t) with
      | some i => (m :: t).getD i m :: ordL spare k ((m :: t).eraseIdx i)
      | none => ⟨spare, m.f0⟩ :: ordL spare k ((m :: t).map (turnM m.f0 spare))
def distinct (l : List Mv) : Prop := l.Pairwise (fun x m => x.f0 ≠ m.f0)
def noSpare (spare : Int) (l : List Mv) : Prop := ∀ m ∈ l, m.f0 ≠ spare
theorem freeI_some {l : List Mv} {i : Nat} (h : freeI l = some i) : ∃ hi : i < l.length, ∀ x ∈ l, x = l[i] ∨ x.f1 ≠ l[i].f0 := by
  unfold freeI at h
  obtain ⟨hi, h1, _⟩ := List.findIdx?_eq_some_iff_getElem.1 h
  refine ⟨hi, fun x hx => ?_⟩
  unfold freeAt at h1
  simp only [Bool.not_eq_true', List.any_eq_false, Bool.and_eq_true, bne_iff_ne, beq_iff_eq, not_and] at h1
  by_cases he : x = l[i]
  · exact .inl he
  · exact .inr (h1 x hx he)
theorem freeI_none {l : List Mv} (h : freeI l = none) : ∀ m ∈ l, ∃ x ∈ l, x ≠ m ∧ x.f1 = m.f0 := by
  unfold freeI at h
  rw [List.findIdx?_eq_none_iff] at h
  intro m hm
  have := h m hm
  unfold freeAt at this
  simp only [Bool.not_eq_false', List.any_eq_true, Bool.and_eq_true, bne_iff_ne, beq_iff_eq] at this
  obtain ⟨x, hx, h1, h2⟩ := this
  exact ⟨x, hx, h1, h2⟩
/-- Everything that is wanted: no move reads the spare place, and what is read lies among what is written. -/
theorem stuck {l : List Mv} (hd : distinct l) (h : freeI l = none) : ∀ x ∈ l, ∃ m ∈ l, m.f0 = x.f1 := by
  have h0 := freeI_none h
  have hsub : (l.map (fun m => m.f0)) ⊆ (l.map (fun m => m.f1)) := by
    intro t ht
    obtain ⟨m, hm, rfl⟩ := List.mem_map.1 ht
    obtain ⟨x, hx, _, e⟩ := h0 m hm
    exact List.mem_map.2 ⟨x, hx, e⟩
  have hnd : (l.map (fun m => m.f0)).Nodup := by
    unfold List.Nodup
    rw [List.pairwise_map]
    exact hd
  have hlen : (l.map (fun m => m.f1)).length ≤ (l.map (fun m => m.f0)).length := by simp
  intro x hx
  have : x.f1 ∈ l.map (fun m => m.f0) := by
    have hp := sub_all _ _ hnd hsub hlen
    exact hp _ (List.mem_map.2 ⟨x, hx, rfl⟩)
  obtain ⟨m, hm, e⟩ := List.mem_map.1 this
  exact ⟨m, hm, e⟩
theorem ordL_nil (spare : Int) (k : Nat) : ordL spare k [] = [] := by cases k <;> rfl
theorem ordL_some {spare : Int} {k i : Nat} {m : Mv} {t : List Mv} (h : freeI (m :: t) = some i) : ordL spare (k + 1) (m :: t) = (m :: t).getD i m :: ordL spare k ((m :: t).eraseIdx i) := by simp only [ordL, h]
theorem ordL_none {spare : Int} {k : Nat} {m : Mv} {t : List Mv} (h : freeI (m :: t) = none) : ordL spare (k + 1) (m :: t) = ⟨spare, m.f0⟩ :: ordL spare k ((m :: t).map (turnM m.f0 spare)) := by simp only [ordL, h]
theorem turn_f0 (tt spare : Int) (m : Mv) : (turnM tt spare m).f0 = m.f0 := by unfold turnM; split <;> rfl
theorem distinct_turn {tt spare : Int} {l : List Mv} (h : distinct l) : distinct (l.map (turnM tt spare)) := by
  unfold distinct at h ⊢
  rw [List.pairwise_map]
  exact h.imp (fun hx => by rw [turn_f0, turn_f0]; exact hx)
theorem distinct_erase {l : List Mv} (h : distinct l) (i : Nat) : distinct (l.eraseIdx i) := h.sublist (List.eraseIdx_sublist ..)
theorem distinct_eq {l : List Mv} (h : distinct l) {x y : Mv} (hx : x ∈ l) (hy : y ∈ l) (e : x.f0 = y.f0) : x = y := by
  induction l with
  | nil => cases hx
  | cons z l ih =>
    obtain ⟨h1, h2⟩ := List.pairwise_cons.1 h
    rcases List.mem_cons.1 hx with ex | kx
    · rcases List.mem_cons.1 hy with ey | ky
      · rw [ex, ey]
      · exact absurd (ex ▸ e) (h1 y ky)
    · rcases List.mem_cons.1 hy with ey | ky
      · exact absurd (ey ▸ e.symm) (h1 x kx)
      · exact ih h2 kx ky
theorem erase_ne {l : List Mv} (h : distinct l) {i : Nat} (hi : i < l.length) : ∀ x ∈ l.eraseIdx i, x.f0 ≠ l[i].f0 := by
  induction l generalizing i with
  | nil => intro x hx; simp at hx
  | cons z l ih =>
    obtain ⟨h1, h2⟩ := List.pairwise_cons.1 h
    cases i with
    | zero => intro x hx; exact fun e => h1 x (by simpa using hx) (by simpa using e.symm)
    | succ i =>
      intro x hx
      simp only [List.eraseIdx_cons_succ, List.mem_cons] at hx
      simp only [List.getElem_cons_succ]
      rcases hx with rfl | hx
      · exact h1 _ (List.getElem_mem _)
      · exact ih h2 (by simpa using hi) x hx
theorem erase_keeps {l : List Mv} {i : Nat} (hi : i < l.length) {x : Mv} (hx : x ∈ l) : x = l[i] ∨ x ∈ l.eraseIdx i := by
  induction l generalizing i with
  | nil => cases hx
  | cons z l ih =>
    cases i with
    | zero => simpa using hx
    | succ i =>
      simp only [List.eraseIdx_cons_succ, List.mem_cons, List.getElem_cons_succ]
      rcases List.mem_cons.1 hx with rfl | hx
      · exact .inr (.inl rfl)
      · rcases ih (by simpa using hi) hx with h | h
        · exact .inl h
        · exact .inr (.inr h)
theorem erase_len {l : List Mv} {i : Nat} (hi : i < l.length) : (l.eraseIdx i).length + 1 = l.length := by
  rw [List.length_eraseIdx_of_lt hi]; omega
/-- Of no move is what it goes to what it comes from. -/
def noIdle (l : List Mv) : Prop := ∀ m ∈ l, m.f0 ≠ m.f1
structure Good (spare : Int) (l : List Mv) : Prop where
  dist : distinct l
  sp : noSpare spare l
  idle : noIdle l
theorem Good.erase {spare : Int} {l : List Mv} (h : Good spare l) (i : Nat) : Good spare (l.eraseIdx i) :=
  ⟨distinct_erase h.dist i, fun m hm => h.sp m (List.mem_of_mem_eraseIdx hm), fun m hm => h.idle m (List.mem_of_mem_eraseIdx hm)⟩
theorem Good.turn {spare tt : Int} {l : List Mv} (h : Good spare l) : Good spare (l.map (turnM tt spare)) := by
  refine ⟨distinct_turn h.dist, fun m hm => ?_, fun m hm => ?_⟩
  · obtain ⟨x, hx, rfl⟩ := List.mem_map.1 hm
    rw [turn_f0]; exact h.sp x hx
  · obtain ⟨x, hx, rfl⟩ := List.mem_map.1 hm
    rw [turn_f0]
    unfold turnM
    split
    · exact h.sp x hx
    · exact h.idle x hx
theorem stuck_reads {spare : Int} {l : List Mv} (h : Good spare l) (hf : freeI l = none) : ∀ x ∈ l, x.f1 ≠ spare := by
  intro x hx e
  obtain ⟨m, hm, e2⟩ := stuck h.dist hf x hx
  exact h.sp m hm (e2.trans e)
theorem turn_unread {spare : Int} {m : Mv} {l : List Mv} (hs : m.f0 ≠ spare) : ∀ x ∈ l.map (turnM m.f0 spare), x.f1 ≠ m.f0 := by
  intro x hx
  obtain ⟨y, hy, rfl⟩ := List.mem_map.1 hx
  unfold turnM
  split
  · exact fun e => hs e.symm
  · rename_i h; exact h
open Classical in
/-- What is owed: a move that reads the spare place; the move to a place that nobody reads. -/
noncomputable def owed (spare t : Int) (l : List Mv) : Nat := (if ∃ x ∈ l, x.f1 = spare then 1 else 0) + (if ∃ x ∈ l, x.f0 = t then 1 else 0)
theorem ord_len {spare : Int} : ∀ (k : Nat) (l : List Mv) (t : Int), Good spare l → (∀ x ∈ l, x.f1 ≠ t) → (∀ x ∈ l, x.f1 = spare → x.f0 ≠ t) → 2 * (ordL spare k l).length + owed spare t l ≤ 3 * l.length := by
  intro k
  induction k with
  | zero =>
    intro l t h h1 h2
    show 2 * 0 + owed spare t l ≤ 3 * l.length
    cases l with
    | nil => simp [owed]
    | cons m l => unfold owed; simp only [List.length_cons]; split <;> split <;> omega
  | succ k ih =>
    intro l t h h1 h2
    cases l with
    | nil => rw [ordL_nil]; simp [owed]
    | cons m l =>
      cases hf : freeI (m :: l) with
      | some i =>
        obtain ⟨hi, _⟩ := freeI_some hf
        rw [ordL_some hf, List.length_cons]
        have := ih ((m :: l).eraseIdx i) t (h.erase i) (fun x hx => h1 x (List.mem_of_mem_eraseIdx hx)) (fun x hx => h2 x (List.mem_of_mem_eraseIdx hx))
        have hl := erase_len hi
        have ho : owed spare t (m :: l) ≤ owed spare t ((m :: l).eraseIdx i) + 1 := by
          unfold owed
          by_cases ha : ∃ x ∈ m :: l, x.f1 = spare
          · by_cases hb : ∃ x ∈ m :: l, x.f0 = t
            · obtain ⟨x, hx, ex⟩ := ha
              obtain ⟨y, hy, ey⟩ := hb
              have hxy : x ≠ y := fun e => h2 x hx ex (e ▸ ey)
              rcases erase_keeps hi hx with e1 | e1
              · rcases erase_keeps hi hy with e2 | e2
                · exact absurd (e1.trans e2.symm) hxy
                · have : ∃ x ∈ (m :: l).eraseIdx i, x.f0 = t := ⟨y, e2, ey⟩
                  rw [if_pos this]; split <;> split <;> split <;> omega
              · have : ∃ x ∈ (m :: l).eraseIdx i, x.f1 = spare := ⟨x, e1, ex⟩
                rw [if_pos this]; split <;> split <;> split <;> omega
            · rw [if_neg hb]; split <;> omega
          · rw [if_neg ha]; split <;> omega
        omega
      | none =>
        have hm0 : m ∈ m :: l := List.mem_cons_self
        have hsp := h.sp m hm0
        rw [ordL_none hf, List.length_cons]
        have hz : owed spare t (m :: l) = 0 := by
          unfold owed
          rw [if_neg (fun ⟨x, hx, e⟩ => stuck_reads h hf x hx e), if_neg (fun ⟨x, hx, e⟩ => by
            obtain ⟨y, hy, _, e2⟩ := freeI_none hf x hx
            exact h1 y hy (e2.trans e))]
        have := ih ((m :: l).map (turnM m.f0 spare)) m.f0 h.turn (turn_unread hsp) (fun x hx e => by
          obtain ⟨y, hy, rfl⟩ := List.mem_map.1 hx
          rw [turn_f0]
          unfold turnM at e
          split at e
          · rename_i h_
            intro e2
            have := distinct_eq h.dist hy hm0 e2
            subst this
            exact h.idle _ hm0 h_.symm
          · exact absurd e (stuck_reads h hf y hy))
        have hw : owed spare m.f0 ((m :: l).map (turnM m.f0 spare)) = 2 := by
          unfold owed
          obtain ⟨y, hy, _, e2⟩ := freeI_none hf m hm0
          rw [if_pos ⟨turnM m.f0 spare y, List.mem_map.2 ⟨y, hy, rfl⟩, by unfold turnM; rw [if_pos e2]⟩, if_pos ⟨turnM m.f0 spare m, List.mem_map.2 ⟨m, hm0, rfl⟩, turn_f0 ..⟩]
        rw [List.length_map] at this
        omega
/-! ### What is done -/
def run1 (s : List Int) (m : Mv) : List Int := if 0 ≤ m.f0 ∧ 0 ≤ m.f1 ∧ m.f0 < (s.length : Int) ∧ m.f1 < (s.length : Int) then s.set m.f0.toNat (s.getD m.f1.toNat 0) else s
def runL (l : List Mv) (s : List Int) : List Int := l.foldl run1 s
theorem run1_len (s : List Int) (m : Mv) : (run1 s m).length = s.length := by unfold run1; split <;> simp
theorem runL_len : ∀ (l : List Mv) (s : List Int), (runL l s).length = s.length := by
  intro l
  induction l with
  | nil => intro s; rfl
  | cons m l ih => intro s; show (runL l (run1 s m)).length = s.length; rw [ih, run1_len]
def wantL (l : List Mv) (regs : List Int) (i : Int) : Int := l.foldl (fun w m => if m.f0 = i then regs.getD m.f1.toNat 0 else w) (regs.getD i.toNat 0)
theorem want_aux (regs : List Int) (i : Int) : ∀ (l : List Mv) (a : Int), distinct l → ((∀ m ∈ l, m.f0 ≠ i) → l.foldl (fun w m => if m.f0 = i then regs.getD m.f1.toNat 0 else w) a = a) ∧ ∀ m ∈ l, m.f0 = i → l.foldl (fun w m => if m.f0 = i then regs.getD m.f1.toNat 0 else w) a = regs.getD m.f1.toNat 0 := by
  intro l
  induction l with
  | nil => intro a _; exact ⟨fun _ => rfl, fun m hm => by cases hm⟩
  | cons x l ih =>
    intro a hd
    obtain ⟨h1, h2⟩ := List.pairwise_cons.1 hd
    refine ⟨fun hn => ?_, fun m hm e => ?_⟩
    · rw [List.foldl_cons, if_neg (hn x List.mem_cons_self)]
      exact (ih a h2).1 (fun m hm => hn m (List.mem_cons_of_mem _ hm))
    · rw [List.foldl_cons]
      rcases List.mem_cons.1 hm with rfl | hm
      · rw [if_pos e]
        exact (ih _ h2).1 (fun y hy e2 => h1 y hy (e.trans e2.symm))
      · exact (ih _ h2).2 m hm e
structure Doing (spare : Int) (n : Nat) (W : Int → Int) (l : List Mv) (s : List Int) : Prop where
  len : s.length = n
  ins : ∀ m ∈ l, 0 ≤ m.f0 ∧ m.f0 < (n : Int) ∧ 0 ≤ m.f1 ∧ m.f1 < (n : Int)
  val : ∀ m ∈ l, s.getD m.f1.toNat 0 = W m.f0
  done : ∀ i : Int, 0 ≤ i → i < (n : Int) → i ≠ spare → (∀ m ∈ l, m.f0 ≠ i) → s.getD i.toNat 0 = W i
theorem set_at (s : List Int) (i j : Nat) (a : Int) (h : i < s.length) : (s.set i a).getD j 0 = if i = j then a else s.getD j 0 := by
  simp only [List.getD_eq_getElem?_getD, List.getElem?_set]
  by_cases e : i = j
  · subst e; simp [h]
  · simp [e]
theorem run1_in {s : List Int} {m : Mv} (h0 : 0 ≤ m.f0) (h1 : m.f0 < (s.length : Int)) (h2 : 0 ≤ m.f1) (h3 : m.f1 < (s.length : Int)) : run1 s m = s.set m.f0.toNat (s.getD m.f1.toNat 0) := by
  unfold run1; rw [if_pos ⟨h0, h2, h1, h3⟩]
theorem ord_does {spare : Int} {n : Nat} {W : Int → Int} (hs : 0 ≤ spare ∧ spare < (n : Int)) : ∀ (k : Nat) (l : List Mv) (s : List Int), Good spare l → Doing spare n W l s → 2 * l.length + (if freeI l = none then 1 else 0) < k + 1 →
    ∀ i : Int, 0 ≤ i → i < (n : Int) → i ≠ spare → (runL (ordL spare k l) s).getD i.toNat 0 = W i := by
  intro k
  induction k with
  | zero =>
    intro l s h hd hk i h0 h1 h2
    have : l = [] := List.eq_nil_of_length_eq_zero (by split at hk <;> omega)
    subst this
    exact hd.done i h0 h1 h2 (by simp)
  | succ k ih =>
    intro l s h hd hk i h0 h1 h2
    cases l with
    | nil => rw [ordL_nil]; exact hd.done i h0 h1 h2 (by simp)
    | cons m l =>
      cases hf : freeI (m :: l) with
      | some j =>
        obtain ⟨hj, hfr⟩ := freeI_some hf
        rw [ordL_some hf]
        have hg : (m :: l).getD j m = (m :: l)[j] := by rw [List.getD_eq_getElem?_getD, List.getElem?_eq_getElem hj]; rfl
        rw [hg]
        have hl := erase_len hj
        have hmem : (m :: l)[j] ∈ m :: l := List.getElem_mem hj
        have hne := erase_ne h.dist hj
        have hkp : ∀ x ∈ m :: l, x = (m :: l)[j] ∨ x ∈ (m :: l).eraseIdx j := fun x hx => erase_keeps hj hx
        generalize (m :: l)[j] = p at hfr hmem hne hkp
        obtain ⟨p0, p1, p2, p3⟩ := hd.ins p hmem
        have hv := hd.val p hmem
        have hlen := hd.len
        show (runL (ordL spare k ((m :: l).eraseIdx j)) (run1 s p)).getD i.toNat 0 = W i
        rw [run1_in p0 (by omega) p2 (by omega)]
        refine ih _ _ (h.erase j) ⟨by rw [List.length_set]; exact hlen, fun x hx => hd.ins x (List.mem_of_mem_eraseIdx hx), fun x hx => ?_, fun q q0 q1 q2 q3 => ?_⟩ (by rw [hf, if_neg (by simp)] at hk; simp only [List.length_cons] at hk hl; split <;> omega) i h0 h1 h2
        · have hx' := List.mem_of_mem_eraseIdx hx
          obtain ⟨x0, x1, x2, x3⟩ := hd.ins x hx'
          rw [set_at _ _ _ _ (by omega), if_neg, hd.val x hx']
          rcases hfr x hx' with e | e
          · exact absurd (congrArg (fun z : Mv => z.f0) e) (hne x hx)
          · omega
        · rw [set_at _ _ _ _ (by omega)]
          by_cases e : p.f0 = q
          · rw [if_pos (by omega), hv, e]
          · rw [if_neg (by omega)]
            exact hd.done q q0 q1 q2 (fun x hx => by
              rcases hkp x hx with e2 | e2
              · rw [e2]; exact e
              · exact q3 x e2)
      | none =>
        have hm0 : m ∈ m :: l := List.mem_cons_self
        have hsp := h.sp m hm0
        rw [ordL_none hf]
        obtain ⟨p0, p1, p2, p3⟩ := hd.ins m hm0
        have hlen := hd.len
        have hr := stuck_reads h hf
        show (runL (ordL spare k ((m :: l).map (turnM m.f0 spare))) (run1 s ⟨spare, m.f0⟩)).getD i.toNat 0 = W i
        rw [run1_in (m := ⟨spare, m.f0⟩) hs.1 (by show spare < _; omega) p0 (by show m.f0 < _; omega)]
        have hfree : freeI ((m :: l).map (turnM m.f0 spare)) ≠ none := by
          intro hn
          obtain ⟨x, hx, _, e⟩ := freeI_none hn (turnM m.f0 spare m) (List.mem_map.2 ⟨m, hm0, rfl⟩)
          rw [turn_f0] at e
          exact turn_unread hsp x hx e
        refine ih _ _ h.turn ⟨by rw [List.length_set]; exact hlen, fun x hx => ?_, fun x hx => ?_, fun q q0 q1 q2 q3 => ?_⟩ (by rw [hf, if_pos rfl] at hk; rw [if_neg hfree, List.length_map]; omega) i h0 h1 h2
        · obtain ⟨y, hy, rfl⟩ := List.mem_map.1 hx
          obtain ⟨y0, y1, y2, y3⟩ := hd.ins y hy
          rw [turn_f0]
          unfold turnM
          split
          · exact ⟨y0, y1, hs.1, hs.2⟩
          · exact ⟨y0, y1, y2, y3⟩
        · obtain ⟨y, hy, rfl⟩ := List.mem_map.1 hx
          obtain ⟨y0, y1, y2, y3⟩ := hd.ins y hy
          rw [turn_f0, set_at _ _ _ _ (by show spare.toNat < _; omega)]
          show (if spare.toNat = _ then s.getD m.f0.toNat 0 else _) = _
          unfold turnM
          split
          · rename_i e
            rw [if_pos rfl, ← e, hd.val y hy]
          · have := hr y hy
            rw [if_neg (by show spare.toNat ≠ y.f1.toNat; omega)]
            exact hd.val y hy
        · rw [set_at _ _ _ _ (by show spare.toNat < _; omega)]
          show (if spare.toNat = _ then s.getD m.f0.toNat 0 else _) = _
          rw [if_neg (by omega)]
          exact hd.done q q0 q1 q2 (fun x hx => by
            have := q3 (turnM m.f0 spare x) (List.mem_map.2 ⟨x, hx, rfl⟩)
            rwa [turn_f0] at this)
end Go.Proofs.Ytchcbncelckgeaa.Mvs
