/- The laws MovesIdle and MovesAll over the walked functions: plain lists, no program. -/
import Derived.Test.YtchcbncelckgeaaPV4
import Derived.Test.YtchcbncelckgeaaPV5
import Derived.Test.YtchcbncelckgeaaMovesOr
import Derived.Test.YtchcbncelckgeaaStmMovesIdle
import Derived.Test.YtchcbncelckgeaaStmMovesAll
set_option linter.unusedVariables false
set_option linter.unusedSimpArgs false
namespace Go.Proofs.Ytchcbncelckgeaa.Mvs
open Go.RowKit Go.Proofs.YtchcbncelckgeaaW.PrintWords Go.Proofs.YtchcbncelckgeaaW.PrintMore Go.Proofs.Ytchcbncelckgeaa.Opn Go.Proofs.Ytchcbncelckgeaa.PV

def Ev {α : Type} (f : Nat → Option α) (r : α) : Prop := ∃ K, ∀ k, K ≤ k → f k = some r
theorem Ev.now {α : Type} {f : Nat → Option α} {r : α} (h : ∀ k, f (k + 1) = some r) : Ev f r :=
  ⟨1, fun k hk => by obtain ⟨m, rfl⟩ : ∃ m, k = m + 1 := ⟨k - 1, by omega⟩; exact h m⟩
theorem Ev.step {α : Type} {f g : Nat → Option α} {r : α} (h : Ev g r) (e : ∀ k, f (k + 1) = g k) : Ev f r := by
  obtain ⟨K, hK⟩ := h
  exact ⟨K + 1, fun k hk => by obtain ⟨m, rfl⟩ : ∃ m, k = m + 1 := ⟨k - 1, by omega⟩; rw [e]; exact hK m (by omega)⟩
theorem Ev.step2 {α β : Type} {f g : Nat → Option α} {b : Nat → Option β} {r : α} {s : β} (hb : Ev b s) (h : Ev g r) (e : ∀ k, b k = some s → f (k + 1) = g k) : Ev f r := by
  obtain ⟨K, hK⟩ := h
  obtain ⟨L, hL⟩ := hb
  exact ⟨max K L + 1, fun k hk => by obtain ⟨m, rfl⟩ : ∃ m, k = m + 1 := ⟨k - 1, by omega⟩; rw [e m (hL m (by omega))]; exact hK m (by omega)⟩
theorem Ev.of1 {α β : Type} {f : Nat → Option α} {b : Nat → Option β} {r : α} {s : β} (hb : Ev b s) (e : ∀ k, b k = some s → f (k + 1) = some r) : Ev f r := by
  obtain ⟨L, hL⟩ := hb
  exact ⟨L + 1, fun k hk => by obtain ⟨m, rfl⟩ : ∃ m, k = m + 1 := ⟨k - 1, by omega⟩; exact e m (hL m (by omega))⟩
theorem Ev.and {α β : Type} {f : Nat → Option α} {b : Nat → Option β} {r : α} {s : β} (h : Ev f r) (hb : Ev b s) : ∃ K, ∀ k, K ≤ k → f k = some r ∧ b k = some s := by
  obtain ⟨K, hK⟩ := h
  obtain ⟨L, hL⟩ := hb
  exact ⟨max K L, fun k hk => ⟨hK k (by omega), hL k (by omega)⟩⟩
theorem wrap_i {i : Nat} (h : i ≤ 1000000000000000) : wrap64 ((i : Int) + 1) = ((i + 1 : Nat) : Int) := by unfold wrap64; omega
theorem rdM (l : List Mv) (i : Nat) (h : i < l.length) : rd_T89 l (i : Int) = l[i] := by
  unfold rd_T89
  simp [List.getD_eq_getElem?_getD, h]
theorem eq_l0 {l : List Mv} (hl : l.length ≤ 1000000) : ∀ (d i k : Nat), l.length - i = d → d < k → i ≤ l.length → api_RMove_34.l0 k l l (l.length : Int) (i : Int) = some true := by
  intro d
  induction d with
  | zero =>
    intro i k hd hk hi
    obtain ⟨k, rfl⟩ : ∃ q, k = q + 1 := ⟨k - 1, by omega⟩
    rw [api_RMove_34.l0, if_neg (by omega)]
  | succ d ih =>
    intro i k hd hk hi
    obtain ⟨k, rfl⟩ : ∃ q, k = q + 1 := ⟨k - 1, by omega⟩
    rw [api_RMove_34.l0, if_pos (by omega), if_pos (by omega), if_pos (by omega), if_pos (by omega), if_neg (by simp), wrap_i (by omega)]
    exact ih (i + 1) k (by omega) (by omega) (by omega)
theorem eq_f {l : List Mv} (hl : l.length ≤ 1000000) : Ev (fun k => api_RMove_34.f k l l) true := ⟨l.length + 1, fun k hk => by
  show api_RMove_34.f k l l = some true
  unfold api_RMove_34.f
  rw [if_pos rfl]
  exact eq_l0 hl l.length 0 k (by omega) (by omega) (by omega)⟩
theorem rung_f : Ev (fun k => backstitchkeep3_rung.f k) true := by
  obtain ⟨K, hK⟩ := eq_f (l := [⟨9, 1⟩, ⟨1, 2⟩, ⟨2, 9⟩]) (by decide)
  refine ⟨K, fun k hk => ?_⟩
  show backstitchkeep3_rung.f k = some true
  unfold backstitchkeep3_rung.f moves_Order.f
  have h1 : orderR [⟨1, 2⟩, ⟨2, 1⟩] 9 = [⟨9, 1⟩, ⟨1, 2⟩, ⟨2, 9⟩] := by decide +kernel
  have h2 : chkM [⟨1, 2⟩, ⟨2, 1⟩] 9 = 0 := by decide +kernel
  simp only [Option.bind_some]
  rw [h1, h2, if_pos rfl]
  have h3 : api_RMove_34.f k [⟨9, 1⟩, ⟨1, 2⟩, ⟨2, 9⟩] [⟨9, 1⟩, ⟨1, 2⟩, ⟨2, 9⟩] = some true := hK k hk
  rw [h3]
  rfl
/-! ### MovesIdle -/
def apD (m : Mv) (i : Nat) : Nat → List Mv → Bool
  | _, [] => true
  | j, y :: ys => (!decide (m.f0 = y.f1) || (i == j)) && apD m i (j + 1) ys
def apAll (l : List Mv) : Nat → List Mv → Bool
  | _, [] => true
  | i, m :: ms => apD m i 0 l && apAll l (i + 1) ms
theorem idle_l2 (out l : List Mv) (a b : Bool) (hl : l.length ≤ 60) (hr : Ev (fun k => backstitchkeep3_rung.f k) true) (ha : a = true → out = []) (hb : b = true → out = l.filter keepM) : ∀ (d i : Nat), l.length - i = d → i ≤ l.length →
    Ev (fun k => backstitchkeep3_MovesIdle.l2 k out a b ((l.take i).filter keepM) l (l.length : Int) (i : Int)) true := by
  intro d
  induction d with
  | zero =>
    intro i hd hi
    have e : i = l.length := by omega
    subst e
    rw [List.take_length]
    have hfl : (l.filter keepM).length ≤ 60 := Nat.le_trans (List.length_filter_le _ _) hl
    obtain ⟨K, hK⟩ := Ev.and hr (eq_f (l := l.filter keepM) (by omega))
    refine ⟨K + 1, fun k hk => ?_⟩
    obtain ⟨k, rfl⟩ : ∃ q, k = q + 1 := ⟨k - 1, by omega⟩
    obtain ⟨h1, h2⟩ := hK k (by omega)
    show backstitchkeep3_MovesIdle.l2 (k + 1) out a b (l.filter keepM) l (l.length : Int) (l.length : Int) = some true
    rw [backstitchkeep3_MovesIdle.l2, if_neg (by omega), h1]
    simp only [Option.bind_some, if_true]
    cases hb2 : b with
    | true =>
      have hob := hb hb2
      rw [hob]
      cases ha2 : a with
      | true =>
        have : (l.filter keepM) = [] := by rw [← hob]; exact ha ha2
        rw [if_pos rfl, if_pos (by rw [this]; rfl), if_pos rfl, h2]; rfl
      | false => rw [if_neg (by simp), if_pos rfl, h2]; rfl
    | false =>
      cases ha2 : a with
      | true => rw [if_pos rfl, if_pos (by rw [ha ha2]; rfl), if_neg (by simp)]
      | false => rw [if_neg (by simp), if_neg (by simp)]
  | succ d ih =>
    intro i hd hi
    have hlt : i < l.length := by omega
    have hs := ih (i + 1) (by omega) (by omega)
    rw [List.take_succ_eq_append_getElem hlt, List.filter_append] at hs
    refine hs.step fun k => ?_
    have hn : ((l.take i).filter keepM).length ≤ 60 := Nat.le_trans (List.length_filter_le _ _) (by rw [List.length_take]; omega)
    rw [backstitchkeep3_MovesIdle.l2, if_pos (by omega), if_pos (by omega), if_pos (by omega), rdM l i hlt, wrap_i (by omega)]
    by_cases h : l[i].f0 = l[i].f1
    · rw [if_pos h]
      have : keepM l[i] = false := by unfold keepM; simp [h]
      simp [this]
    · rw [if_neg h, if_pos (by omega)]
      have : keepM l[i] = true := by unfold keepM; simp [h]
      simp [this]
theorem idle_l1 (out l : List Mv) (a : Bool) (m : Mv) (i : Nat) (hl : l.length ≤ 60) : ∀ (d j : Nat) (b : Bool), l.length - j = d → j ≤ l.length →
    Ev (fun k => backstitchkeep3_MovesIdle.l0 k l out a (b && apD m i j (l.drop j)) l (l.length : Int) (wrap64 ((i : Int) + 1))) true →
    Ev (fun k => backstitchkeep3_MovesIdle.l1 k l out a b (i : Int) l (l.length : Int) (i : Int) l (l.length : Int) (j : Int) m.f0 m.f1) true := by
  intro d
  induction d with
  | zero =>
    intro j b hd hj h
    refine h.step fun k => ?_
    rw [backstitchkeep3_MovesIdle.l1, if_neg (by omega), List.drop_eq_nil_of_le (by omega)]
    simp [apD]
  | succ d ih =>
    intro j b hd hj h
    have hlt : j < l.length := by omega
    rw [List.drop_eq_getElem_cons hlt] at h
    simp only [apD] at h
    rw [← Bool.and_assoc] at h
    refine (ih (j + 1) _ (by omega) (by omega) h).step fun k => ?_
    rw [backstitchkeep3_MovesIdle.l1, if_pos (by omega), if_pos (by omega), if_pos (by omega), rdM l j hlt, wrap_i (i := j) (by omega)]
    have hij : ((i : Int) == (j : Int)) = (i == j) := by
      by_cases e : i = j
      · simp [e]
      · have : ¬ (i : Int) = (j : Int) := by omega
        rw [beq_eq_false_iff_ne.2 e, beq_eq_false_iff_ne.2 this]
    cases b with
    | false => rw [if_neg (by simp)]; simp
    | true =>
      rw [if_pos rfl]
      by_cases h1 : m.f0 = l[j].f1
      · rw [if_pos h1, hij]; simp [h1]
      · rw [if_neg h1]; simp [h1]
theorem idle_l0 (out l : List Mv) (hl : l.length ≤ 60) (hr : Ev (fun k => backstitchkeep3_rung.f k) true) : ∀ (d i : Nat) (a b : Bool), l.length - i = d → i ≤ l.length →
    ((a && (l.drop i).all (fun m => m.f0 == m.f1)) = true → out = []) → ((b && apAll l i (l.drop i)) = true → out = l.filter keepM) →
    Ev (fun k => backstitchkeep3_MovesIdle.l0 k l out a b l (l.length : Int) (i : Int)) true := by
  intro d
  induction d with
  | zero =>
    intro i a b hd hi ha hb
    rw [List.drop_eq_nil_of_le (by omega)] at ha hb
    have h2 := idle_l2 out l a b hl hr (fun h => ha (by simp [h])) (fun h => hb (by simp [apAll, h])) l.length 0 rfl (by omega)
    refine h2.step fun k => ?_
    rw [backstitchkeep3_MovesIdle.l0, if_neg (by omega)]
    rfl
  | succ d ih =>
    intro i a b hd hi ha hb
    have hlt : i < l.length := by omega
    rw [List.drop_eq_getElem_cons hlt] at ha hb
    simp only [List.all_cons, apAll] at ha hb
    rw [← Bool.and_assoc] at ha hb
    have h0 := ih (i + 1) _ _ (by omega) (by omega) ha hb
    rw [← wrap_i (by omega)] at h0
    have h1 := idle_l1 out l (a && (l[i].f0 == l[i].f1)) l[i] i hl l.length 0 b rfl (by omega) h0
    obtain ⟨K, hK⟩ := h1
    refine ⟨K + 2, fun k hk => ?_⟩
    obtain ⟨k, rfl⟩ : ∃ q, k = q + 2 := ⟨k - 2, by omega⟩
    show backstitchkeep3_MovesIdle.l0 (k + 1 + 1) l out a b l (l.length : Int) (i : Int) = some true
    rw [backstitchkeep3_MovesIdle.l0, if_pos (by omega), if_pos (by omega), if_pos (by omega), rdM l i hlt]
    have h2 := hK k (by omega)
    cases a with
    | true => rw [if_pos rfl, backstitchkeep3_MovesIdle.j1]; simpa using h2
    | false => rw [if_neg (by simp), backstitchkeep3_MovesIdle.j1]; simpa using h2
theorem apD_get {m : Mv} {i : Nat} : ∀ (ys : List Mv) (j : Nat), apD m i j ys = true → ∀ q (hq : q < ys.length), m.f0 = ys[q].f1 → i = j + q := by
  intro ys
  induction ys with
  | nil => intro j _ q hq; simp at hq
  | cons y ys ih =>
    intro j h q hq e
    simp only [apD, Bool.and_eq_true, Bool.or_eq_true, Bool.not_eq_true', decide_eq_false_iff_not, beq_iff_eq] at h
    cases q with
    | zero =>
      rcases h.1 with h1 | h1
      · exact absurd e h1
      · exact h1
    | succ q =>
      have := ih (j + 1) h.2 q (by simpa using hq) (by simpa using e)
      omega
theorem apAll_get {l : List Mv} : ∀ (ms : List Mv) (i : Nat), apAll l i ms = true → ∀ p (hp : p < ms.length), ∀ q (hq : q < l.length), ms[p].f0 = l[q].f1 → i + p = q := by
  intro ms
  induction ms with
  | nil => intro i _ p hp; simp at hp
  | cons m ms ih =>
    intro i h p hp q hq e
    simp only [apAll, Bool.and_eq_true] at h
    cases p with
    | zero => have := apD_get l 0 h.1 q hq e; omega
    | succ p =>
      have := ih (i + 1) h.2 p (by simpa using hp) q hq (by simpa using e)
      omega
theorem ord_apart {s : Int} : ∀ (k : Nat) (l : List Mv), l.length ≤ k → (∀ x ∈ l, ∀ y ∈ l, x ≠ y → x.f0 ≠ y.f1) → ordL s k l = l := by
  intro k
  induction k with
  | zero =>
    intro l hk _
    have : l = [] := List.eq_nil_of_length_eq_zero (by omega)
    subst this; rfl
  | succ k ih =>
    intro l hk h
    cases l with
    | nil => rfl
    | cons m t =>
      have hf : freeI (m :: t) = some 0 := by
        unfold freeI
        rw [List.findIdx?_cons]
        have : freeAt (m :: t) m = true := by
          unfold freeAt
          simp only [Bool.not_eq_true', List.any_eq_false, Bool.and_eq_true, bne_iff_ne, beq_iff_eq, not_and]
          intro x hx hne e
          exact h m List.mem_cons_self x hx (Ne.symm hne) e.symm
        rw [this]; rfl
      rw [ordL_some hf]
      show m :: ordL s k t = m :: t
      rw [ih t (by simpa using hk) (fun x hx y hy => h x (List.mem_cons_of_mem _ hx) y (List.mem_cons_of_mem _ hy))]
theorem movesIdle : MovesIdleS.MovesIdle.Pure := by
  intro l s hG hs
  have hmain : Ev (fun k => backstitchkeep3_MovesIdle.f k l s) true := by
    by_cases he : chkM l s = 0
    · obtain ⟨h60, hdi, hns⟩ := chk_good he
      have hor : orderR l s = ordL s (2 * l.length + 2) (l.filter keepM) := by unfold orderR; rw [if_pos he]
      have h0 := idle_l0 (orderR l s) l h60 rung_f l.length 0 true true rfl (by omega) (fun h => by
        rw [List.drop_zero, Bool.true_and, List.all_eq_true] at h
        have : l.filter keepM = [] := List.filter_eq_nil_iff.2 (fun x hx => by have := h x hx; unfold keepM; simp at this; simp [this])
        rw [hor, this, ordL_nil]) (fun h => by
        rw [List.drop_zero, Bool.true_and] at h
        have hap := apAll_get l 0 h
        rw [hor]
        refine ord_apart _ _ (Nat.le_trans (List.length_filter_le _ _) (by omega)) (fun x hx y hy hne e => ?_)
        obtain ⟨p, hp, rfl⟩ := List.getElem_of_mem (List.mem_filter.1 hx).1
        obtain ⟨q, hq, rfl⟩ := List.getElem_of_mem (List.mem_filter.1 hy).1
        have := hap p hp q hq e
        rw [Nat.zero_add] at this
        subst this
        exact hne rfl)
      obtain ⟨K, hK⟩ := Ev.and rung_f h0
      refine ⟨K, fun k hk => ?_⟩
      obtain ⟨h1, h2⟩ := hK k hk
      show backstitchkeep3_MovesIdle.f k l s = some true
      unfold backstitchkeep3_MovesIdle.f moves_Order.f
      rw [h1]
      simp only [Option.bind_some, if_true]
      rw [he, if_pos rfl]
      exact h2
    · obtain ⟨K, hK⟩ := rung_f
      refine ⟨K, fun k hk => ?_⟩
      have h1 : backstitchkeep3_rung.f k = some true := hK k hk
      show backstitchkeep3_MovesIdle.f k l s = some true
      unfold backstitchkeep3_MovesIdle.f moves_Order.f
      rw [h1]
      simp only [Option.bind_some, if_true]
      rw [if_neg he]
  obtain ⟨K, hK⟩ := hmain
  exact ⟨K, hK K (Nat.le_refl _)⟩
/-! ### MovesAll -/
theorem mn_ge (a b : Int) : mn a b ≥ 0 ↔ 0 ≤ a ∧ 0 ≤ b := by unfold mn; split <;> omega
theorem mx_lt (a b n : Int) : mx a b < n ↔ a < n ∧ b < n := by unfold mx; split <;> omega
theorem run_l0 {l : List Mv} (hl : l.length ≤ 1000000) : ∀ (d i k : Nat) (s : List Int), l.length - i = d → d < k → i ≤ l.length → moves_Run.l0 k s l (l.length : Int) (i : Int) = some (runL (l.drop i) s) := by
  intro d
  induction d with
  | zero =>
    intro i k s hd hk hi
    obtain ⟨k, rfl⟩ : ∃ q, k = q + 1 := ⟨k - 1, by omega⟩
    rw [moves_Run.l0, if_neg (by omega), List.drop_eq_nil_of_le (by omega)]
    rfl
  | succ d ih =>
    intro i k s hd hk hi
    obtain ⟨k, rfl⟩ : ∃ q, k = q + 1 := ⟨k - 1, by omega⟩
    have hlt : i < l.length := by omega
    rw [moves_Run.l0, if_pos (by omega), if_pos (by omega), if_pos (by omega), rdM l i hlt, wrap_i (by omega), List.drop_eq_getElem_cons hlt]
    show _ = some (runL (l.drop (i + 1)) (run1 s l[i]))
    generalize l[i] = m
    have hi2 := fun s => ih (i + 1) k s (by omega) (by omega) (by omega)
    unfold run1
    by_cases h1 : mn m.f0 m.f1 ≥ 0
    · rw [if_pos h1]
      have h1' := (mn_ge _ _).1 h1
      by_cases h2 : mx m.f0 m.f1 < (s.length : Int)
      · have h2' := (mx_lt _ _ _).1 h2
        rw [if_pos h2, if_pos (by omega), if_pos (by omega), if_pos (by omega), if_pos (by omega), if_pos ⟨h1'.1, h1'.2, h2'.1, h2'.2⟩, hi2]
        rfl
      · rw [if_neg h2, if_neg (fun h => h2 ((mx_lt _ _ _).2 ⟨h.2.2.1, h.2.2.2⟩)), hi2]
    · rw [if_neg h1, if_neg (fun h => h1 ((mn_ge _ _).2 ⟨h.1, h.2.1⟩)), hi2]
theorem run_f {l : List Mv} {regs : List Int} (hl : l.length ≤ 1000000) (hr : regs.length < 17592186044416) (k : Nat) (hk : l.length < k) : moves_Run.f k l regs = some (runL l regs) := by
  unfold moves_Run.f slices_Clone_int_int.f
  simp only [Option.bind_some, List.length_nil, Nat.zero_add, List.nil_append]
  rw [if_pos (by omega)]
  simp only [Option.bind_some]
  have := run_l0 hl l.length 0 k regs (by omega) (by omega) (by omega)
  rw [List.drop_zero] at this
  exact this
def wstep (regs : List Int) (i : Int) (w : Int) (m : Mv) : Int := if m.f0 = i then regs.getD m.f1.toNat 0 else w
theorem all_l2 (l : List Mv) (s : Int) (regs is : List Int) (i : Nat) (hl : l.length ≤ 60) (hir : i < regs.length) (hlen : is.length = regs.length) (hin : ∀ m ∈ l, 0 ≤ m.f1 ∧ m.f1 < (regs.length : Int))
    (hn : Ev (fun k => backstitchkeep3_MovesAll.l1 k l s regs is (is.length : Int) (wrap64 ((i : Int) + 1))) true) : ∀ (d j : Nat) (w : Int), l.length - j = d → j ≤ l.length → ((i : Int) ≠ s → is.getD i 0 = (l.drop j).foldl (wstep regs i) w) →
    Ev (fun k => backstitchkeep3_MovesAll.l2 k l s regs is (i : Int) w (is.length : Int) (i : Int) l (l.length : Int) (j : Int)) true := by
  intro d
  induction d with
  | zero =>
    intro j w hd hj h
    rw [List.drop_eq_nil_of_le (by omega)] at h
    refine hn.step fun k => ?_
    rw [backstitchkeep3_MovesAll.l2, if_neg (by omega)]
    by_cases he : (i : Int) = s
    · rw [if_pos he]
    · rw [if_neg he, if_pos (by omega), if_pos (by omega)]
      have : rd is (i : Int) = w := by
        have := h he
        unfold rd
        rw [Int.toNat_natCast]
        exact this
      rw [if_pos this]
  | succ d ih =>
    intro j w hd hj h
    have hlt : j < l.length := by omega
    rw [List.drop_eq_getElem_cons hlt, List.foldl_cons] at h
    obtain ⟨m0, m1⟩ := hin _ (List.getElem_mem hlt)
    have h2 := ih (j + 1) _ (by omega) (by omega) h
    refine h2.step fun k => ?_
    rw [backstitchkeep3_MovesAll.l2, if_pos (by omega), if_pos (by omega), if_pos (by omega), rdM l j hlt, wrap_i (by omega)]
    unfold wstep
    by_cases he : l[j].f0 = (i : Int)
    · rw [if_pos he, if_pos m0, if_pos m1, if_pos he]
      rfl
    · rw [if_neg he, if_neg he]
theorem all_l1 (l : List Mv) (s : Int) (regs is : List Int) (hl : l.length ≤ 60) (hrl : regs.length ≤ 20000000000000) (hlen : is.length = regs.length) (hin : ∀ m ∈ l, 0 ≤ m.f1 ∧ m.f1 < (regs.length : Int)) (hr : Ev (fun k => backstitchkeep3_rung.f k) true)
    (hw : ∀ i : Nat, i < regs.length → (i : Int) ≠ s → is.getD i 0 = l.foldl (wstep regs i) (regs.getD i 0)) : ∀ (d i : Nat), regs.length - i = d → i ≤ regs.length →
    Ev (fun k => backstitchkeep3_MovesAll.l1 k l s regs is (is.length : Int) (i : Int)) true := by
  intro d
  induction d with
  | zero =>
    intro i hd hi
    refine hr.of1 fun k hk => ?_
    rw [backstitchkeep3_MovesAll.l1, if_neg (by omega)]
    have : backstitchkeep3_rung.f k = some true := hk
    rw [this]; rfl
  | succ d ih =>
    intro i hd hi
    have h0 := ih (i + 1) (by omega) (by omega)
    rw [← wrap_i (by omega)] at h0
    have h2 := all_l2 l s regs is i hl (by omega) hlen hin h0 l.length 0 (regs.getD i 0) rfl (by omega) (fun he => by rw [List.drop_zero]; exact hw i (by omega) he)
    refine h2.step fun k => ?_
    rw [backstitchkeep3_MovesAll.l1, if_pos (by omega), if_pos (by omega), if_pos (by omega)]
    have : rd regs (i : Int) = regs.getD i 0 := by unfold rd; rw [Int.toNat_natCast]
    rw [this]
    rfl
theorem all_l0 (l out : List Mv) (s : Int) (regs : List Int) (hl : l.length ≤ 60) (hr : Ev (fun k => backstitchkeep3_rung.f k) true)
    (hmain : (∀ m ∈ l, 0 ≤ m.f0 ∧ m.f0 < (regs.length : Int) ∧ 0 ≤ m.f1 ∧ m.f1 < (regs.length : Int) ∧ 0 ≤ s ∧ s < (regs.length : Int)) → Ev (fun k => backstitchkeep3_MovesAll.l0 k l s regs out (regs.length : Int) l (l.length : Int) ((l.length : Nat) : Int)) true) : ∀ (d i : Nat), l.length - i = d → i ≤ l.length →
    (∀ m ∈ l.take i, 0 ≤ m.f0 ∧ m.f0 < (regs.length : Int) ∧ 0 ≤ m.f1 ∧ m.f1 < (regs.length : Int) ∧ 0 ≤ s ∧ s < (regs.length : Int)) →
    Ev (fun k => backstitchkeep3_MovesAll.l0 k l s regs out (regs.length : Int) l (l.length : Int) (i : Int)) true := by
  intro d
  induction d with
  | zero =>
    intro i hd hi h
    have e : i = l.length := by omega
    subst e
    rw [List.take_length] at h
    exact hmain h
  | succ d ih =>
    intro i hd hi h
    have hlt : i < l.length := by omega
    by_cases hin : 0 ≤ l[i].f0 ∧ l[i].f0 < (regs.length : Int) ∧ 0 ≤ l[i].f1 ∧ l[i].f1 < (regs.length : Int) ∧ 0 ≤ s ∧ s < (regs.length : Int)
    · have h2 := ih (i + 1) (by omega) (by omega) (fun m hm => by
        rw [List.take_succ_eq_append_getElem hlt] at hm
        rcases List.mem_append.1 hm with hm | hm
        · exact h m hm
        · simp at hm; rw [hm]; exact hin)
      refine h2.step fun k => ?_
      rw [backstitchkeep3_MovesAll.l0, if_pos (by omega), if_pos (by omega), if_pos (by omega), rdM l i hlt, wrap_i (by omega)]
      rw [if_neg (by omega), if_neg (by omega), if_neg (by omega), if_neg (by omega), if_neg (by omega), if_neg (by omega)]
    · refine hr.of1 fun k hk => ?_
      have hk' : backstitchkeep3_rung.f k = some true := hk
      rw [backstitchkeep3_MovesAll.l0, if_pos (by omega), if_pos (by omega), if_pos (by omega), rdM l i hlt, hk']
      simp only [Option.bind_some]
      by_cases c1 : l[i].f0 < 0
      · rw [if_pos c1]
      · rw [if_neg c1]
        by_cases c2 : l[i].f0 ≥ (regs.length : Int)
        · rw [if_pos c2]
        · rw [if_neg c2]
          by_cases c3 : l[i].f1 < 0
          · rw [if_pos c3]
          · rw [if_neg c3]
            by_cases c4 : l[i].f1 ≥ (regs.length : Int)
            · rw [if_pos c4]
            · rw [if_neg c4]
              by_cases c5 : s < 0
              · rw [if_pos c5]
              · rw [if_neg c5]
                by_cases c6 : s ≥ (regs.length : Int)
                · rw [if_pos c6]
                · exact absurd ⟨by omega, by omega, by omega, by omega, by omega, by omega⟩ hin
theorem order_does {l : List Mv} {s : Int} {regs : List Int} (he : chkM l s = 0) (hin : ∀ m ∈ l, 0 ≤ m.f0 ∧ m.f0 < (regs.length : Int) ∧ 0 ≤ m.f1 ∧ m.f1 < (regs.length : Int) ∧ 0 ≤ s ∧ s < (regs.length : Int)) :
    ∀ i : Nat, i < regs.length → (i : Int) ≠ s → (runL (orderR l s) regs).getD i 0 = l.foldl (wstep regs i) (regs.getD i 0) := by
  intro i hi hne
  obtain ⟨h60, hdi, hns⟩ := chk_good he
  have hor : orderR l s = ordL s (2 * l.length + 2) (l.filter keepM) := by unfold orderR; rw [if_pos he]
  cases l with
  | nil => rw [hor]; rfl
  | cons m0 t =>
    have hsp := (hin m0 List.mem_cons_self).2.2.2.2
    generalize hl : m0 :: t = l at *
    have hW : ∀ i : Int, 0 ≤ i → wantL l regs i = l.foldl (wstep regs i) (regs.getD i.toNat 0) := fun i _ => rfl
    have hwa := fun i : Int => want_aux regs i l (regs.getD i.toNat 0) hdi
    have hd : Doing s regs.length (wantL l regs) (l.filter keepM) regs := by
      refine ⟨rfl, fun m hm => ?_, fun m hm => ?_, fun q q0 q1 q2 q3 => ?_⟩
      · have := hin m (List.mem_filter.1 hm).1
        exact ⟨this.1, this.2.1, this.2.2.1, this.2.2.2.1⟩
      · exact ((hwa m.f0).2 m (List.mem_filter.1 hm).1 rfl).symm
      · by_cases hex : ∃ m ∈ l, m.f0 = q
        · obtain ⟨m, hm, e⟩ := hex
          have hid : m.f0 = m.f1 := by
            by_cases h : m.f0 = m.f1
            · exact h
            · exact absurd e (q3 m (List.mem_filter.2 ⟨hm, by unfold keepM; simp [h]⟩))
          have := (hwa q).2 m hm e
          show regs.getD q.toNat 0 = l.foldl _ _
          rw [this, ← hid, e]
        · exact ((hwa q).1 (fun m hm e => hex ⟨m, hm, e⟩)).symm
    have hfl := List.length_filter_le keepM l
    have := ord_does hsp (2 * l.length + 2) (l.filter keepM) regs (chk_start he) hd (by split <;> omega) (i : Int) (by omega) (by omega) hne
    rw [hor]
    rw [Int.toNat_natCast] at this
    rw [this, hW _ (by omega), Int.toNat_natCast]
theorem order_few {l : List Mv} {s : Int} (he : chkM l s = 0) : 2 * (orderR l s).length ≤ 3 * l.length := by
  obtain ⟨h60, hdi, hns⟩ := chk_good he
  have hor : orderR l s = ordL s (2 * l.length + 2) (l.filter keepM) := by unfold orderR; rw [if_pos he]
  have := ord_len (2 * l.length + 2) (l.filter keepM) s (chk_start he) (fun x hx => (hns x (List.mem_filter.1 hx).1).2) (fun x hx e => absurd e (hns x (List.mem_filter.1 hx).1).2)
  have hfl := List.length_filter_le keepM l
  rw [hor]
  omega
theorem movesAll : MovesAllS.MovesAll.Pure := by
  intro l s regs hG hs hR
  have hrl : regs.length * 8 ≤ 140737488351232 := hR.1
  have hmain : Ev (fun k => backstitchkeep3_MovesAll.f k l s regs) true := by
    by_cases he : chkM l s = 0
    · obtain ⟨h60, hdi, hns⟩ := chk_good he
      have hfew := order_few he
      have h0 := all_l0 l (orderR l s) s regs h60 rung_f (fun hin => by
        have h1 := all_l1 l s regs (runL (orderR l s) regs) h60 (by omega) (runL_len _ _) (fun m hm => ⟨(hin m hm).2.2.1, (hin m hm).2.2.2.1⟩) rung_f (order_does he hin) regs.length 0 rfl (by omega)
        obtain ⟨K, hK⟩ := h1
        refine ⟨K + 200, fun k hk => ?_⟩
        obtain ⟨k, rfl⟩ : ∃ q, k = q + 2 := ⟨k - 2, by omega⟩
        show backstitchkeep3_MovesAll.l0 (k + 1 + 1) l s regs (orderR l s) (regs.length : Int) l (l.length : Int) (l.length : Int) = some true
        rw [backstitchkeep3_MovesAll.l0, if_neg (by omega), run_f (by omega) (by omega) _ (by omega)]
        simp only [Option.bind_some]
        rw [if_pos (by rw [runL_len]), backstitchkeep3_MovesAll.j1]
        have hw : ¬ ((orderR l s).length : Int) > wrap64 ((l.length : Int) + wrap64 ((l.length : Int) / 2)) := by unfold wrap64; omega
        rw [if_neg (by simpa using hw)]
        exact hK k (by omega)) l.length 0 rfl (by omega) (by simp)
      obtain ⟨K, hK⟩ := Ev.and rung_f h0
      refine ⟨K, fun k hk => ?_⟩
      obtain ⟨h1, h2⟩ := hK k hk
      show backstitchkeep3_MovesAll.f k l s regs = some true
      unfold backstitchkeep3_MovesAll.f moves_Order.f
      rw [h1]
      simp only [Option.bind_some, if_true]
      rw [he, if_pos rfl]
      exact h2
    · obtain ⟨K, hK⟩ := rung_f
      refine ⟨K, fun k hk => ?_⟩
      have h1 : backstitchkeep3_rung.f k = some true := hK k hk
      have hor : orderR l s = [] := by unfold orderR; rw [if_neg he]
      show backstitchkeep3_MovesAll.f k l s regs = some true
      unfold backstitchkeep3_MovesAll.f moves_Order.f
      rw [h1]
      simp only [Option.bind_some, if_true]
      rw [if_neg he, hor]
      rfl
  obtain ⟨K, hK⟩ := hmain
  exact ⟨K, hK K (Nat.le_refl _)⟩
end Go.Proofs.Ytchcbncelckgeaa.Mvs
