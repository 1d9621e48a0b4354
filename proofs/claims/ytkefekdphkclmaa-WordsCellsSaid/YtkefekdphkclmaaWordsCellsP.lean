/- The law WordsCells over the walked functions: cells' words are read back as those cells (a float that is no number as the one that stands for all of them), one word more or less is none. -/
import Derived.Test.YtkefekdphkclmaaWordsCom
import Derived.Test.YtkefekdphkclmaaStmWordsCells
set_option linter.unusedVariables false
set_option linter.unusedSimpArgs false
namespace Go.Proofs.Ytkefekdphkclmaa.Wrt
open Go.RowKit Go.Proofs.YtkefekdphkclmaaW.PrintWords Go.Proofs.YtkefekdphkclmaaW.PrintMore Go.Proofs.Ytkefekdphkclmaa.PC Go.Proofs.Ytkefekdphkclmaa.Nb Go.Proofs.Ytkefekdphkclmaa.Opn

abbrev SC := Go.Proofs.Ytkefekdphkclmaa.Wrc.SC
def encS (c : SC) : List Int := encC c.f0 c.f1 c.f2 c.f3
def largeS (c : SC) : Bool := largeL c.f0 c.f2 c.f3
def okS (c : SC) : Prop := (∀ v ∈ c.f2, okV v) ∧ ∀ f ∈ c.f3, okF f
def FineS (c : SC) : Prop := R64 c.f0 ∧ R64 c.f1 ∧ (∀ v ∈ c.f2, Fine v) ∧ (∀ f ∈ c.f3, FineF f) ∧ largeS c = false
/-! What is read back of a value. -/
def canV (v : SV) : SV := if plainB v = true then v else ⟨3, 9221120237041090561⟩
def canF (f : SF) : SF := ⟨f.f0, f.f1, f.f2, f.f3, canV f.f4, f.f5.map canV, f.f6⟩
def canC (c : SC) : SC := ⟨c.f0, c.f1, c.f2.map canV, c.f3.map canF⟩
theorem plainB_iff (v : SV) : plainB v = true ↔ ¬ (v.f0 = 3 ∧ odd (v.f1 % 18446744073709551616) = true) := by
  by_cases h1 : v.f0 = 3 <;> simp [plainB, h1]
theorem bx_nan : (bx 3 9221120237041090561).1 = 9221120237041090561 := by decide
theorem canV_enc (v : SV) : encV (canV v) = encV v := by
  unfold canV
  by_cases h : plainB v = true
  · rw [if_pos h]
  · rw [if_neg h]
    have h' : v.f0 = 3 ∧ odd (v.f1 % 18446744073709551616) = true := by
      rw [plainB_iff] at h
      exact Decidable.not_not.1 h
    have e : bx 3 v.f1 = (9221120237041090561, 0) := by rw [bx_three, if_pos h'.2]
    show (bx 3 9221120237041090561).1 = (bx v.f0 v.f1).1
    rw [h'.1, e, bx_nan]
theorem canV_fine {v : SV} (h : okV v) (hr : R64 v.f1) : Fine (canV v) := by
  unfold canV
  by_cases hp : plainB v = true
  · rw [if_pos hp]; exact fine_plain h hr ((plainB_iff v).1 hp)
  · rw [if_neg hp]; exact ⟨by unfold okV; decide, by decide, by show ub (bx 3 9221120237041090561).1 = (3, 9221120237041090561, 0); rw [bx_nan]; decide +kernel⟩
theorem encVs_can (l : List SV) : encVs (l.map canV) = encVs l := by
  unfold encVs
  rw [List.length_map, List.map_map]
  congr 1
  exact List.map_congr_left (fun v _ => canV_enc v)
theorem encF_can (f : SF) : encF (canF f) = encF f := by
  unfold encF canF
  simp only [encVs_can, canV_enc]
theorem flatMap_can (l : List SF) : (l.map canF).flatMap encF = l.flatMap encF := by
  induction l with
  | nil => rfl
  | cons f l ih => rw [List.map_cons, List.flatMap_cons, List.flatMap_cons, ih, encF_can]
theorem encS_can (c : SC) : encS (canC c) = encS c := by
  unfold encS canC encC
  simp only [encVs_can, List.length_map, flatMap_can]
theorem largeS_can (c : SC) : largeS (canC c) = largeS c := by
  unfold largeS canC largeL
  simp only [List.length_map, List.any_map]
  congr 2
  funext f
  simp [bigF, canF]
theorem canV_id {v : SV} (h : plainB v = true) : canV v = v := by unfold canV; rw [if_pos h]
theorem map_id_of {α : Type} {f : α → α} {l : List α} (h : ∀ x ∈ l, f x = x) : l.map f = l := by
  conv => rhs; rw [← List.map_id l]
  exact List.map_congr_left (fun x hx => by simpa using h x hx)
theorem canC_id {c : SC} (h : (cellVals c.f2 c.f3).all plainB = true) : canC c = c := by
  have hall := List.all_eq_true.1 h
  unfold canC
  have e2 : c.f2.map canV = c.f2 := map_id_of (fun v hv => canV_id (hall v (List.mem_append_left _ hv)))
  have e3 : c.f3.map canF = c.f3 := map_id_of (fun f hf => by
    have hin : ∀ v, v ∈ f.f4 :: f.f5 → plainB v = true := fun v hv => hall v (List.mem_append_right _ (List.mem_flatMap.2 ⟨f, hf, hv⟩))
    unfold canF
    rw [canV_id (hin _ List.mem_cons_self), map_id_of (fun v hv => canV_id (hin v (List.mem_cons_of_mem _ hv)))])
  rw [e2, e3]
theorem i64_wf' {n : Int} (h : (Lit.int .i64 n).wf = true) : R64 n := i64_wf h
theorem canC_fine {c : SC} (hG : WordsCellsS.G25 c) (ho : okS c) (hL : largeS c = false) : FineS (canC c) := by
  obtain ⟨g0, g1, g2, g3⟩ := hG
  obtain ⟨_, _, nf⟩ := large_no hL
  refine ⟨i64_wf' g0, i64_wf' g1, fun v hv => ?_, fun f hf => ?_, by rw [largeS_can]; exact hL⟩
  · obtain ⟨u, hu, rfl⟩ := List.mem_map.1 hv
    exact canV_fine (ho.1 u hu) (i64_wf' (g2.2.2 u hu).2)
  · obtain ⟨q, hq, rfl⟩ := List.mem_map.1 hf
    obtain ⟨w0, w1, w2, w3, w4, w5, w6⟩ := g3.2.2 q hq
    obtain ⟨p4, p5⟩ := ho.2 q hq
    refine ⟨i64_wf' w0, i64_wf' w1, i64_wf' w2, i64_wf' w3, canV_fine p4 (i64_wf' w4.2), fun v hv => ?_, fun t ht => ⟨i64_wf' (w6.2.2 t ht).1, i64_wf' (w6.2.2 t ht).2⟩, by simpa [canF] using nf q hq⟩
    obtain ⟨u, hu, rfl⟩ := List.mem_map.1 hv
    exact canV_fine (p5 u hu) (i64_wf' (w5.2.2 u hu).2)
theorem cells_pre : ∀ {cs ds : List SC} {s s' : List Int}, (∀ c ∈ cs, largeS c = false) → (∀ c ∈ ds, largeS c = false) → cs.length = ds.length → cs.flatMap encS ++ s = ds.flatMap encS ++ s' → s = s'
  | [], [], s, s', _, _, _, h => by simpa using h
  | [], d :: ds, s, s', _, _, hl, h => by simp at hl
  | c :: cs, [], s, s', _, _, hl, h => by simp at hl
  | c :: cs, d :: ds, s, s', h1, h2, hl, h => by
    simp only [List.flatMap_cons, List.append_assoc] at h
    exact cells_pre (fun x hx => h1 x (List.mem_cons_of_mem _ hx)) (fun x hx => h2 x (List.mem_cons_of_mem _ hx)) (by simpa using hl) (encC_pre (h1 c List.mem_cons_self) (h2 d List.mem_cons_self) h)
section
variable {l : List Int} (hl : l.length ≤ 4611686018427387904)
include hl
theorem loop_f : ∀ (cs : List SC) (a : Nat) (out : List SC) (r : List Int), l.drop a = cs.flatMap encS ++ r → (∀ c ∈ cs, FineS c) → out.length + cs.length ≤ 1000000 →
    Ev (fun k => Go.Proofs.Ytkefekdphkclmaa.Wrc.loop k l cs.length (a : Int) false out) (out ++ cs, ((a + (cs.flatMap encS).length : Nat) : Int), false) := by
  intro cs
  induction cs with
  | nil =>
    intro a out r h hf hlen
    refine ⟨0, fun k _ => ?_⟩
    simp [Go.Proofs.Ytkefekdphkclmaa.Wrc.loop]
  | cons c cs ih =>
    intro a out r h hf hlen
    obtain ⟨f0, f1, f2, f3, f4⟩ := hf c List.mem_cons_self
    rw [List.flatMap_cons, List.append_assoc] at h
    obtain ⟨K1, q1⟩ := cell_at hl a c.f0 c.f1 c.f2 c.f3 _ h f0 f1 f2 f3 f4
    have h2 : l.drop (a + (encS c).length) = cs.flatMap encS ++ r := by rw [← List.drop_drop, h, List.drop_left]
    obtain ⟨K2, q2⟩ := ih (a + (encS c).length) (out ++ [c]) r h2 (fun x hx => hf x (List.mem_cons_of_mem _ hx)) (by simp only [List.length_append, List.length_cons, List.length_nil] at hlen ⊢; omega)
    refine ⟨max K1 K2, fun k hk => ?_⟩
    have q1 := q1 k (by omega)
    have q2 := q2 k (by omega)
    simp only [List.length_cons] at hlen ⊢
    simp only at q1 q2
    rw [Go.Proofs.Ytkefekdphkclmaa.Wrc.loop, if_neg (by decide), if_pos (by omega), q1]
    simp only [Option.bind_some]
    show Go.Proofs.Ytkefekdphkclmaa.Wrc.loop k l cs.length ((a + (encS c).length : Nat) : Int) false (out ++ [c]) = _
    rw [q2]
    simp only [List.append_assoc, List.singleton_append, List.flatMap_cons, List.length_append, Nat.add_assoc]
theorem loop_any (hu : ∀ x ∈ l, U64 x) : ∀ (n a : Nat) (b : Bool) (out : List SC), a ≤ l.length → out.length + n ≤ 1000000 → ∃ (cs : List SC) (a' : Nat) (b' : Bool),
    Ev (fun k => Go.Proofs.Ytkefekdphkclmaa.Wrc.loop k l n (a : Int) b out) (out ++ cs, (a' : Int), b') ∧ a' ≤ l.length ∧ (b' = false → b = false ∧ cs.length = n ∧ (∀ c ∈ cs, largeS c = false) ∧ l.drop a = cs.flatMap encS ++ l.drop a') := by
  intro n
  induction n with
  | zero =>
    intro a b out ha hlen
    exact ⟨[], a, b, ⟨0, fun k _ => by simp [Go.Proofs.Ytkefekdphkclmaa.Wrc.loop]⟩, ha, fun h => ⟨h, rfl, fun c hc => by simp at hc, by simp⟩⟩
  | succ n ih =>
    intro a b out ha hlen
    cases b with
    | true => exact ⟨[], a, true, ⟨0, fun k _ => by simp [Go.Proofs.Ytkefekdphkclmaa.Wrc.loop]⟩, ha, fun h => by simp at h⟩
    | false =>
      obtain ⟨x, y, vs, fs, a1, b1, ⟨K1, q1⟩, i1, j1, g1, k1⟩ := cell_any_at hl hu a ha false
      obtain ⟨cs, a2, b2, ⟨K2, q2⟩, j2, k2⟩ := ih a1 b1 (out ++ [⟨x, y, vs, fs⟩]) j1 (by simp only [List.length_append, List.length_cons, List.length_nil]; omega)
      refine ⟨⟨x, y, vs, fs⟩ :: cs, a2, b2, ⟨max K1 K2, fun k hk => ?_⟩, j2, fun h => ?_⟩
      · have q1 := q1 k (by omega)
        have q2 := q2 k (by omega)
        simp only at q1 q2 ⊢
        rw [Go.Proofs.Ytkefekdphkclmaa.Wrc.loop, if_neg (by decide), if_pos (by omega), q1]
        simp only [Option.bind_some]
        rw [q2]
        simp
      · obtain ⟨p1, p2, p3, p4⟩ := k2 h
        obtain ⟨_, _, _, r1⟩ := k1 p1
        refine ⟨rfl, by simp [p2], fun c hc => ?_, ?_⟩
        · rcases List.mem_cons.1 hc with rfl | hc
          · exact g1
          · exact p3 c hc
        · rw [r1, p4, List.flatMap_cons, List.append_assoc]; rfl
/-- Cells of a list that begins with a number: the loop tells. -/
theorem cells_any (hu : ∀ x ∈ l, U64 x) : ∃ (m : List SC) (e : Int), Ev (fun k => Go.Proofs.Ytkefekdphkclmaa.Wrc.cells.f k l) (m, e) ∧ (e = 0 ∨ (m = [] ∧ e = 3)) ∧ (e = 0 → m.length ≤ 300 ∧ (∀ c ∈ m, largeS c = false) ∧ l = u64 (m.length : Int) :: m.flatMap encS) := by
  obtain ⟨n, a, b, h1, i1, j1, m1, k1⟩ := many_any hl hu 0 (Nat.zero_le _) false 300 (by omega)
  obtain ⟨cs, a2, b2, ⟨K2, q2⟩, j2, k2⟩ := loop_any hl hu n a b [] j1 (by simp; omega)
  by_cases hx : b2 = true ∨ (a2 : Int) ≠ (l.length : Int)
  · refine ⟨[], 3, ⟨K2, fun k hk => ?_⟩, .inr ⟨rfl, rfl⟩, fun h => by simp at h⟩
    have q2 := q2 k hk
    simp only at q2 ⊢
    have h1 : words_reader_many.f l 0 false 300 = some ((n : Int), (a : Int), b) := h1
    unfold Go.Proofs.Ytkefekdphkclmaa.Wrc.cells.f
    rw [h1]
    simp only [Option.bind_some]
    rw [if_pos (by omega), Int.toNat_natCast, q2]
    simp only [Option.bind_some]
    rw [if_pos hx]
  · refine ⟨cs, 0, ⟨K2, fun k hk => ?_⟩, .inl rfl, fun _ => ?_⟩
    · have q2 := q2 k hk
      simp only at q2 ⊢
      have h1 : words_reader_many.f l 0 false 300 = some ((n : Int), (a : Int), b) := h1
      unfold Go.Proofs.Ytkefekdphkclmaa.Wrc.cells.f
      rw [h1]
      simp only [Option.bind_some]
      rw [if_pos (by omega), Int.toNat_natCast, q2]
      simp only [Option.bind_some]
      rw [if_neg hx]
      simp
    · have hb : b2 = false := by
        cases b2 with
        | false => rfl
        | true => exact absurd (.inl rfl) hx
      have hat : a2 = l.length := by
        rcases Nat.lt_or_ge a2 l.length with h | h
        · exact absurd (.inr (by omega)) hx
        · omega
      obtain ⟨p1, p2, p3, p4⟩ := k2 hb
      obtain ⟨_, r1⟩ := k1 p1
      refine ⟨by omega, p3, ?_⟩
      have e : l.drop 0 = u64 (n : Int) :: l.drop a := r1
      rw [List.drop_zero, p4, hat, List.drop_length, List.append_nil, ← p2] at e
      exact e
/-- Cells of the words of cells, whatever stands behind them. -/
theorem cells_f (cs : List SC) (r : List Int) (h : l = u64 (cs.length : Int) :: (cs.flatMap encS ++ r)) (hf : ∀ c ∈ cs, FineS c) (hn : cs.length ≤ 300) :
    Ev (fun k => Go.Proofs.Ytkefekdphkclmaa.Wrc.cells.f k l) (if r = [] then (cs, 0) else ([], 3)) := by
  have q0 : l.drop 0 = u64 (cs.length : Int) :: (cs.flatMap encS ++ r) := by rw [List.drop_zero]; exact h
  obtain ⟨_, _, q1⟩ := drop_get q0
  obtain ⟨K, q2⟩ := loop_f hl cs (0 + 1) [] r q1 hf (by simp; omega)
  have hm := many_f hl false 300 q0 (by omega) (by omega)
  have hlen : l.length = 1 + (cs.flatMap encS).length + r.length := by rw [h]; simp; omega
  refine ⟨K, fun k hk => ?_⟩
  have q2 := q2 k hk
  simp only at q2 ⊢
  have h1 : words_reader_many.f l 0 false 300 = some ((cs.length : Int), ((0 + 1 : Nat) : Int), false) := hm
  unfold Go.Proofs.Ytkefekdphkclmaa.Wrc.cells.f
  rw [h1]
  simp only [Option.bind_some]
  rw [if_pos (by omega), Int.toNat_natCast, q2]
  simp only [Option.bind_some]
  by_cases hr : r = []
  · subst hr
    rw [if_pos rfl, if_neg (by simp at hlen ⊢; omega)]
    simp
  · have : 0 < r.length := List.length_pos_iff.2 hr
    rw [if_neg hr, if_pos (.inr (by omega))]
end
theorem ofS_ok {c : SC} (h : (ofL c.f0 c.f1 c.f2 c.f3).2 = 0) : largeS c = false ∧ okS c ∧ (ofL c.f0 c.f1 c.f2 c.f3).1 = encS c := by
  obtain ⟨h1, h2, h3, h4⟩ := ofL_ok h
  exact ⟨h1, ⟨h2, h3⟩, h4⟩
theorem rdTC (l : List SC) (i : Nat) (h : i < l.length) : rd_T25 l (i : Int) = l[i] := by
  unfold rd_T25
  simp [List.getD_eq_getElem?_getD, h]
theorem all_l0 (l : List SC) (hl : l.length ≤ 20) (hf : ∀ c ∈ l, c.f3.length ≤ 140737488351232) : ∀ (d i k : Nat) (out : List Int), l.length - i = d → i ≤ l.length → 140737488351240 + d ≤ k → out.length ≤ 10001 * (i + 1) →
    ∃ ws e, words_All.l0 k out l (l.length : Int) (i : Int) = some (ws, e) ∧ (e = 0 → (∀ c ∈ l.drop i, (ofL c.f0 c.f1 c.f2 c.f3).2 = 0) ∧ ws = out ++ (l.drop i).flatMap encS) := by
  intro d
  induction d with
  | zero =>
    intro i k out hd hi hk ho
    obtain ⟨k, rfl⟩ : ∃ m, k = m + 1 := ⟨k - 1, by omega⟩
    refine ⟨out, 0, ?_, fun _ => ?_⟩
    · simp only [words_All.l0]
      rw [if_neg (by omega)]
    · rw [List.drop_eq_nil_of_le (by omega)]
      exact ⟨fun c hc => by simp at hc, by simp⟩
  | succ d ih =>
    intro i k out hd hi hk ho
    obtain ⟨k, rfl⟩ : ∃ m, k = m + 1 := ⟨k - 1, by omega⟩
    have hlt : i < l.length := by omega
    have h3 := hf l[i] (List.getElem_mem hlt)
    rw [List.drop_eq_getElem_cons hlt]
    simp only [words_All.l0]
    rw [if_pos (by omega), if_pos (by omega), if_pos (by omega), rdTC l i hlt, of_f _ _ _ _ (by omega) k (by omega)]
    simp only [Option.bind_some]
    by_cases he : (ofL l[i].f0 l[i].f1 l[i].f2 l[i].f3).2 = 0
    · obtain ⟨g1, g2, g3⟩ := ofS_ok he
      have hlen := encC_length l[i].f0 l[i].f1 l[i].f2 l[i].f3 g1
      obtain ⟨ws, e, q1, q2⟩ := ih (i + 1) k (out ++ encS l[i]) (by omega) (by omega) (by omega) (by
        rw [List.length_append]
        have : (encS l[i]).length ≤ 10000 := hlen
        omega)
      rw [if_pos he, g3]
      refine ⟨ws, e, ?_, fun h0 => ?_⟩
      · rw [if_pos (by have : (encS l[i]).length ≤ 10000 := hlen; omega), wrap_up (i : Int) (by omega) (by omega)]
        rw [show ((i + 1 : Nat) : Int) = (i : Int) + 1 from by omega] at q1
        exact q1
      · obtain ⟨p1, p2⟩ := q2 h0
        refine ⟨fun c hc => ?_, by rw [p2, List.flatMap_cons, List.append_assoc]⟩
        rcases List.mem_cons.1 hc with rfl | hc
        · exact he
        · exact p1 c hc
    · rw [if_neg he]
      exact ⟨_, _, rfl, fun h0 => absurd h0 he⟩
theorem all_f (l : List SC) (hl : l.length ≤ 20) (hf : ∀ c ∈ l, c.f3.length ≤ 140737488351232) (k : Nat) (hk : 140737488351300 ≤ k) :
    ∃ ws e, words_All.f k l = some (ws, e) ∧ (e = 0 → (∀ c ∈ l, (ofL c.f0 c.f1 c.f2 c.f3).2 = 0) ∧ ws = u64 (l.length : Int) :: l.flatMap encS) := by
  obtain ⟨ws, e, q1, q2⟩ := all_l0 l hl hf l.length 0 k [u64 (l.length : Int)] rfl (by omega) (by omega) (by simp)
  refine ⟨ws, e, ?_, fun h => by simpa using q2 h⟩
  unfold words_All.f
  rw [if_neg (by omega)]
  exact q1
theorem cellVals_f (c : SC) (hL : largeS c = false) : ∃ K, ∀ k, K ≤ k → backstitchref3_CellVals.f k c.f0 c.f1 c.f2 c.f3 = some (cellVals c.f2 c.f3) := by
  obtain ⟨n2, n3, nf⟩ := large_no hL
  obtain ⟨K1, q1⟩ := cellVals_l0 c.f3 n3 (fun f hf => (nf f hf).1) c.f3.length 0 c.f2 rfl (by omega) (by omega)
  refine ⟨K1, fun k hk => ?_⟩
  unfold backstitchref3_CellVals.f
  have e : api_Val_14.f c.f2 = some c.f2 := by
    unfold api_Val_14.f
    simp only [Option.bind_some, List.length_nil, List.nil_append]
    rw [if_pos (by omega)]
  rw [e]
  exact q1 k hk
theorem cellVals_len (c : SC) (hL : largeS c = false) : (cellVals c.f2 c.f3).length ≤ 4611686018427387904 := by
  obtain ⟨n2, n3, nf⟩ := large_no hL
  have : ∀ l : List SF, (∀ f ∈ l, f.f5.length ≤ 60 ∧ f.f6.length ≤ 20) → (l.flatMap (fun f => f.f4 :: f.f5)).length ≤ 61 * l.length := by
    intro l
    induction l with
    | nil => intro _; simp
    | cons f l ih =>
      intro h
      have h1 := ih (fun x hx => h x (List.mem_cons_of_mem _ hx))
      have h2 := h f List.mem_cons_self
      rw [List.flatMap_cons, List.length_append, List.length_cons, List.length_cons]
      omega
  have := this c.f3 nf
  unfold cellVals
  rw [List.length_append]
  omega
theorem cell_good (c : SC) (hL : largeS c = false) : ∃ K, ∀ k, K ≤ k → cellOk k c (canC c) := by
  obtain ⟨n2, n3, nf⟩ := large_no hL
  obtain ⟨K1, q1⟩ := cellVals_f c hL
  obtain ⟨K2, q2⟩ := same_cell c.f0 c.f1 c.f2 c.f3 (by omega) (by omega) nf
  refine ⟨K1 + K2 + (cellVals c.f2 c.f3).length + 1, fun k hk => ⟨_, (cellVals c.f2 c.f3).all plainB, q1 k (by omega), ?_, fun hp => ?_⟩⟩
  · unfold backstitchkeep3_plain.f
    exact plain_l0 _ (cellVals_len c hL) _ 0 k rfl (by omega) (by omega)
  · rw [canC_id hp]
    exact q2 k (by omega)
theorem wordsCells : WordsCellsS.WordsCells.Pure := by
  intro x0 x1 hG hx1
  obtain ⟨_, _, hG⟩ := hG
  have hsub : ∀ c ∈ x0.take 20, WordsCellsS.G25 c := fun c hc => hG c (List.mem_of_mem_take hc)
  have hl : (x0.take 20).length ≤ 20 := by rw [List.length_take]; omega
  have hf : ∀ c ∈ x0.take 20, c.f3.length ≤ 140737488351232 := fun c hc => by have := (hsub c hc).2.2.2.1; omega
  suffices h : ∃ k, wordsCellsOk k x0 x1 by
    obtain ⟨k, hk⟩ := h
    exact ⟨k, by unfold backstitchkeep3_WordsCells.f; rw [if_pos hk]⟩
  unfold wordsCellsOk
  generalize x0.take 20 = l at hsub hl hf
  by_cases hall : ∀ c ∈ l, (ofL c.f0 c.f1 c.f2 c.f3).2 = 0
  · have hL : ∀ c ∈ l, largeS c = false := fun c hc => (ofS_ok (hall c hc)).1
    have hO : ∀ c ∈ l, okS c := fun c hc => (ofS_ok (hall c hc)).2.1
    have hF : ∀ c ∈ l.map canC, FineS c := fun c hc => by
      obtain ⟨d, hd, rfl⟩ := List.mem_map.1 hc
      exact canC_fine (hsub d hd) (hO d hd) (hL d hd)
    have hfl : l.flatMap encS = (l.map canC).flatMap encS := by
      clear hsub hl hf hall hL hO hF
      induction l with
      | nil => rfl
      | cons c l ih => rw [List.map_cons, List.flatMap_cons, List.flatMap_cons, encS_can, ih]
    have hflen : ∀ l : List SC, (∀ c ∈ l, largeS c = false) → (l.flatMap encS).length ≤ 10000 * l.length := by
      intro l
      induction l with
      | nil => intro _; simp
      | cons c l ih =>
        intro h
        have h1 := ih (fun x hx => h x (List.mem_cons_of_mem _ hx))
        have h2 : (encS c).length ≤ 10000 := encC_length _ _ _ _ (h c List.mem_cons_self)
        rw [List.flatMap_cons, List.length_append, List.length_cons]
        omega
    have hlw := hflen l hL
    have hU : ∀ x ∈ u64 (l.length : Int) :: l.flatMap encS, U64 x := by
      intro x hx
      rcases List.mem_cons.1 hx with rfl | hx
      · exact U64_u64 _
      · obtain ⟨c, hc, hx⟩ := List.mem_flatMap.1 hx
        exact encC_U64 _ _ _ _ (hO c hc).1 (hO c hc).2 x hx
    generalize hw : u64 (l.length : Int) :: l.flatMap encS = w at hU
    have hwl : w.length ≤ 200001 := by rw [← hw, List.length_cons]; omega
    have hwp : 0 < w.length := by rw [← hw]; simp
    obtain ⟨K1, q1⟩ := cells_f (l := w) (by omega) (l.map canC) [] (by rw [← hw, hfl]; simp) hF (by simp; omega)
    obtain ⟨K2, q2⟩ := cells_f (l := w ++ [x1]) (by simp; omega) (l.map canC) [x1] (by rw [← hw, hfl]; simp) hF (by simp; omega)
    obtain ⟨m3, e3, ⟨K3, q3⟩, a3, b3⟩ := cells_any (l := w.dropLast) (by rw [List.length_dropLast]; omega) (fun x hx => hU x (List.dropLast_subset _ hx))
    obtain ⟨K4, q4⟩ := Kd.bounded (P := fun n i => ∀ k, n ≤ k → cellOk k (rd_T25 l (i : Int)) (rd_T25 (l.map canC) (i : Int))) (fun n m j hnm h k hk => h k (Nat.le_trans hnm hk)) l.length (fun i hi => by
      rw [rdTC l i hi, rdTC (l.map canC) i (by simpa using hi), List.getElem_map]
      exact cell_good l[i] (hL _ (List.getElem_mem hi)))
    obtain ⟨k, hk1, hk2, hk3, hk4, hk5⟩ : ∃ k, K1 ≤ k ∧ K2 ≤ k ∧ K3 ≤ k ∧ K4 ≤ k ∧ 140737488351300 ≤ k := ⟨K1 + K2 + K3 + K4 + 140737488351300, by omega, by omega, by omega, by omega, by omega⟩
    refine ⟨k, worded_f k (by omega), ?_⟩
    obtain ⟨ws, e, p1, p2⟩ := all_f l hl hf k hk5
    refine ⟨ws, e, p1, fun he => ?_⟩
    obtain ⟨_, rfl⟩ := p2 he
    rw [hw]
    refine ⟨hwp, by omega, l.map canC, q1 k hk1, by simp, ⟨[], q2 k hk2⟩, ⟨m3, ?_⟩, fun i hi => q4 i hi k hk4⟩
    have h3 := q3 k hk3
    rcases a3 with a3 | ⟨_, a3⟩
    · exfalso
      obtain ⟨z1, z2, z3⟩ := b3 a3
      have hne : w ≠ [] := List.length_pos_iff.1 hwp
      obtain ⟨y, e1⟩ : ∃ y, w = u64 (m3.length : Int) :: (m3.flatMap encS ++ [y]) := ⟨w.getLast hne, by
        have e0 := (List.dropLast_concat_getLast hne).symm
        rw [z3] at e0
        exact e0⟩
      rw [← hw] at e1
      simp only [List.cons.injEq] at e1
      have z4 := u64_len (by omega) (by omega) e1.1
      have z5 := cells_pre (s := []) hL z2 z4 (by rw [List.append_nil]; exact e1.2)
      simp at z5
    · rw [← a3]; exact h3
  · refine ⟨140737488351300, worded_f _ (by omega), ?_⟩
    obtain ⟨ws, e, p1, p2⟩ := all_f l hl hf 140737488351300 (Nat.le_refl _)
    exact ⟨ws, e, p1, fun he => absurd (p2 he).1 hall⟩
end Go.Proofs.Ytkefekdphkclmaa.Wrt
