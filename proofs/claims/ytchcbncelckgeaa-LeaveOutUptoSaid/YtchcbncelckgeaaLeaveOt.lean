/- Package leave: Out walked by hand (under way). -/
import Derived.Test.YtchcbncelckgeaaPM8
import Derived.Test.YtchcbncelckgeaaPM10
import Derived.Test.YtchcbncelckgeaaHandMap
import Derived.Deep.DeepCutAuto
import Derived.Deep.CutBlock
set_option linter.unusedVariables false
set_option linter.unusedSimpArgs false
namespace Go.Proofs.Ytchcbncelckgeaa.Lvo
open Go.RowKit Go.Proofs.YtchcbncelckgeaaW.PrintWords Go.Proofs.YtchcbncelckgeaaW.PrintLast Go.Proofs.YtchcbncelckgeaaW.PrintMore Go.Proofs.Ytchcbncelckgeaa.PM Go.Proofs.Ytchcbncelckgeaa.Hnd

abbrev Vl := S23
abbrev Fm := S27
abbrev Td := S62
/-! ### What stays -/
structure Fr (S : Nat → Prop) (w w' : World) : Prop where
  os : w'.os = w.os
  tape : w'.tape = w.tape
  output : w'.output = w.output
  size : w.heap.size ≤ w'.heap.size
  blk : ∀ k, k < w.heap.size → ¬ S k → w'.heap[k]? = w.heap[k]?
theorem Fr.refl (S : Nat → Prop) (w : World) : Fr S w w := ⟨rfl, rfl, rfl, Nat.le_refl _, fun _ _ _ => rfl⟩
theorem Fr.trans {S : Nat → Prop} {a b c : World} (h : Fr S a b) (k : Fr S b c) : Fr S a c :=
  ⟨k.os.trans h.os, k.tape.trans h.tape, k.output.trans h.output, Nat.le_trans h.size k.size, fun i hi hn => (k.blk i (Nat.lt_of_lt_of_le hi h.size) hn).trans (h.blk i hi hn)⟩
theorem Fr.then_ {S S2 : Nat → Prop} {a b c : World} (h : Fr S a b) (k : Fr S2 b c) (hs : ∀ i, S2 i → S i ∨ a.heap.size ≤ i) : Fr S a c :=
  ⟨k.os.trans h.os, k.tape.trans h.tape, k.output.trans h.output, Nat.le_trans h.size k.size, fun i hi hn => (k.blk i (Nat.lt_of_lt_of_le hi h.size) (fun h2 => (hs i h2).elim hn (fun h3 => by omega))).trans (h.blk i hi hn)⟩
theorem Fr.of_below {S : Nat → Prop} {w w' : World} (h : Below w.heap.size w w') : Fr S w w' := ⟨h.os, h.tape, h.output, h.size, fun k hk _ => h.block k hk⟩
theorem Fr.below {S : Nat → Prop} {a b c : World} (h : Fr S a b) (k : Below b.heap.size b c) : Fr S a c := h.trans (Fr.of_below k)
theorem Fr.to_below {S : Nat → Prop} {w w' : World} {B : Nat} (h : Fr S w w') (hB : B ≤ w.heap.size) (hS : ∀ k, S k → B ≤ k) : Below B w w' :=
  ⟨h.os, h.tape, h.output, h.size, fun k hk => h.blk k (by omega) (fun hs => by have := hS k hs; omega)⟩
theorem Fr.alloc {S : Nat → Prop} {a b : World} (h : Fr S a b) (o : Obj) : Fr S a (b.alloc o) := h.below (below_alloc (Below.refl _ _) o)
theorem Fr.drew {S : Nat → Prop} {a b : World} (h : Fr S a b) : Fr S a b.drew := ⟨h.os, h.tape, h.output, h.size, h.blk⟩
theorem Fr.drewN {S : Nat → Prop} {a b : World} (h : Fr S a b) (m : Nat) : Fr S a (b.drewN m) := h.below (by repeat (first | exact Below.refl _ _ | apply pw_below_drewN))
theorem Fr.set {S : Nat → Prop} {a b : World} (h : Fr S a b) {p : Addr} (hp : S p.block ∨ a.heap.size ≤ p.block) (u : Value) : Fr S a (b.setCell p u) :=
  ⟨h.os, h.tape, h.output, Nat.le_trans h.size (by simp), fun k hk hn => (heap_setCell_other b p k u (fun e => by rw [← e] at hp; rcases hp with hp | hp; exact hn hp; omega)).trans (h.blk k hk hn)⟩
theorem Fr.grown {S : Nat → Prop} {a b c : World} {row : Option Nat} (h : Fr S a b) (hg : b.grownBy c row) (hr : ∀ k, row = some k → S k ∨ a.heap.size ≤ k) : Fr S a c :=
  ⟨hg.os.trans h.os, hg.tape.trans h.tape, hg.output.trans h.output, Nat.le_trans h.size hg.size, fun k hk hn => (hg.block k (Nat.lt_of_lt_of_le hk h.size) (fun e => by rcases hr k e.symm with h1 | h1; exact hn h1; omega)).trans (h.blk k hk hn)⟩
theorem Fr.cell {S : Nat → Prop} {a b : World} (h : Fr S a b) {p : Addr} {v : Value} (hc : a.cell? p = some v) (hn : ¬ S p.block) : b.cell? p = some v :=
  (World.cell?_of_block (h.blk _ (World.block_lt_of_cell? a p hc) hn)).trans hc
theorem Fr.obj {S : Nat → Prop} {a b : World} (h : Fr S a b) {k : Nat} {o : Obj} (hc : a.heap[k]? = some o) (hn : ¬ S k) : b.heap[k]? = some o := (h.blk k (blk_lt hc) hn).trans hc
theorem own_same {w w' : World} {base : Nat} {e : TypeId} {size : Nat} {v : Value} {n : Nat} {xs : List Value} (h : w.ownsRow base e size v n xs) (hs : ∀ k, v.ownBlock = some k → w'.heap[k]? = w.heap[k]?) : w'.ownsRow base e size v n xs := by
  refine ⟨h.1, ?_⟩
  rcases h.2 with hn | ⟨g, cap, cur, rfl, hb, hgg, rest⟩
  · exact .inl hn
  · exact .inr ⟨g, cap, cur, rfl, hb, (hs g rfl).trans hgg, rest⟩
theorem own_ty {w : World} {base : Nat} {e : TypeId} {size : Nat} {v : Value} {n : Nat} {xs : List Value} (h : w.ownsRow base e size v n xs) : ∀ k, v.ownBlock = some k → ∃ cur, w.heap[k]? = some (.cells cur e (0, 0)) := by
  intro k hk
  rcases h.2 with ⟨rfl, _⟩ | ⟨g, cap, cur, rfl, hb, hgg, rest⟩
  · simp [Value.ownBlock] at hk
  · simp [Value.ownBlock] at hk
    subst hk
    exact ⟨cur, hgg⟩
theorem own_nth {w : World} {base : Nat} {e : TypeId} {size : Nat} {v : Value} {n : Nat} {xs : List Value} (h : w.ownsRow base e size v n xs) (hn : 0 < n) : ∃ g cap, v = .slice (some ⟨g, 0, none⟩) n cap := by
  rcases h.2 with ⟨_, h0⟩ | ⟨g, cap, cur, rfl, _⟩
  · omega
  · exact ⟨g, cap, rfl⟩
theorem own_shape {w : World} {base : Nat} {e : TypeId} {size : Nat} {v : Value} {n : Nat} {xs : List Value} (h : w.ownsRow base e size v n xs) : ∃ A cap, v = .slice A n cap ∧ n ≤ cap := by
  rcases h.2 with ⟨rfl, rfl⟩ | ⟨g, cap, cur, rfl, _, _, hc, _⟩
  · exact ⟨none, 0, rfl, Nat.le_refl _⟩
  · exact ⟨_, cap, rfl, hc⟩
/-- A thread's cells, its row of frames told apart. -/
def tdV (p : Value) (x : Td) : List Value := [p, .int .i64 x.f1, .int .i64 x.f2, .int .i64 x.f3.f0, .int .i64 x.f3.f1]
def cellsD : List Value → List Td → List Value
  | p :: ps, x :: l => p :: .int .i64 x.f1 :: .int .i64 x.f2 :: .int .i64 x.f3.f0 :: .int .i64 x.f3.f1 :: cellsD ps l
  | _, _ => []
theorem cellsD_len : ∀ (ps : List Value) (l : List Td), ps.length = l.length → (cellsD ps l).length = l.length * 5
  | [], [], _ => rfl
  | p :: ps, x :: l, h => by
    have := cellsD_len ps l (by simpa using h)
    simp only [cellsD, List.length_cons, this]; omega
theorem cellsD_get : ∀ (ps : List Value) (l : List Td) (i : Nat) (h : ps.length = l.length) (hi : i < l.length), (cellsD ps l)[i * 5]? = some (ps[i]'(by omega)) ∧ (cellsD ps l)[i * 5 + 1]? = some (.int .i64 l[i].f1) ∧ (cellsD ps l)[i * 5 + 2]? = some (.int .i64 l[i].f2) ∧ (cellsD ps l)[i * 5 + 3]? = some (.int .i64 l[i].f3.f0) ∧ (cellsD ps l)[i * 5 + 4]? = some (.int .i64 l[i].f3.f1)
  | [], l, _, h, hi => by simp at h; omega
  | p :: ps, [], _, h, hi => by simp at hi
  | p :: ps, x :: l, 0, _, _ => ⟨rfl, rfl, rfl, rfl, rfl⟩
  | p :: ps, x :: l, i + 1, h, hi => by
    have h_ := cellsD_get ps l i (by simpa using h) (by simpa using hi)
    have e : ∀ j, (i + 1) * 5 + j = (i * 5 + j) + 1 + 1 + 1 + 1 + 1 := fun j => by omega
    have e0 : (i + 1) * 5 = (i * 5) + 1 + 1 + 1 + 1 + 1 := by omega
    rw [e 1, e 2, e 3, e 4, e0]
    simpa [cellsD] using h_
theorem cellsD_set : ∀ (ps : List Value) (l : List Td) (i : Nat) (p : Value) (h : ps.length = l.length) (hi : i < l.length), (cellsD ps l).set (i * 5) p = cellsD (ps.set i p) l
  | [], l, _, _, h, hi => by simp at h; omega
  | p :: ps, [], _, _, _, hi => by simp at hi
  | p :: ps, x :: l, 0, _, _, _ => rfl
  | p :: ps, x :: l, i + 1, p', h, hi => by
    have h_ := cellsD_set ps l i p' (by simpa using h) (by simpa using hi)
    have e0 : (i + 1) * 5 = (i * 5) + 1 + 1 + 1 + 1 + 1 := by omega
    rw [e0]
    simp [cellsD, h_]
/-- One thread's frames, copied: what they lead to is of P, or was made between lo and hi. -/
def El (W : World) (P : Nat → Prop) (lo hi : Nat) (p : Value) (fs : List Fm) : Prop := Kd.N k27 27 W lo (fun k => P k ∨ (lo ≤ k ∧ k < hi)) p fs
theorem chunk_cells : ∀ (l : List Td) (inner : List Value) (Q : Nat → Value → Prop), inner.length = l.length * 5 → (∀ j (hj : j < l.length), ∃ p, (inner.drop (j * 5)).take 5 = tdV p l[j] ∧ Q j p) → ∃ ps : List Value, ps.length = l.length ∧ inner = cellsD ps l ∧ ∀ i (h : i < ps.length), Q i ps[i]
  | [], inner, Q, hl, _ => ⟨[], rfl, by simpa [cellsD] using hl, fun i h => absurd h (Nat.not_lt_zero _)⟩
  | x :: l, inner, Q, hl, h => by
    obtain ⟨p, hp, hq⟩ := h 0 (by simp)
    have e : inner = tdV p x ++ inner.drop 5 := by
      have h1 := (List.take_append_drop 5 inner).symm
      have h2 : inner.take 5 = tdV p x := by simpa using hp
      rw [h2] at h1; exact h1
    obtain ⟨ps, hps, hin, hQ⟩ := chunk_cells l (inner.drop 5) (fun j => Q (j + 1)) (by simp at hl ⊢; omega) (fun j hj => by
      obtain ⟨p', h1, h2⟩ := h (j + 1) (by simp; omega)
      refine ⟨p', ?_, h2⟩
      rw [List.drop_drop, show 5 + j * 5 = (j + 1) * 5 from by omega]
      simpa using h1)
    refine ⟨p :: ps, by simp [hps], by rw [e, hin]; rfl, fun i hi => ?_⟩
    cases i with
    | zero => exact hq
    | succ i => exact hQ i (by simpa using hi)
/-- A row of threads of one's own, its rows of frames told apart. -/
theorem threads_open {W : World} {base : Nat} {ok : Nat → Prop} {v : Value} {l : List Td} (h : Kd.N k62 62 W base ok v l) :
    ∃ ps : List Value, ps.length = l.length ∧ W.ownsRow base 62 5 v l.length (cellsD ps l) ∧ ∀ i (hi : i < ps.length), ∀ hj : i < l.length, Kd.V k27 27 W 0 (fun k => ok k ∧ some k ≠ v.ownBlock) ps[i] l[i].f0 := by
  obtain ⟨h0, rows, hl, ⟨_, inner, ho, hr⟩, hf⟩ := h
  have hin : inner.length = l.length * 5 := by have := hr.1; rw [hl] at this; exact this
  have hrow : ∀ j (hj : j < l.length), ∃ p, (inner.drop (j * 5)).take 5 = tdV p l[j] ∧ ∀ hj : j < l.length, Kd.V k27 27 W 0 (fun k => ok k ∧ some k ≠ v.ownBlock) p l[j].f0 := by
    intro j hj
    have hjr : j < rows.length := by omega
    have h1 := hr.2 j rows[j] (List.getElem?_eq_getElem hjr)
    have h2 := hf j l[j] rows[j] (List.getElem?_eq_getElem hj) (List.getElem?_eq_getElem hjr)
    obtain ⟨A0, c0, e, hc, hF⟩ := k62_openF h2
    refine ⟨.slice A0 l[j].f0.length c0, ?_, fun _ => Kd.V_mk hc hF⟩
    have h3 : (inner.drop (j * 5)).take 5 = rows[j] := h1.1
    rw [h3, e]; rfl
  obtain ⟨ps, h1, h2, h3⟩ := chunk_cells l inner (fun j p => ∀ hj : j < l.length, Kd.V k27 27 W 0 (fun k => ok k ∧ some k ≠ v.ownBlock) p l[j].f0) hin hrow
  refine ⟨ps, h1, ?_, h3⟩
  rw [← h2]
  rw [hl] at ho
  exact ho
theorem own5_at {W : World} {base g n cap : Nat} {ps : List Value} {th : List Td} (h : W.ownsRow base 62 5 (.slice (some ⟨g, 0, none⟩) n cap) n (cellsD ps th)) (hl : ps.length = th.length) (i : Nat) (hi : i < th.length) :
    W.cell? ⟨g, i * 5, none⟩ = some (ps[i]'(by omega)) ∧ W.cell? ⟨g, i * 5 + 1, none⟩ = some (.int .i64 th[i].f1) ∧ W.cell? ⟨g, i * 5 + 2, none⟩ = some (.int .i64 th[i].f2) ∧ W.cell? ⟨g, i * 5 + 3, none⟩ = some (.int .i64 th[i].f3.f0) ∧ W.cell? ⟨g, i * 5 + 4, none⟩ = some (.int .i64 th[i].f3.f1) := by
  obtain ⟨c0, c1, c2, c3, c4⟩ := cellsD_get ps th i hl hi
  have key : ∀ j v, (cellsD ps th)[j]? = some v → W.cell? ⟨g, j, none⟩ = some v := fun j v hv => by
    have h_ := h.cells (g := g) rfl j v hv
    rwa [add_plain] at h_
  exact ⟨key _ _ c0, key _ _ c1, key _ _ c2, key _ _ c3, key _ _ c4⟩
/-- The first i threads' frames are copied. -/
structure Cp (W : World) (P1 : Nat → Prop) (lo : Nat) (ps0 ps : List Value) (th : List Td) (i : Nat) : Prop where
  len : ps.length = th.length
  rest : ∀ j, i ≤ j → ps[j]? = ps0[j]?
  bd : ∃ bd : Nat → Nat, lo ≤ bd 0 ∧ (∀ j, j < i → bd j ≤ bd (j + 1)) ∧ bd i ≤ W.heap.size ∧ ∀ j (hj : j < i) (h1 : j < ps.length) (h2 : j < th.length), El W P1 (bd j) (bd (j + 1)) ps[j] th[j].f0
theorem bd_mono {bd : Nat → Nat} {i : Nat} (h : ∀ j, j < i → bd j ≤ bd (j + 1)) {a b : Nat} (hab : a ≤ b) (hb : b ≤ i) : bd a ≤ bd b := by
  induction b with
  | zero => have : a = 0 := by omega
            subst this; exact Nat.le_refl _
  | succ b ih =>
    by_cases e : a = b + 1
    · subst e; exact Nat.le_refl _
    · exact Nat.le_trans (ih (by omega) (by omega)) (h b (by omega))
theorem Cp.step {W W' : World} {P1 : Nat → Prop} {lo : Nat} {ps0 ps : List Value} {th : List Td} {i : Nat} (h : Cp W P1 lo ps0 ps th i) (hs : W.heap.size ≤ W'.heap.size) (hk : ∀ k, (P1 k ∨ lo ≤ k) → k < W.heap.size → W'.heap[k]? = W.heap[k]?) : Cp W' P1 lo ps0 ps th i := by
  obtain ⟨h1, h2, bd, h3, h4, h5, h6⟩ := h
  refine ⟨h1, h2, bd, h3, h4, Nat.le_trans h5 hs, fun j hj q1 q2 => ?_⟩
  refine Kd.N_step (h6 j hj q1 q2) (fun k hok hlt => hk k ?_ hlt)
  rcases hok with hok | hok
  · exact .inl hok
  · exact .inr (Nat.le_trans h3 (Nat.le_trans (bd_mono h4 (Nat.zero_le j) (Nat.le_of_lt hj)) hok.1))
theorem Cp.next {W W' : World} {P1 : Nat → Prop} {lo : Nat} {ps0 ps : List Value} {th : List Td} {i : Nat} (h : Cp W P1 lo ps0 ps th i) (hi : i < th.length) (hs : W.heap.size ≤ W'.heap.size) (hk : ∀ k, (P1 k ∨ lo ≤ k) → k < W.heap.size → W'.heap[k]? = W.heap[k]?) {p : Value} {b : Nat} (hb : W.heap.size ≤ b) (hN : Kd.N k27 27 W' b (fun k => P1 k ∨ b ≤ k) p th[i].f0) : Cp W' P1 lo ps0 (ps.set i p) th (i + 1) := by
  obtain ⟨h1, h2, bd, h3, h4, h5, h6⟩ := h.step hs hk
  obtain ⟨g1, g2, bd', g3, g4, g5, g6⟩ := h
  refine ⟨by rw [List.length_set]; exact g1, fun j hj => by rw [List.getElem?_set_ne (by omega)]; exact g2 j (by omega), fun j => if j ≤ i then bd' j else W'.heap.size, by show lo ≤ (if 0 ≤ i then bd' 0 else _); rw [if_pos (Nat.zero_le _)]; exact g3, fun j hj => ?_, by show (if i + 1 ≤ i then _ else _) ≤ _; rw [if_neg (by omega)]; exact Nat.le_refl _, fun j hj q1 q2 => ?_⟩
  · show (if j ≤ i then _ else _) ≤ (if j + 1 ≤ i then _ else _)
    rw [if_pos (by omega)]
    by_cases e : j + 1 ≤ i
    · rw [if_pos e]; exact g4 j (by omega)
    · rw [if_neg e]
      have : j = i := by omega
      subst this
      exact Nat.le_trans g5 hs
  · by_cases e : j = i
    · subst e
      simp only [Nat.le_refl, if_true, if_neg (show ¬ j + 1 ≤ j by omega), List.getElem_set_self]
      refine Kd.N_mono (Kd.N_bound (Kd.N_lower hN (Nat.le_trans g5 hb))) (fun k hk2 => ?_)
      rcases hk2.1 with h7 | h7
      · exact .inl h7
      · exact .inr ⟨Nat.le_trans g5 (Nat.le_trans hb h7), hk2.2⟩
    · have hji : j < i := by omega
      simp only [if_pos (show j ≤ i by omega), if_pos (show j + 1 ≤ i by omega)]
      rw [List.getElem_set_ne (by omega)]
      refine Kd.N_step (g6 j hji (by simpa using q1) q2) (fun k hok hlt => hk k ?_ hlt)
      rcases hok with hok | hok
      · exact .inl hok
      · exact .inr (Nat.le_trans g3 (Nat.le_trans (bd_mono g4 (Nat.zero_le j) (Nat.le_of_lt hji)) hok.1))
/-- What Out's rows may lead to: not its own two blocks, and nothing that came elsewhence. -/
def OkO (P : Nat → Prop) (z k : Nat) : Prop := (k ≠ z ∧ k ≠ z + 1 + 1) ∧ (P k ∨ z ≤ k)
/-- Threads of one's own; what they lead to is none of two blocks a, b. -/
structure Tz (W : World) (ok : Nat → Prop) (g cap n : Nat) (ps : List Value) (th : List Td) : Prop where
  row : W.ownsRow 0 62 5 (.slice (some ⟨g, 0, none⟩) n cap) n (cellsD ps th)
  len : ps.length = th.length
  ln : th.length = n
  ne : ok g
  fr : ∀ j (h1 : j < ps.length) (h2 : j < th.length), Kd.N k27 27 W 0 ok ps[j] th[j].f0
theorem Tz.step {W W' : World} {ok : Nat → Prop} {g cap n : Nat} {ps : List Value} {th : List Td} (h : Tz W ok g cap n ps th) (hk : ∀ k, ok k → k < W.heap.size → W'.heap[k]? = W.heap[k]?) : Tz W' ok g cap n ps th :=
  ⟨own_same h.row (fun k hk2 => by
    have e : k = g := by simpa [Value.ownBlock] using hk2.symm
    subst e
    exact hk k h.ne (h.row.lt k hk2).2), h.len, h.ln, h.ne, fun j h1 h2 => Kd.N_step (h.fr j h1 h2) hk⟩
theorem Tz.C {W : World} {ok : Nat → Prop} {g cap n : Nat} {ps : List Value} {th : List Td} (h : Tz W ok g cap n ps th) (hn : n ≤ 1048576) : Kd.C k62 W (some ⟨g, 0, none⟩) th.length th := by
  refine ⟨rfl, by have := h.ln; omega, fun _ => ⟨_, rfl, fun j p hj => ?_⟩⟩
  obtain ⟨hjl, hjp⟩ := List.getElem?_eq_some_iff.1 hj
  have h1 : j < ps.length := by rw [h.len]; exact hjl
  obtain ⟨z0, z1, z2, z3, z4⟩ := own5_at h.row h.len j hjl
  obtain ⟨A, c, e, hc, hC⟩ := Kd.N_reads (h.fr j h1 hjl)
  rw [e] at z0
  rw [hjp] at z0 z1 z2 z3 z4 hc hC
  have hK := k62_mk W p hc hC
  refine ⟨_, rfl, hK, fun i u hu => ?_⟩
  have e5 : (k62 : Kd Td).sz = 5 := rfl
  rw [e5, add_plain]
  rcases i with _ | _ | _ | _ | _ | i
  · simp at hu; subst hu; exact z0
  · simp at hu; subst hu; exact z1
  · simp at hu; subst hu; exact z2
  · simp at hu; subst hu; exact z3
  · simp at hu; subst hu; exact z4
  · simp at hu
theorem Tz.F {W : World} {ok : Nat → Prop} {g cap n : Nat} {ps : List Value} {th : List Td} (h : Tz W ok g cap n ps th) (hn : n ≤ 1048576) : Kd.F k62 W ok (some ⟨g, 0, none⟩) th.length th := fun _ hW => (h.step hW).C hn
theorem cellsD_f0 : ∀ (ps : List Value) (th : List Td) (i : Nat) (fs : List Fm) (hi : i < th.length), cellsD ps (th.set i ⟨fs, th[i].f1, th[i].f2, th[i].f3⟩) = cellsD ps th
  | [], th, i, fs, hi => by cases th <;> cases i <;> rfl
  | p :: ps, [], i, fs, hi => by simp at hi
  | p :: ps, x :: th, 0, fs, hi => rfl
  | p :: ps, x :: th, i + 1, fs, hi => by
    have h_ := cellsD_f0 ps th i fs (by simpa using hi)
    simp only [List.set_cons_succ, cellsD, List.getElem_cons_succ]
    rw [h_]
/-- What Out hands back, all of it to be read. -/
def OutP (ok : Nat → Prop) (w' : World) (e : Ending) (cs : List S50) (sh : List S68) (tx : List ByteArray) (th : List Td) (en : List S71) (sa : List Vl) (asked steps err : Int) : Prop :=
  ∃ A0 c0 A1 c1 A2 c2 A3 c3 A4 c4 A5 c5, e = .returned (.tuple #[.agg #[.slice A0 cs.length c0, .slice A1 sh.length c1, .slice A2 tx.length c2, .slice A3 th.length c3, .slice A4 en.length c4, .slice A5 sa.length c5, .int .i64 asked, .int .i64 steps], .int .i64 err]) ∧
    Kd.F k50 w' ok A0 cs.length cs ∧ cs.length ≤ c0 ∧ Kd.F k68 w' ok A1 sh.length sh ∧ sh.length ≤ c1 ∧ Kd.F Kd.string w' ok A2 tx.length tx ∧ tx.length ≤ c2 ∧ Kd.F k62 w' ok A3 th.length th ∧ th.length ≤ c3 ∧ Kd.F k71 w' ok A4 en.length en ∧ en.length ≤ c4 ∧ Kd.F k23 w' ok A5 sa.length sa ∧ sa.length ≤ c5
theorem OutP.none_ (ok : Nat → Prop) (w' : World) (err : Int) : OutP ok w' (.returned (.tuple #[.agg #[.slice none 0 0, .slice none 0 0, .slice none 0 0, .slice none 0 0, .slice none 0 0, .slice none 0 0, .int .i64 0, .int .i64 0], .int .i64 err])) [] [] [] [] [] [] 0 0 err :=
  ⟨none, 0, none, 0, none, 0, none, 0, none, 0, none, 0, rfl, Kd.F_nil _ _ _, Nat.le_refl _, Kd.F_nil _ _ _, Nat.le_refl _, Kd.F_nil _ _ _, Nat.le_refl _, Kd.F_nil _ _ _, Nat.le_refl _, Kd.F_nil _ _ _, Nat.le_refl _, Kd.F_nil _ _ _, Nat.le_refl _⟩
section
variable (w : World) (P : Nat → Prop) {AC : Option Addr} {cC : Nat} {cs : List S50} {ASh : Option Addr} {cSh : Nat} {sh : List S68} {ATx : Option Addr} {cTx : Nat} {tx : List ByteArray} {AT : Option Addr} {cT : Nat} {th : List Td} {AE : Option Addr} {cE : Nat} {en : List S71} {AS : Option Addr} {cS : Nat} {sa : List Vl} {asked steps thread xa xs : Int} {ASt : Option Addr} {cSt : Nat} {sets : List S34} {AM : Option Addr} {cM : Nat} {makes : List S46} {AV : Option Addr} {cV : Nat} {vals : List Vl}
/-- What came in. -/
structure OutI : Prop where
  h_p : ∀ k, P k → k < w.heap.size
  h_cs : Kd.V k50 50 w w.heap.size (fun k => P k) (.slice AC cs.length cC) cs
  h_sh : Kd.C k68 w ASh sh.length sh
  h_shc : sh.length ≤ cSh
  h_tx : Kd.C Kd.string w ATx tx.length tx
  h_txc : tx.length ≤ cTx
  h_th : Kd.V k62 62 w w.heap.size (fun k => P k) (.slice AT th.length cT) th
  h_en : Kd.C k71 w AE en.length en
  h_enc : en.length ≤ cE
  h_sa : Kd.C k23 w AS sa.length sa
  h_sac : sa.length ≤ cS
  h_st : Kd.C k34 w ASt sets.length sets
  h_stc : sets.length ≤ cSt
  h_mks : Kd.C k46 w AM makes.length makes
  h_mksc : makes.length ≤ cM
  h_va : Kd.C k23 w AV vals.length vals
  h_vac : vals.length ≤ cV
end
def zS : Array Value := #[.slice none 0 0, .slice none 0 0, .slice none 0 0, .slice none 0 0, .slice none 0 0, .slice none 0 0, .int .i64 0, .int .i64 0]
set_option maxHeartbeats 16000000 in
set_option maxRecDepth 100000 in
theorem out_calls (w : World) (P : Nat → Prop) {AC : Option Addr} {cC : Nat} {cs : List S50} {ASh : Option Addr} {cSh : Nat} {sh : List S68} {ATx : Option Addr} {cTx : Nat} {tx : List ByteArray} {AT : Option Addr} {cT : Nat} {th : List Td} {AE : Option Addr} {cE : Nat} {en : List S71} {AS : Option Addr} {cS : Nat} {sa : List Vl} {asked steps thread xa xs : Int} {ASt : Option Addr} {cSt : Nat} {sets : List S34} {AM : Option Addr} {cM : Nat} {makes : List S46} {AV : Option Addr} {cV : Nat} {vals : List Vl}
    (h : OutI w P (AC := AC) (cC := cC) (cs := cs) (ASh := ASh) (cSh := cSh) (sh := sh) (ATx := ATx) (cTx := cTx) (tx := tx) (AT := AT) (cT := cT) (th := th) (AE := AE) (cE := cE) (en := en) (AS := AS) (cS := cS) (sa := sa) (ASt := ASt) (cSt := cSt) (sets := sets) (AM := AM) (cM := cM) (makes := makes) (AV := AV) (cV := cV) (vals := vals))
    (hbad : thread < 0 ∨ (th.length : Int) ≤ thread ∨ (th.getD thread.toNat z62).f0 = []) :
    Calls Try.prog 20 #[.agg #[.slice AC cs.length cC, .slice ASh sh.length cSh, .slice ATx tx.length cTx, .slice AT th.length cT, .slice AE en.length cE, .slice AS sa.length cS, .int .i64 asked, .int .i64 steps], .int .i64 thread, .agg #[.int .i64 xa, .int .i64 xs, .slice ASt sets.length cSt, .slice AM makes.length cM], .slice AV vals.length cV] w fun e w' => OutP (fun k => P k ∨ w.heap.size ≤ k) w' e [] [] [] [] [] [] 0 0 5 ∧ Below w.heap.size w w' := by
  by_cases h0 : thread < 0
  · have hd0 : decide (thread < 0) = true := decide_eq_true h0
    clear hbad h0 h
    go_enter Try.func20, Try.ntmps20
    go_wp2_with fail
    refine bodyPost_ret (results_ct rfl _ _ (w.heap.size + 1 + 1) 57 zS (0, 0) _ rfl (by
      have h_ := blk_new ((w.alloc (Obj.cells #[.slice AC cs.length cC, .slice ASh sh.length cSh, .slice ATx tx.length cTx, .slice AT th.length cT, .slice AE en.length cE, .slice AS sa.length cS, .int .i64 asked, .int .i64 steps] 57)).alloc (Obj.cells #[.int .i64 xa, .int .i64 xs, .slice ASt sets.length cSt, .slice AM makes.length cM] 31)) (Obj.cells zS 57)
      rw [blk_size, blk_size] at h_
      exact h_) Try.underlying57 rfl (by kernel_rfl)) rfl ?_
    exact ⟨OutP.none_ _ _ _, below_alloc (below_alloc (below_alloc (Below.refl _ _) _) _) _⟩
  · obtain ⟨t, rfl⟩ : ∃ t : Nat, thread = t := ⟨thread.toNat, by omega⟩
    have hd0 : decide ((t : Int) < 0) = false := decide_eq_false (by omega)
    by_cases h1 : th.length ≤ t
    · have hd1 : decide ((th.length : Int) ≤ (t : Int)) = true := decide_eq_true (by omega)
      have hd2 : decide (th.length ≤ t) = true := decide_eq_true h1
      clear hbad h0 h h1
      go_enter Try.func20, Try.ntmps20
      go_wp2_with fail
      refine bodyPost_ret (results_ct rfl _ _ (w.heap.size + 1 + 1) 57 zS (0, 0) _ rfl (by
        have h_ := blk_new ((w.alloc (Obj.cells #[.slice AC cs.length cC, .slice ASh sh.length cSh, .slice ATx tx.length cTx, .slice AT th.length cT, .slice AE en.length cE, .slice AS sa.length cS, .int .i64 asked, .int .i64 steps] 57)).alloc (Obj.cells #[.int .i64 xa, .int .i64 xs, .slice ASt sets.length cSt, .slice AM makes.length cM] 31)) (Obj.cells zS 57)
        rw [blk_size, blk_size] at h_
        exact h_) Try.underlying57 rfl (by kernel_rfl)) rfl ?_
      exact ⟨OutP.none_ _ _ _, below_alloc (below_alloc (below_alloc (Below.refl _ _) _) _) _⟩
    · have hd1 : decide ((th.length : Int) ≤ (t : Int)) = false := decide_eq_false (by omega)
      have hd2 : decide (th.length ≤ t) = false := decide_eq_false h1
      have hi0 : (0 : Int) ≤ (t : Int) := by omega
      have hi1 : (t : Int) < (th.length : Int) := by omega
      have hem : (rd_T62 th (t : Int)).f0 = [] := by
        rcases hbad with h2 | h2 | h2
        · omega
        · omega
        · exact h2
      obtain ⟨adT, AF, cF, eAT, x0, x1, x2, x3, x4, hfc, hfC⟩ := at_T62 (Kd.V_reads' h.h_th).2.2 (t : Int) hi0 hi1
      subst eAT
      rw [hem, Int.toNat_natCast] at x0
      have x0' := pw_cell_below (below_alloc (below_alloc (below_alloc (Below.refl _ _) (Obj.cells #[.slice AC cs.length cC, .slice ASh sh.length cSh, .slice ATx tx.length cTx, .slice (some adT) th.length cT, .slice AE en.length cE, .slice AS sa.length cS, .int .i64 asked, .int .i64 steps] 57)) (Obj.cells #[.int .i64 xa, .int .i64 xs, .slice ASt sets.length cSt, .slice AM makes.length cM] 31)) (Obj.cells #[.slice none 0 0, .slice none 0 0, .slice none 0 0, .slice none 0 0, .slice none 0 0, .slice none 0 0, .int .i64 0, .int .i64 0] 57)) x0
      clear x0 x1 x2 x3 x4 hfc hfC hbad h0 h h1 hem
      go_enter Try.func20, Try.ntmps20
      go_wp2_with fail
      refine bodyPost_ret (results_ct rfl _ _ (w.heap.size + 1 + 1) 57 zS (0, 0) _ rfl (by
        have h_ := blk_new ((w.alloc (Obj.cells #[.slice AC cs.length cC, .slice ASh sh.length cSh, .slice ATx tx.length cTx, .slice (some adT) th.length cT, .slice AE en.length cE, .slice AS sa.length cS, .int .i64 asked, .int .i64 steps] 57)).alloc (Obj.cells #[.int .i64 xa, .int .i64 xs, .slice ASt sets.length cSt, .slice AM makes.length cM] 31)) (Obj.cells zS 57)
        rw [blk_size, blk_size] at h_
        exact h_) Try.underlying57 rfl (by kernel_rfl)) rfl ?_
      exact ⟨OutP.none_ _ _ _, below_alloc (below_alloc (below_alloc (Below.refl _ _) _) _) _⟩
/-- The memory in which Out begins. -/
def outW (w : World) (sv xv : List Value) : World := ((w.alloc (Obj.cells sv.toArray 57)).alloc (Obj.cells xv.toArray 31)).alloc (Obj.cells zS 57)
theorem outW_below (w : World) (sv xv : List Value) : Below w.heap.size w (outW w sv xv) := below_alloc (below_alloc (below_alloc (Below.refl _ _) _) _) _
theorem outW_s (w : World) (sv xv : List Value) : (outW w sv xv).heap[w.heap.size]? = some (.cells sv.toArray 57 (0, 0)) := blk_alloc (blk_alloc (blk_new w _) _) _
theorem outW_x (w : World) (sv xv : List Value) : (outW w sv xv).heap[w.heap.size + 1]? = some (.cells xv.toArray 31 (0, 0)) := by
  have h_ := blk_new (w.alloc (Obj.cells sv.toArray 57)) (Obj.cells xv.toArray 31)
  rw [blk_size] at h_
  exact blk_alloc h_ _
theorem outW_r (w : World) (sv xv : List Value) : (outW w sv xv).heap[w.heap.size + 1 + 1]? = some (.cells zS 57 (0, 0)) := by
  have h_ := blk_new ((w.alloc (Obj.cells sv.toArray 57)).alloc (Obj.cells xv.toArray 31)) (Obj.cells zS 57)
  rw [blk_size, blk_size] at h_
  exact h_
/-- Threads, the m-th frame of one another. -/
def newTh (th : List Td) (thread m : Nat) (fn : Fm) : List Td := th.set thread ⟨(th.getD thread z62).f0.set m fn, (th.getD thread z62).f1, (th.getD thread z62).f2, (th.getD thread z62).f3⟩
set_option maxHeartbeats 16000000 in
set_option maxRecDepth 100000 in
theorem out_ok (w : World) (P : Nat → Prop) {AC : Option Addr} {cC : Nat} {cs : List S50} {ASh : Option Addr} {cSh : Nat} {sh : List S68} {ATx : Option Addr} {cTx : Nat} {tx : List ByteArray} {AT : Option Addr} {cT : Nat} {th : List Td} {AE : Option Addr} {cE : Nat} {en : List S71} {AS : Option Addr} {cS : Nat} {sa : List Vl} {asked steps xa xs : Int} {thread : Nat} {ASt : Option Addr} {cSt : Nat} {sets : List S34} {AM : Option Addr} {cM : Nat} {makes : List S46} {AV : Option Addr} {cV : Nat} {vals : List Vl}
    (h : OutI w P (AC := AC) (cC := cC) (cs := cs) (ASh := ASh) (cSh := cSh) (sh := sh) (ATx := ATx) (cTx := cTx) (tx := tx) (AT := AT) (cT := cT) (th := th) (AE := AE) (cE := cE) (en := en) (AS := AS) (cS := cS) (sa := sa) (ASt := ASt) (cSt := cSt) (sets := sets) (AM := AM) (cM := cM) (makes := makes) (AV := AV) (cV := cV) (vals := vals))
    (ht : thread < th.length) (hz : th.length ≤ 1048576) (hne : (rd_T62 th thread).f0 ≠ [])
    (kc : Nat) (cs' : List S50) (hcells : leave_Cells.f kc cs xa xs sets makes vals = some (cs', 0)) (hcl : api_Thread.f th = some th) (hk1 : api_Shape_47.f sh = some sh) (hk2 : slices_Clone_string_string.f tx = some tx) (hk3 : api_End_49.f en = some en) (hk4 : api_Val_40.f sa = some sa) (kf : Nat) (hfr : ∀ t ∈ th, leave_frames.f kf t.f0 = some t.f0)
    (m : Nat) (hm : (th.getD thread z62).f0.length = m + 1) (fm : Fm) (hfm : fm = (th.getD thread z62).f0.getD m z27) (kg : Nat) (fn : Fm) (ef : Int) (hframe : leave_Frame.f kg fm.f0 fm.f1 fm.f2 fm.f3 fm.f4.f0 fm.f4.f1 fm.f5 fm.f6 xa xs sets makes vals = some (fn.f0, fn.f1, fn.f2, fn.f3, fn.f4.f0, fn.f4.f1, fn.f5, fn.f6, ef)) :
    Calls Try.prog 20 #[.agg #[.slice AC cs.length cC, .slice ASh sh.length cSh, .slice ATx tx.length cTx, .slice AT th.length cT, .slice AE en.length cE, .slice AS sa.length cS, .int .i64 asked, .int .i64 steps], .int .i64 (thread : Int), .agg #[.int .i64 xa, .int .i64 xs, .slice ASt sets.length cSt, .slice AM makes.length cM], .slice AV vals.length cV] w fun e w' => (ef = 0 → OutP (fun k => P k ∨ w.heap.size ≤ k) w' e cs' sh tx (newTh th thread m fn) en sa asked (wrap64 (steps + xs)) 0) ∧ (ef ≠ 0 → OutP (fun k => P k ∨ w.heap.size ≤ k) w' e [] [] [] [] [] [] 0 0 ef) ∧ Below w.heap.size w w' := by
  have hd0 : decide ((thread : Int) < 0) = false := decide_eq_false (by omega)
  have hi0 : (0 : Int) ≤ (thread : Int) := by omega
  have hi1 : (thread : Int) < (th.length : Int) := by omega
  have hd1 : decide ((th.length : Int) ≤ (thread : Int)) = false := decide_eq_false (by omega)
  have hd2 : decide (th.length ≤ thread) = false := decide_eq_false (by omega)
  obtain ⟨sv, hsv⟩ : ∃ sv : List Value, sv = [.slice AC cs.length cC, .slice ASh sh.length cSh, .slice ATx tx.length cTx, .slice AT th.length cT, .slice AE en.length cE, .slice AS sa.length cS, .int .i64 asked, .int .i64 steps] := ⟨_, rfl⟩
  obtain ⟨xv, hxv⟩ : ∃ xv : List Value, xv = [.int .i64 xa, .int .i64 xs, .slice ASt sets.length cSt, .slice AM makes.length cM] := ⟨_, rfl⟩
  have HB3 := Aside0.mk (outW_below w sv xv)
  have HSB := Aside0.mk (outW_s w sv xv)
  have HXB := Aside0.mk (outW_x w sv xv)
  have HRB := Aside0.mk (outW_r w sv xv)
  obtain ⟨W3, hW3⟩ : ∃ W3, W3 = outW w sv xv := ⟨_, rfl⟩
  rw [← hW3] at HB3 HSB HXB HRB
  have hbig : outW w sv xv = ((w.alloc (Obj.cells #[.slice AC cs.length cC, .slice ASh sh.length cSh, .slice ATx tx.length cTx, .slice AT th.length cT, .slice AE en.length cE, .slice AS sa.length cS, .int .i64 asked, .int .i64 steps] 57)).alloc (Obj.cells #[.int .i64 xa, .int .i64 xs, .slice ASt sets.length cSt, .slice AM makes.length cM] 31)).alloc (Obj.cells #[.slice none 0 0, .slice none 0 0, .slice none 0 0, .slice none 0 0, .slice none 0 0, .slice none 0 0, .int .i64 0, .int .i64 0] 57) := by rw [hsv, hxv]; rfl
  rw [← hW3] at hbig
  rw [hsv] at HSB
  rw [hxv] at HXB
  have HWE := Aside0.mk hbig.symm
  have hT3 : Kd.V k62 62 W3 W3.heap.size (fun k => P k) (.slice AT th.length cT) th := Kd.V_below h.h_th HB3.out
  have hC3 : Kd.V k50 50 W3 W3.heap.size (fun k => P k) (.slice AC cs.length cC) cs := Kd.V_below h.h_cs HB3.out
  have hTc := (Kd.V_reads' hT3).2.2
  obtain ⟨adT, AF, cF, eAT, x0, x1, x2, x3, x4, hfc, hfC⟩ := at_T62 hTc (thread : Int) hi0 hi1
  subst eAT
  have hlen : 0 < (rd_T62 th thread).f0.length := List.length_pos_iff.2 hne
  have hq0 : (((rd_T62 th thread).f0.length : Int) == 0) = false := by simp; omega
  have hq1 : ((rd_T62 th thread).f0.length == 0) = false := by simp; omega
  have HT3 := Aside0.mk hT3
  have HI := Aside0.mk h
  have HFR := Aside0.mk hfr
  have HK1 := Aside0.mk hk1
  have HK2 := Aside0.mk hk2
  have HK3 := Aside0.mk hk3
  have HK4 := Aside0.mk hk4
  have HZN := Aside0.mk hz
  have HM := Aside0.mk hm
  have HFM := Aside0.mk hfm
  have HFC := Aside0.mk hframe
  have HCC := Aside0.mk (leave_Cells.calls kc P AC cC cs xa xs ASt cSt sets AM cM makes AV cV vals cs' 0 W3 hC3 (Kd.C_below h.h_st HB3.out) h.h_stc (Kd.C_below h.h_mks HB3.out) h.h_mksc (Kd.C_below h.h_va HB3.out) h.h_vac hcells)
  have s3 := (blk_cell HSB.out 3).trans rfl
  have s0 := (blk_cell HSB.out 0).trans rfl
  have X0 := (blk_cell HXB.out 0).trans rfl
  have X1 := (blk_cell HXB.out 1).trans rfl
  have X2 := (blk_cell HXB.out 2).trans rfl
  have X3 := (blk_cell HXB.out 3).trans rfl
  rw [Int.toNat_natCast] at x0
  have x0' := x0
  rw [hbig] at x0'
  subst hsv
  subst hxv
  clear x0 x1 x2 x3 x4 s3 s0 X0 X1 X2 X3 hW3 hbig
  clear hTc hT3 hC3 h hlen hne hcells hm hfm hframe
  go_enter Try.func20, Try.ntmps20
  go_wp2_with fail
  rw [HWE.out]
  refine HCC.out.mono ?_
  rintro e w4 ⟨v0, rfl, hN4, hb4⟩
  obtain ⟨A0, c0, e0⟩ := Kd.N_slice hN4
  subst e0
  have HN4 := Aside0.mk (Kd.N_bound hN4)
  have HB4 := Aside0.mk (below_step HB3.out hb4)
  have HSB4 := Aside0.mk (blk_below HSB.out hb4)
  have HXB4 := Aside0.mk (blk_below HXB.out hb4)
  have HRB4 := Aside0.mk (blk_below HRB.out hb4)
  have HT4 : Aside0 (Kd.V k62 62 w4 w4.heap.size (fun k => P k) (.slice (some adT) th.length cT) th) := ⟨Kd.V_below HT3.out hb4⟩
  have HCL := Aside0.mk (api_Thread.calls P (some adT) cT th th w4 HT4.out hcl)
  have HZ3 : Aside0 (w.heap.size + 1 + 1 < W3.heap.size) := ⟨blk_lt HRB.out⟩
  have HZ4 : Aside0 (W3.heap.size ≤ w4.heap.size) := ⟨hb4.size⟩
  have s3 := (blk_cell HSB4.out 3).trans rfl
  have f3 := blk_frozen HSB4.out 3
  clear hN4 hb4 HT3 HSB HXB HRB x0' HCC HB3 HWE
  go_wp2_with fail
  refine HCL.out.mono ?_
  rintro e w5 ⟨v1, rfl, hN5, hb5⟩
  obtain ⟨gT, capT, eT, hgT, hgT2, _⟩ := Kd.N_form hN5 (by omega)
  subst eT
  obtain ⟨ps0, hp0, hown0, hV0⟩ := threads_open (Kd.N_bound hN5)
  obtain ⟨P1, hP1⟩ : ∃ P1 : Nat → Prop, P1 = fun k => ((P k ∨ w4.heap.size ≤ k) ∧ k < w5.heap.size) ∧ some k ≠ (Value.slice (some ⟨gT, 0, none⟩) th.length capT).ownBlock := ⟨_, rfl⟩
  rw [← hP1] at hV0
  have HSB5 := Aside0.mk (blk_below HSB4.out hb5)
  have HZ5 : Aside0 (w4.heap.size ≤ w5.heap.size) := ⟨hb5.size⟩
  have HGT : Aside0 (w4.heap.size ≤ gT ∧ gT < w5.heap.size) := ⟨hgT, hgT2⟩
  have HB5 := Aside0.mk (below_step HB4.out hb5)
  have HPL : Aside0 (∀ k, P1 k → k < w5.heap.size ∧ k ≠ gT ∧ k ≠ w.heap.size ∧ k ≠ w.heap.size + 1 ∧ k ≠ w.heap.size + 1 + 1) := ⟨fun k hk => by
    rw [hP1] at hk
    obtain ⟨⟨h1, h2⟩, h3⟩ := hk
    have h4 : k ≠ gT := fun e => h3 (by rw [e]; rfl)
    have h5 := HZ3.out
    have h6 := HZ4.out
    refine ⟨h2, h4, ?_⟩
    rcases h1 with h1 | h1
    · have := HI.out.h_p k h1; omega
    · omega⟩
  have HPP : Aside0 (∀ k, P1 k → P k ∨ w.heap.size ≤ k) := ⟨fun k hk => by
    rw [hP1] at hk
    rcases hk.1.1 with h1 | h1
    · exact Or.inl h1
    · exact Or.inr (by have := HZ3.out; have := HZ4.out; omega)⟩
  obtain ⟨W6, hW6⟩ : ∃ W6, W6 = w5.setCell ⟨w.heap.size, 3, none⟩ (.slice (some ⟨gT, 0, none⟩) th.length capT) := ⟨_, rfl⟩
  have hk6 : ∀ k, k ≠ w.heap.size → W6.heap[k]? = w5.heap[k]? := fun k hk => by rw [hW6]; exact heap_setCell_other w5 ⟨w.heap.size, 3, none⟩ k _ hk
  have hz6 : W6.heap.size = w5.heap.size := by rw [hW6]; simp
  have HZ6 := Aside0.mk hz6
  have HB6 : Aside0 (Below w.heap.size w W6) := ⟨by rw [hW6]; exact HB5.out.setCell (p := ⟨w.heap.size, 3, none⟩) (Nat.le_refl _) _⟩
  have HSB6 : Aside0 (W6.heap[w.heap.size]? = some (.cells #[.slice AC cs.length cC, .slice ASh sh.length cSh, .slice ATx tx.length cTx, .slice (some ⟨gT, 0, none⟩) th.length capT, .slice AE en.length cE, .slice AS sa.length cS, .int .i64 asked, .int .i64 steps] 57 (0, 0))) := ⟨by rw [hW6]; simpa using blk_set HSB5.out 3 (.slice (some ⟨gT, 0, none⟩) th.length capT)⟩
  have HXB6 : Aside0 (W6.heap[w.heap.size + 1]? = some (.cells #[.int .i64 xa, .int .i64 xs, .slice ASt sets.length cSt, .slice AM makes.length cM] 31 (0, 0))) := ⟨(hk6 _ (by omega)).trans (blk_below HXB4.out hb5)⟩
  have HRB6 : Aside0 (W6.heap[w.heap.size + 1 + 1]? = some (.cells zS 57 (0, 0))) := ⟨(hk6 _ (by omega)).trans (blk_below HRB4.out hb5)⟩
  have HN6 : Aside0 (Kd.N k50 50 W6 W3.heap.size (fun k => (P k ∨ W3.heap.size ≤ k) ∧ k < w4.heap.size) (.slice A0 cs'.length c0) cs') := ⟨Kd.N_step (Kd.N_below HN4.out hb5) (fun k hk hlt => hk6 k (by
    have h5 := HZ3.out
    rcases hk.1 with h1 | h1
    · have := HI.out.h_p k h1; omega
    · omega))⟩
  have HOW6 : Aside0 (W6.ownsRow w4.heap.size 62 5 (.slice (some ⟨gT, 0, none⟩) th.length capT) th.length (cellsD ps0 th)) := ⟨own_same hown0 (fun k hk => hk6 k (by
    have e : k = gT := by simpa [Value.ownBlock] using hk.symm
    have h5 := HZ3.out
    have h6 := HZ4.out
    omega))⟩
  have HV6 : Aside0 (∀ i (hi : i < ps0.length) (hj : i < th.length), Kd.V k27 27 W6 0 P1 ps0[i] th[i].f0) := ⟨fun i hi hj => Kd.V_step (hV0 i hi hj) (fun k hk hlt => hk6 k (HPL.out k hk).2.2.1)⟩
  have s3 := (blk_cell HSB5.out 3).trans rfl
  have f3 := blk_frozen HSB5.out 3
  have HW6E := Aside0.mk hW6.symm
  have HP0 := Aside0.mk hp0
  clear hV0 hown0 hN5 hb5 hgT hgT2 HSB4 HXB4 HRB4 HT4 HCL HN4 hk6 hz6 hp0 HSB5 HB4 HB5 hW6
  go_wp2_with fail
  rw [HW6E.out]
  clear HW6E s3 f3
  go_loopg [55] th.length (fun kq v55 W => ∃ (i : Nat) (ps : List Value), v55 = .int .i64 (i : Int) ∧ Aside0 (i ≤ th.length ∧ kq = th.length - i) ∧ Aside0 (Cp W P1 w5.heap.size ps0 ps th i) ∧ Aside0 (W.ownsRow w4.heap.size 62 5 (.slice (some ⟨gT, 0, none⟩) th.length capT) th.length (cellsD ps th)) ∧ Aside0 (Fr (fun k => k = gT) W6 W))
  case atStart => exact ⟨0, ps0, rfl, ⟨Nat.zero_le _, by omega⟩, ⟨⟨HP0.out, fun j _ => rfl, fun _ => w5.heap.size, Nat.le_refl _, fun j hj => absurd hj (Nat.not_lt_zero _), by rw [HZ6.out]; exact Nat.le_refl _, fun j hj => absurd hj (Nat.not_lt_zero _)⟩⟩, HOW6, ⟨Fr.refl _ _⟩⟩
  case round =>
    obtain ⟨i, ps, rfl, HIQ, HCP, HOW, HF⟩ := hrel
    by_cases hlt : i < th.length
    · have hj0 : (0 : Int) ≤ (i : Int) := by omega
      have hj1 : (i : Int) < (th.length : Int) := by omega
      have hdec : decide ((i : Int) < (th.length : Int)) = true := decide_eq_true hj1
      have hdec2 : decide (i < th.length) = true := decide_eq_true hlt
      have HLT := Aside0.mk hlt
      have HW64 : Aside0 (wrap64 ((i : Int) + 1) = ((i + 1 : Nat) : Int)) := ⟨by have := HZN.out; have := HLT.out; unfold wrap64; omega⟩
      have hip : i < ps.length := by rw [HCP.out.len]; exact hlt
      have hip0 : i < ps0.length := by rw [HP0.out]; exact hlt
      have hpi : ps[i] = ps0[i] := by
        have h_ := HCP.out.rest i (Nat.le_refl _)
        rw [List.getElem?_eq_getElem hip, List.getElem?_eq_getElem hip0] at h_
        exact Option.some.inj h_
      obtain ⟨z0, z1, z2, z3, z4⟩ := own5_at HOW.out HCP.out.len i hlt
      rw [hpi] at z0
      have HVi : Aside0 (Kd.V k27 27 wr 0 P1 ps0[i] th[i].f0) := ⟨Kd.V_step (HV6.out i hip0 hlt) (fun k hk hlt2 => HF.out.blk k hlt2 (HPL.out k hk).2.1)⟩
      obtain ⟨Ai, ci, eVi⟩ := Kd.V_slice HVi.out
      rw [eVi] at z0 HVi
      have HFRi := Aside0.mk (HFR.out th[i] (List.getElem_mem hlt))
      have s3 : wr.cell? ⟨w.heap.size, 3, none⟩ = some (.slice (some ⟨gT, 0, none⟩) th.length capT) := (blk_cell (HF.out.obj HSB6.out (by have := HGT.out; have := HZ3.out; have := HZ4.out; omega)) 3).trans rfl
      have HSI := Aside0.mk (show (th.set i th[i]) = th from List.set_getElem_self hlt)
      have HCI := Aside0.mk (cellsD_set ps th i)
      generalize hfi : th[i].f0 = fi at z0 HVi HFRi
      generalize hy1 : th[i].f1 = y1 at z1
      generalize hy2 : th[i].f2 = y2 at z2
      generalize hy3 : th[i].f3.f0 = y3 at z3
      generalize hy4 : th[i].f3.f1 = y4 at z4
      have HFI := Aside0.mk hfi
      have hbx := below_alloc (Below.refl wr.heap.size wr) (Obj.cells #[.slice Ai fi.length ci, .int .i64 y1, .int .i64 y2, .int .i64 y3, .int .i64 y4] 62)
      have HBX := Aside0.mk hbx
      have c13 := (blk_cell (blk_new wr (Obj.cells #[.slice Ai fi.length ci, .int .i64 y1, .int .i64 y2, .int .i64 y3, .int .i64 y4] 62)) 0).trans rfl
      have s3x := pw_cell_below hbx s3
      clear eVi
      clear hbx hfi hy1 hy2 hy3 hy4 hpi hip hip0
      go_wp2_with fail
      refine start_ (n := 9) (S := fun w' => Below wr.heap.size wr w' ∧ w'.cell? ⟨w.heap.size, 3, none⟩ = some (.slice (some ⟨gT, 0, none⟩) th.length capT) ∧ w'.cell? ⟨wr.heap.size, 0, none⟩ = some (.slice Ai fi.length ci)) (ds := [8]) #[false, false, false, false, false, false, false, false, false] (by kernel_rfl) rfl rfl ⟨(below_step HBX.out (below_drew (Below.refl _ _))), s3x, c13⟩ (fun hHeld => ?_)
      refine pure_ (i := 0) (N := some 60) (v := ?_) (a' := ?_) #[true, false, false, false, false, false, false, false, false] rfl rfl (by kernel_rfl) (fun _ _ _ h => h) (Or.inl ⟨by rfl, ?_⟩) ?_ ?_
      rotate_left
      · intro w'
        go_simp
        with_reducible rfl
      rotate_left
      · simp only [Act.put, List.setIfInBounds_toArray, List.set_cons_zero, List.set_cons_succ, i64_w, i32_w]
        rfl
      refine pure_ (i := 2) (N := some 62) (v := ?_) (a' := ?_) #[true, false, true, false, false, false, false, false, false] rfl rfl (by kernel_rfl) (fun _ _ _ h => h) (Or.inl ⟨by rfl, ?_⟩) ?_ ?_
      rotate_left
      · intro w'
        go_simp
        with_reducible rfl
      rotate_left
      · simp only [Act.put, List.setIfInBounds_toArray, List.set_cons_zero, List.set_cons_succ, i64_w, i32_w]
        rfl
      refine pure_ (i := 3) (N := some 63) (v := ?_) (a' := ?_) #[true, false, true, true, false, false, false, false, false] rfl rfl (by kernel_rfl) (fun _ _ _ h => h) (Or.inl ⟨by rfl, ?_⟩) ?_ ?_
      rotate_left
      · intro w'
        go_simp
        with_reducible rfl
      rotate_left
      · simp only [Act.put, List.setIfInBounds_toArray, List.set_cons_zero, List.set_cons_succ, i64_w, i32_w]
        rfl
      refine take_ (i := 1) (N := some 61) (v := ?_) (a' := ?_) #[true, true, true, true, false, false, false, false, false] rfl rfl (by kernel_rfl) (fun _ _ _ h => h) (Or.inl ⟨by rfl, ?_⟩) hHeld ?_ ?_
      rotate_left
      · rintro w' ⟨s0, s1, s2⟩
        go_simp
        with_reducible rfl
      rotate_left
      · simp only [Act.put, List.setIfInBounds_toArray, List.set_cons_zero, List.set_cons_succ, i64_w, i32_w]
        rfl
      refine take_ (i := 4) (N := some 64) (v := ?_) (a' := ?_) #[true, true, true, true, true, false, false, false, false] rfl rfl (by kernel_rfl) (fun _ _ _ h => h) (Or.inl ⟨by rfl, ?_⟩) hHeld ?_ ?_
      rotate_left
      · rintro w' ⟨s0, s1, s2⟩
        go_simp
        with_reducible rfl
      rotate_left
      · simp only [Act.put, List.setIfInBounds_toArray, List.set_cons_zero, List.set_cons_succ, i64_w, i32_w]
        rfl
      refine one_ (i := 5) (N := some 65) #[true, true, true, true, true, true, false, false, false] rfl rfl (by kernel_rfl) (by decide) (fun K hK => ?_)
      refine goes_ Try.func46 (by kernel_rfl) rfl #[.slice Ai fi.length ci] (by rfl) rfl rfl (by simp only [List.map_toArray, List.map_cons, List.map_nil]; rfl) ?_
      with_reducible refine (leave_frames.calls kf P1 Ai ci fi fi _ (Kd.V_below HVi.out hHeld.1) HFRi.out).mono ?_
      rintro e w7 ⟨v7, rfl, hN7, hb7⟩
      refine ⟨_, rfl, ?_⟩
      obtain ⟨A7, c7, e7⟩ := Kd.N_slice hN7
      subst e7
      have HN7 := Aside0.mk hN7
      have HB7 := Aside0.mk (below_step hHeld.1 hb7)
      have HL7 := Aside0.mk hHeld.1.size
      clear hN7
      refine hK.out _ _ ⟨below_step hHeld.1 hb7, pw_cell_below hb7 hHeld.2.1, pw_cell_below hb7 hHeld.2.2⟩ (fun hHeld => ?_)
      clear hK K
      refine norm_ (a' := ?_) ?_ ?_
      rotate_left
      · show Act.put _ (some 65) _ = _
        simp only [Act.put, List.setIfInBounds_toArray, List.set_cons_zero, List.set_cons_succ, i64_w, i32_w]
        rfl
      refine pure_ (i := 6) (N := some 66) (v := ?_) (a' := ?_) #[true, true, true, true, true, true, true, false, false] rfl rfl (by kernel_rfl) (fun _ _ _ h => h) (Or.inl ⟨by rfl, ?_⟩) ?_ ?_
      rotate_left
      · intro w'
        go_simp
        with_reducible rfl
      rotate_left
      · simp only [Act.put, List.setIfInBounds_toArray, List.set_cons_zero, List.set_cons_succ, i64_w, i32_w]
        rfl
      refine pure_ (i := 7) (N := some 67) (v := ?_) (a' := ?_) #[true, true, true, true, true, true, true, true, false] rfl rfl (by kernel_rfl) (fun _ _ _ h => h) (Or.inl ⟨by rfl, ?_⟩) ?_ ?_
      rotate_left
      · intro w'
        go_simp
        with_reducible rfl
      rotate_left
      · simp only [Act.put, List.setIfInBounds_toArray, List.set_cons_zero, List.set_cons_succ, i64_w, i32_w]
        rfl
      refine last_ (i := 8) (N := none) #[true, true, true, true, true, true, true, true, true] rfl rfl (by kernel_rfl) (by decide) (fun K hK => ?_)
      have hz9 : w7.frozen? ⟨gT, i * 5, none⟩ = false := World.ownsRow.frozenAt (own_same HOW.out (fun k hk => HB7.out.block k ((HOW.out).lt k hk).2)) (i * 5)
      have hc9 := pw_cell_below HB7.out z0
      refine skip_ (w1 := ?_) (by rfl) rfl ?_ ?_
      rotate_left
      · go_simp
        rfl
      refine hK.out _ _ ?_
      clear hK K
      refine done_ (by kernel_rfl) ?_
      generalize hw8 : World.setCell w7 _ _ = w8
      have hk8 : ∀ k, k ≠ gT → w8.heap[k]? = w7.heap[k]? := fun k hk => by rw [← hw8]; exact heap_setCell_other w7 _ k _ hk
      have hz8 : w8.heap.size = w7.heap.size := by rw [← hw8]; simp
      have hz5 : w5.heap.size ≤ wr.heap.size := by have h_ := HF.out.size; rw [HZ6.out] at h_; exact h_
      have HCN : Aside0 (Cp w8 P1 w5.heap.size ps0 (ps.set i (.slice A7 fi.length c7)) th (i + 1)) := ⟨by
        refine HCP.out.next HLT.out (by rw [hz8]; exact HB7.out.size) (fun k hk hlt2 => ?_) HL7.out ?_
        · have hne : k ≠ gT := by
            rcases hk with hk | hk
            · exact (HPL.out k hk).2.1
            · have := HGT.out; omega
          exact (hk8 k hne).trans (HB7.out.block k hlt2)
        · rw [HFI.out]
          refine Kd.N_step HN7.out (fun k hk hlt2 => hk8 k ?_)
          rcases hk with hk | hk
          · exact (HPL.out k hk).2.1
          · have := HGT.out; have := HL7.out; omega⟩
      have HOW8 : Aside0 (w8.ownsRow w4.heap.size 62 5 (.slice (some ⟨gT, 0, none⟩) th.length capT) th.length (cellsD (ps.set i (.slice A7 fi.length c7)) th)) := ⟨by
        have h1 := (World.ownsRow.stored (own_same HOW.out (fun k hk => HB7.out.block k ((HOW.out).lt k hk).2)) (i * 5) (.slice A7 fi.length c7)).1
        rw [HCI.out _ HCP.out.len HLT.out] at h1
        rw [← hw8]
        exact h1⟩
      have HF8 : Aside0 (Fr (fun k => k = gT) W6 w8) := ⟨by
        rw [← hw8]
        exact (HF.out.below HB7.out).set (p := ⟨gT, i * 5, none⟩) (.inl rfl) _⟩
      clear hw8 hk8 hz8 hz5 hz9 hc9 z0 z1 z2 z3 z4 s3 s3x c13
      go_wp2_with fail
      go_roundg (th.length - (i + 1))
      case measure => have := HIQ.out; have := HLT.out; omega
      case rel => exact ⟨i + 1, _, by first | rfl | rw [HW64.out], ⟨by have := HLT.out; omega, rfl⟩, HCN, HOW8, HF8⟩
    · have e_ : i = th.length := by have := HIQ.out; omega
      subst e_
      have hdec : decide ((th.length : Int) < (th.length : Int)) = false := decide_eq_false (by omega)
      have hdec2 : decide (th.length < th.length) = false := decide_eq_false hlt
      obtain ⟨wo, rfl⟩ : ∃ wo, wo = wr := ⟨wr, rfl⟩
      have htp : thread < ps.length := by rw [HCP.out.len]; omega
      obtain ⟨z0, z1, z2, z3, z4⟩ := own5_at HOW.out HCP.out.len thread (by omega)
      have s3 : wo.cell? ⟨w.heap.size, 3, none⟩ = some (.slice (some ⟨gT, 0, none⟩) th.length capT) := (blk_cell (HF.out.obj HSB6.out (by have := HGT.out; have := HZ3.out; have := HZ4.out; omega)) 3).trans rfl
      have htl : thread < th.length := by omega
      have hgd : th.getD thread z62 = th[thread] := by rw [List.getD_eq_getElem?_getD, List.getElem?_eq_getElem htl]; rfl
      have hML : th[thread].f0.length = m + 1 := by rw [← hgd]; exact HM.out
      have hFM : fm = th[thread].f0.getD m z27 := by rw [← hgd]; exact HFM.out
      obtain ⟨bd, hbd0, hbd1, hbd2, hbd3⟩ := HCP.out.bd
      have hEl := hbd3 thread htl htp htl
      have hSet := cellsD_len
      obtain ⟨gl, cl, el, hgl0, hgl1, curl, hgl2⟩ := Kd.N_form hEl (by omega)
      unfold El at hEl
      rw [el] at z0 hEl
      have hfl0 : w5.heap.size ≤ gl := Nat.le_trans hbd0 (Nat.le_trans (bd_mono hbd1 (Nat.zero_le _) (Nat.le_of_lt htl)) hgl0)
      obtain ⟨c, hcl8, hFK, hcc, hcz⟩ := Kd.N_elem hEl z27 (m : Int) (by omega) (by omega)
      rw [Int.toNat_natCast, ← hFM] at hFK
      rw [Int.toNat_natCast] at hcc hcz
      obtain ⟨A6, c6, A7, c7, ec, hc6, hF6, hc7, hF7⟩ := k27_openF hFK
      subst ec
      have q0 := hcc 0 _ rfl
      have q1 := hcc 1 _ rfl
      have q2 := hcc 2 _ rfl
      have q3 := hcc 3 _ rfl
      have q4 := hcc 4 _ rfl
      have q5 := hcc 5 _ rfl
      have q6 := hcc 6 _ rfl
      have q7 := hcc 7 _ rfl
      have HEL := Aside0.mk hEl
      have HFF := Aside0.mk (And.intro hF6 hF7)
      have HCC2 := Aside0.mk (And.intro hc6 hc7)
      have HGL := Aside0.mk (And.intro hgl2 hfl0)
      have HXBo := Aside0.mk (HF.out.obj HXB6.out (by have := HGT.out; have := HZ3.out; have := HZ4.out; omega))
      have X0 := (blk_cell HXBo.out 0).trans rfl
      have X1 := (blk_cell HXBo.out 1).trans rfl
      have X2 := (blk_cell HXBo.out 2).trans rfl
      have X3 := (blk_cell HXBo.out 3).trans rfl
      have hwm : wrap64 ((th[thread].f0.length : Int) - 1) = (m : Int) := by
        rw [hML]
        have h_ := Kd.C_max (Kd.N_reads' hEl).2.2
        rw [hML] at h_
        unfold wrap64; omega
      have hml : (m : Int) < (th[thread].f0.length : Int) := by omega
      have hm0 : (0 : Int) ≤ (m : Int) := by omega
      have HBE := Aside0.mk hbd3
      have HBM := Aside0.mk hbd1
      have HML := Aside0.mk hML
      clear hML
      have HBo : Aside0 (Below w.heap.size w wo) := ⟨HB6.out.trans (HF.out.to_below (by have := HZ6.out; have := HZ5.out; have := HZ4.out; have := HZ3.out; omega) (fun k hk => by have := HGT.out; have := HZ4.out; have := HZ3.out; omega))⟩
      clear hlt HIQ hgd hFM hSet hcc hcl8 hFK hF6 hF7 hc6 hc7 hgl2 hfl0 hEl hbd3
      go_wp2_with fail
      refine start_ (n := 15) (S := fun w' => Below wo.heap.size wo w' ∧ w'.cell? ⟨gl, m * 8, none⟩ = some (.int .i64 fm.f0) ∧ w'.cell? ⟨gl, m * 8 + 1, none⟩ = some (.int .i64 fm.f1) ∧ w'.cell? ⟨gl, m * 8 + 2, none⟩ = some (.int .i64 fm.f2) ∧ w'.cell? ⟨gl, m * 8 + 3, none⟩ = some (.int .i64 fm.f3) ∧ w'.cell? ⟨gl, m * 8 + 4, none⟩ = some (.int .i64 fm.f4.f0) ∧ w'.cell? ⟨gl, m * 8 + 5, none⟩ = some (.int .i64 fm.f4.f1) ∧ w'.cell? ⟨gl, m * 8 + 6, none⟩ = some (.slice A6 fm.f5.length c6) ∧ w'.cell? ⟨gl, m * 8 + 7, none⟩ = some (.slice A7 fm.f6.length c7) ∧ w'.cell? ⟨w.heap.size + 1, 0, none⟩ = some (.int .i64 xa) ∧ w'.cell? ⟨w.heap.size + 1, 1, none⟩ = some (.int .i64 xs) ∧ w'.cell? ⟨w.heap.size + 1, 2, none⟩ = some (.slice ASt sets.length cSt) ∧ w'.cell? ⟨w.heap.size + 1, 3, none⟩ = some (.slice AM makes.length cM)) (ds := [13]) #[false, false, false, false, false, false, false, false, false, false, false, false, false, false, false] (by kernel_rfl) rfl rfl ⟨(below_drew (Below.refl _ _)), q0, q1, q2, q3, q4, q5, q6, q7, X0, X1, X2, X3⟩ (fun hHeld => ?_)
      refine pure_ (i := 0) (N := some 79) (v := ?_) (a' := ?_) #[true, false, false, false, false, false, false, false, false, false, false, false, false, false, false] rfl rfl (by kernel_rfl) (fun _ _ _ h => h) (Or.inl ⟨by rfl, ?_⟩) ?_ ?_
      rotate_left
      · intro w'
        go_simp
        with_reducible rfl
      rotate_left
      · simp only [Act.put, List.setIfInBounds_toArray, List.set_cons_zero, List.set_cons_succ, i64_w, i32_w]
        rfl
      refine pure_ (i := 1) (N := some 80) (v := ?_) (a' := ?_) #[true, true, false, false, false, false, false, false, false, false, false, false, false, false, false] rfl rfl (by kernel_rfl) (fun _ _ _ h => h) (Or.inl ⟨by rfl, ?_⟩) ?_ ?_
      rotate_left
      · intro w'
        go_simp
        with_reducible rfl
      rotate_left
      · simp only [Act.put, List.setIfInBounds_toArray, List.set_cons_zero, List.set_cons_succ, i64_w, i32_w]
        rfl
      refine pure_ (i := 2) (N := some 81) (v := ?_) (a' := ?_) #[true, true, true, false, false, false, false, false, false, false, false, false, false, false, false] rfl rfl (by kernel_rfl) (fun _ _ _ h => h) (Or.inl ⟨by rfl, ?_⟩) ?_ ?_
      rotate_left
      · intro w'
        go_simp
        with_reducible rfl
      rotate_left
      · simp only [Act.put, List.setIfInBounds_toArray, List.set_cons_zero, List.set_cons_succ, i64_w, i32_w]
        rfl
      refine pure_ (i := 3) (N := some 82) (v := ?_) (a' := ?_) #[true, true, true, true, false, false, false, false, false, false, false, false, false, false, false] rfl rfl (by kernel_rfl) (fun _ _ _ h => h) (Or.inl ⟨by rfl, ?_⟩) ?_ ?_
      rotate_left
      · intro w'
        go_simp
        with_reducible rfl
      rotate_left
      · simp only [Act.put, List.setIfInBounds_toArray, List.set_cons_zero, List.set_cons_succ, i64_w, i32_w]
        rfl
      refine pure_ (i := 4) (N := some 83) (v := ?_) (a' := ?_) #[true, true, true, true, true, false, false, false, false, false, false, false, false, false, false] rfl rfl (by kernel_rfl) (fun _ _ _ h => h) (Or.inl ⟨by rfl, ?_⟩) ?_ ?_
      rotate_left
      · intro w'
        go_simp
        with_reducible rfl
      rotate_left
      · simp only [Act.put, List.setIfInBounds_toArray, List.set_cons_zero, List.set_cons_succ, i64_w, i32_w]
        rfl
      refine pure_ (i := 7) (N := some 86) (v := ?_) (a' := ?_) #[true, true, true, true, true, false, false, true, false, false, false, false, false, false, false] rfl rfl (by kernel_rfl) (fun _ _ _ h => h) (Or.inl ⟨by rfl, ?_⟩) ?_ ?_
      rotate_left
      · intro w'
        go_simp
        with_reducible rfl
      rotate_left
      · simp only [Act.put, List.setIfInBounds_toArray, List.set_cons_zero, List.set_cons_succ, i64_w, i32_w]
        rfl
      refine take_ (i := 5) (N := some 84) (v := ?_) (a' := ?_) #[true, true, true, true, true, true, false, true, false, false, false, false, false, false, false] rfl rfl (by kernel_rfl) (fun _ _ _ h => h) (Or.inl ⟨by rfl, ?_⟩) hHeld ?_ ?_
      rotate_left
      · rintro w' ⟨s0, s1, s2, s3, s4, s5, s6, s7, s8, s9, s10, s11, s12⟩
        go_simp
        with_reducible rfl
      rotate_left
      · simp only [Act.put, List.setIfInBounds_toArray, List.set_cons_zero, List.set_cons_succ, i64_w, i32_w]
        rfl
      refine take_ (i := 6) (N := some 85) (v := ?_) (a' := ?_) #[true, true, true, true, true, true, true, true, false, false, false, false, false, false, false] rfl rfl (by kernel_rfl) (fun _ _ _ h => h) (Or.inl ⟨by rfl, ?_⟩) hHeld ?_ ?_
      rotate_left
      · rintro w' ⟨s0, s1, s2, s3, s4, s5, s6, s7, s8, s9, s10, s11, s12⟩
        go_simp
        with_reducible rfl
      rotate_left
      · simp only [Act.put, List.setIfInBounds_toArray, List.set_cons_zero, List.set_cons_succ, i64_w, i32_w]
        rfl
      refine one_ (i := 8) (N := some 87) #[true, true, true, true, true, true, true, true, true, false, false, false, false, false, false] rfl rfl (by kernel_rfl) (by decide) (fun K hK => ?_)
      refine goes_ Try.func16 (by kernel_rfl) rfl #[.agg #[.int .i64 fm.f0, .int .i64 fm.f1, .int .i64 fm.f2, .int .i64 fm.f3, .int .i64 fm.f4.f0, .int .i64 fm.f4.f1, .slice A6 fm.f5.length c6, .slice A7 fm.f6.length c7], .agg #[.int .i64 xa, .int .i64 xs, .slice ASt sets.length cSt, .slice AM makes.length cM], .slice AV vals.length cV] (by rfl) rfl rfl (by simp only [List.map_toArray, List.map_cons, List.map_nil]; rfl) ?_
      with_reducible refine (leave_Frame.calls kg fm.f0 fm.f1 fm.f2 fm.f3 fm.f4.f0 fm.f4.f1 A6 c6 fm.f5 A7 c7 fm.f6 xa xs ASt cSt sets AM cM makes AV cV vals fn.f0 fn.f1 fn.f2 fn.f3 fn.f4.f0 fn.f4.f1 fn.f5 fn.f6 ef _ (Kd.C_below (Kd.F_now HFF.out.1) hHeld.1) HCC2.out.1 (Kd.C_below (Kd.F_now HFF.out.2) hHeld.1) HCC2.out.2 (Kd.C_below HI.out.h_st (below_step HBo.out hHeld.1)) HI.out.h_stc (Kd.C_below HI.out.h_mks (below_step HBo.out hHeld.1)) HI.out.h_mksc (Kd.C_below HI.out.h_va (below_step HBo.out hHeld.1)) HI.out.h_vac HFC.out).mono ?_
      rintro e w9 ⟨v6, v7, rfl, hR6, hR7, hb9⟩
      refine ⟨_, rfl, ?_⟩
      obtain ⟨B6, d6, e6⟩ := Kd.R_slice hR6
      subst e6
      obtain ⟨B7, d7, e7⟩ := Kd.R_slice hR7
      subst e7
      have HR6 := Aside0.mk hR6
      have HR7 := Aside0.mk hR7
      have HB9 := Aside0.mk (below_step hHeld.1 hb9)
      have HL9 := Aside0.mk hHeld.1.size
      clear hR6 hR7
      refine hK.out _ _ ⟨below_step hHeld.1 hb9, pw_cell_below hb9 hHeld.2.1, pw_cell_below hb9 hHeld.2.2.1, pw_cell_below hb9 hHeld.2.2.2.1, pw_cell_below hb9 hHeld.2.2.2.2.1, pw_cell_below hb9 hHeld.2.2.2.2.2.1, pw_cell_below hb9 hHeld.2.2.2.2.2.2.1, pw_cell_below hb9 hHeld.2.2.2.2.2.2.2.1, pw_cell_below hb9 hHeld.2.2.2.2.2.2.2.2.1, pw_cell_below hb9 hHeld.2.2.2.2.2.2.2.2.2.1, pw_cell_below hb9 hHeld.2.2.2.2.2.2.2.2.2.2.1, pw_cell_below hb9 hHeld.2.2.2.2.2.2.2.2.2.2.2.1, pw_cell_below hb9 hHeld.2.2.2.2.2.2.2.2.2.2.2.2⟩ (fun hHeld => ?_)
      clear hK K
      refine norm_ (a' := ?_) ?_ ?_
      rotate_left
      · show Act.put _ (some 87) _ = _
        simp only [Act.put, List.setIfInBounds_toArray, List.set_cons_zero, List.set_cons_succ, i64_w, i32_w]
        rfl
      refine pure_ (i := 9) (N := some 78) (v := ?_) (a' := ?_) #[true, true, true, true, true, true, true, true, true, true, false, false, false, false, false] rfl rfl (by kernel_rfl) (fun _ _ _ h => h) (Or.inl ⟨by rfl, ?_⟩) ?_ ?_
      rotate_left
      · intro w'
        go_simp
        with_reducible rfl
      rotate_left
      · simp only [Act.put, List.setIfInBounds_toArray, List.set_cons_zero, List.set_cons_succ, i64_w, i32_w]
        rfl
      refine pure_ (i := 10) (N := some 88) (v := ?_) (a' := ?_) #[true, true, true, true, true, true, true, true, true, true, true, false, false, false, false] rfl rfl (by kernel_rfl) (fun _ _ _ h => h) (Or.inl ⟨by rfl, ?_⟩) ?_ ?_
      rotate_left
      · intro w'
        go_simp
        with_reducible rfl
      rotate_left
      · simp only [Act.put, List.setIfInBounds_toArray, List.set_cons_zero, List.set_cons_succ, i64_w, i32_w]
        rfl
      refine pure_ (i := 11) (N := some 89) (v := ?_) (a' := ?_) #[true, true, true, true, true, true, true, true, true, true, true, true, false, false, false] rfl rfl (by kernel_rfl) (fun _ _ _ h => h) (Or.inl ⟨by rfl, ?_⟩) ?_ ?_
      rotate_left
      · intro w'
        go_simp
        with_reducible rfl
      rotate_left
      · simp only [Act.put, List.setIfInBounds_toArray, List.set_cons_zero, List.set_cons_succ, i64_w, i32_w]
        rfl
      refine pure_ (i := 12) (N := some 90) (v := ?_) (a' := ?_) #[true, true, true, true, true, true, true, true, true, true, true, true, true, false, false] rfl rfl (by kernel_rfl) (fun _ _ _ h => h) (Or.inl ⟨by rfl, ?_⟩) ?_ ?_
      rotate_left
      · intro w'
        go_simp
        with_reducible rfl
      rotate_left
      · simp only [Act.put, List.setIfInBounds_toArray, List.set_cons_zero, List.set_cons_succ, i64_w, i32_w]
        rfl
      refine last_ (i := 13) (N := none) #[true, true, true, true, true, true, true, true, true, true, true, true, true, true, false] rfl rfl (by kernel_rfl) (by decide) (fun K hK => ?_)
      have u0 := hHeld.2.1
      have u1 := hHeld.2.2.1
      have u2 := hHeld.2.2.2.1
      have u3 := hHeld.2.2.2.2.1
      have u4 := hHeld.2.2.2.2.2.1
      have u5 := hHeld.2.2.2.2.2.2.1
      have u6 := hHeld.2.2.2.2.2.2.2.1
      have u7 := hHeld.2.2.2.2.2.2.2.2.1
      have y0 := blk_frozen (blk_below HGL.out.1 HB9.out) (m * 8)
      have y1 := blk_frozen (blk_below HGL.out.1 HB9.out) (m * 8 + 1)
      have y2 := blk_frozen (blk_below HGL.out.1 HB9.out) (m * 8 + 2)
      have y3 := blk_frozen (blk_below HGL.out.1 HB9.out) (m * 8 + 3)
      have y4 := blk_frozen (blk_below HGL.out.1 HB9.out) (m * 8 + 4)
      have y5 := blk_frozen (blk_below HGL.out.1 HB9.out) (m * 8 + 5)
      have y6 := blk_frozen (blk_below HGL.out.1 HB9.out) (m * 8 + 6)
      have y7 := blk_frozen (blk_below HGL.out.1 HB9.out) (m * 8 + 7)
      refine skip_ (w1 := ?_) (by rfl) rfl ?_ ?_
      rotate_left
      · go_simp
        rfl
      refine hK.out _ _ ?_
      clear hK K
      refine pure_ (i := 14) (N := some 11) (v := ?_) (a' := ?_) #[true, true, true, true, true, true, true, true, true, true, true, true, true, true, true] rfl rfl (by kernel_rfl) (fun _ _ _ h => h) (Or.inl ⟨by rfl, ?_⟩) ?_ ?_
      rotate_left
      · intro w'
        go_simp
        with_reducible rfl
      rotate_left
      · simp only [Act.put, List.setIfInBounds_toArray, List.set_cons_zero, List.set_cons_succ, i64_w, i32_w]
        rfl
      refine done_ (by kernel_rfl) ?_
      generalize hwa : World.setCell (World.setCell (World.setCell (World.setCell (World.setCell (World.setCell (World.setCell (World.setCell w9 _ _) _ _) _ _) _ _) _ _) _ _) _ _) _ _ = wa
      have hset : w9.setCells gl ((m : Int).toNat * (k27 : Kd Fm).sz + 0) [.int .i64 fn.f0, .int .i64 fn.f1, .int .i64 fn.f2, .int .i64 fn.f3, .int .i64 fn.f4.f0, .int .i64 fn.f4.f1, .slice B6 fn.f5.length d6, .slice B7 fn.f6.length d7] = wa := by rw [← hwa]; rfl
      have hin : bd thread ≤ gl ∧ gl < bd (thread + 1) := by
        rcases HEL.out.1 gl rfl with h1 | h1
        · have := (HPL.out gl h1).1; have := HGL.out.2; omega
        · exact h1
      have hbig : ∀ j, j ≤ th.length → w5.heap.size ≤ bd j := fun j hj => Nat.le_trans hbd0 (bd_mono HBM.out (Nat.zero_le _) hj)
      have N9 := Kd.N_mono (ok' := fun k => (P1 k ∨ (bd thread ≤ k ∧ k < bd (thread + 1))) ∨ wo.heap.size ≤ k) (Kd.N_below HEL.out HB9.out) (fun k hk => .inl hk)
      obtain ⟨c9, hcl9, _, hcc9, _⟩ := Kd.N_elem N9 z27 (m : Int) (by omega) (by have := HML.out; omega)
      have hM9 : Kd.FK k27 w9 (fun k => wo.heap.size ≤ k) fn [.int .i64 fn.f0, .int .i64 fn.f1, .int .i64 fn.f2, .int .i64 fn.f3, .int .i64 fn.f4.f0, .int .i64 fn.f4.f1, .slice B6 fn.f5.length d6, .slice B7 fn.f6.length d7] :=
        k27_mkF w9 _ fn (Kd.R_reads' HR6.out).2.1 (Kd.R_F (Kd.R_mono (Kd.R_bound HR6.out) (fun k hk => Nat.le_trans HL9.out hk.2.1))) (Kd.R_reads' HR7.out).2.1 (Kd.R_F (Kd.R_mono (Kd.R_bound HR7.out) (fun k hk => Nat.le_trans HL9.out hk.2.1)))
      have e9 : c9.take 0 ++ [Value.int .i64 fn.f0, .int .i64 fn.f1, .int .i64 fn.f2, .int .i64 fn.f3, .int .i64 fn.f4.f0, .int .i64 fn.f4.f1, .slice B6 fn.f5.length d6, .slice B7 fn.f6.length d7] ++ c9.drop (0 + 8) = [Value.int .i64 fn.f0, .int .i64 fn.f1, .int .i64 fn.f2, .int .i64 fn.f3, .int .i64 fn.f4.f0, .int .i64 fn.f4.f1, .slice B6 fn.f5.length d6, .slice B7 fn.f6.length d7] := by
        rw [List.take_zero, List.nil_append, List.drop_eq_nil_of_le (by rw [hcl9]; exact Nat.le_refl _), List.append_nil]
      obtain ⟨hNw, hgw⟩ := Kd.N_seg N9 (m : Int) (by omega) (by have := HML.out; omega) (c := c9) (j := 0) hcl9 hcc9 (Nat.le_refl _) (x' := fn) (okp := fun k => wo.heap.size ≤ k) (by show Kd.FK _ _ _ _ (c9.take 0 ++ [Value.int .i64 fn.f0, .int .i64 fn.f1, .int .i64 fn.f2, .int .i64 fn.f3, .int .i64 fn.f4.f0, .int .i64 fn.f4.f1, .slice B6 fn.f5.length d6, .slice B7 fn.f6.length d7] ++ c9.drop (0 + 8)); rw [e9]; exact hM9) (fun k hk => ⟨.inr hk, fun e => by have := hgl1; omega⟩)
      rw [hset] at hNw hgw
      rw [Int.toNat_natCast] at hNw
      have hkz : ∀ k, w5.heap.size ≤ k → OkO P w.heap.size k := fun k hk => ⟨by have := HZ3.out; have := HZ4.out; have := HZ5.out; omega, Or.inr (by have := HZ3.out; have := HZ4.out; have := HZ5.out; omega)⟩
      have hgTl : gT ≠ gl := by have := HGT.out; have := HGL.out.2; omega
      have HTZ : Aside0 (Tz wa (OkO P w.heap.size) gT capT th.length ps (th.set thread ⟨th[thread].f0.set m fn, th[thread].f1, th[thread].f2, th[thread].f3⟩)) := ⟨by
        refine ⟨?_, by rw [List.length_set]; exact HCP.out.len, by rw [List.length_set], ⟨by have := HGT.out; have := HZ3.out; have := HZ4.out; omega, Or.inr (by have := HGT.out; have := HZ3.out; have := HZ4.out; omega)⟩, fun j h1 h2 => ?_⟩
        · rw [cellsD_f0]
          refine own_weaken (own_same (own_same HOW.out (fun k hk => HB9.out.block k ((HOW.out).lt k hk).2)) (fun k hk => hgw.block k ?_ ?_)) (Nat.zero_le _)
          · exact Nat.lt_of_lt_of_le ((HOW.out).lt k hk).2 HB9.out.size
          · intro e
            have e2 : k = gT := by simpa [Value.ownBlock] using hk.symm
            exact hgTl (by rw [← e2]; injection e)
        · by_cases ej : thread = j
          · subst ej
            have e3 : (th.set thread ⟨th[thread].f0.set m fn, th[thread].f1, th[thread].f2, th[thread].f3⟩)[thread].f0 = th[thread].f0.set m fn := by rw [List.getElem_set_self]
            rw [e3, el]
            refine Kd.N_lower (Kd.N_mono hNw (fun k hk => ?_)) (Nat.zero_le _)
            rcases hk with (hk | hk) | hk
            · have := HPL.out k hk; exact ⟨⟨this.2.2.1, this.2.2.2.2⟩, HPP.out k hk⟩
            · exact hkz k (Nat.le_trans (hbig thread (Nat.le_of_lt htl)) hk.1)
            · exact hkz k (by have h_ := HF.out.size; rw [HZ6.out] at h_; omega)
          · have h2' : j < th.length := by simpa using h2
            have e3 : (th.set thread ⟨th[thread].f0.set m fn, th[thread].f1, th[thread].f2, th[thread].f3⟩)[j].f0 = th[j].f0 := by rw [List.getElem_set_ne ej]
            rw [e3]
            have hE := HBE.out j h2' h1 h2'
            unfold El at hE
            refine Kd.N_lower (Kd.N_mono (Kd.N_grown (Kd.N_below hE HB9.out) hgw (fun k hk => ?_)) (fun k hk => ?_)) (Nat.zero_le _)
            · intro e
              injection e with e
              subst e
              rcases hk with hk | hk
              · have := (HPL.out k hk).1; have := HGL.out.2; omega
              · rcases Nat.lt_or_ge j thread with h5 | h5
                · have := bd_mono HBM.out (a := j + 1) (b := thread) h5 (Nat.le_of_lt htl); omega
                · have := bd_mono HBM.out (a := thread + 1) (b := j) (by omega) (Nat.le_of_lt h2'); omega
            · rcases hk with hk | hk
              · have := HPL.out k hk; exact ⟨⟨this.2.2.1, this.2.2.2.2⟩, HPP.out k hk⟩
              · exact hkz k (Nat.le_trans (hbig j (Nat.le_of_lt h2')) hk.1)⟩
      have hka : ∀ k, k < wo.heap.size → k ≠ gl → wa.heap[k]? = wo.heap[k]? := fun k hk hn => (hgw.block k (Nat.lt_of_lt_of_le hk HB9.out.size) (fun e => hn (by injection e))).trans (HB9.out.block k hk)
      have hgz := hkz gl HGL.out.2
      have HBa : Aside0 (Below w.heap.size w wa) := ⟨(below_step HBo.out HB9.out).trans ⟨hgw.os, hgw.tape, hgw.output, hgw.size, fun k hk => hgw.block k (by have := HBo.out.size; have := HB9.out.size; omega) (fun e => by injection e with e; have := HGL.out.2; have := HZ3.out; have := HZ4.out; have := HZ5.out; omega)⟩⟩
      have HNa : Aside0 (Kd.N k50 50 wa 0 (OkO P w.heap.size) (.slice A0 cs'.length c0) cs') := ⟨by
        have h1 := Kd.N_step (w1 := wo) HN6.out (fun k hk hlt => HF.out.blk k hlt (fun e => by have := hk.2; have := HGT.out; omega))
        have h2 := Kd.N_step (w1 := wa) h1 (fun k hk hlt => hka k hlt (by have := hk.2; have := HGL.out.2; have := HZ5.out; omega))
        refine Kd.N_lower (Kd.N_mono h2 (fun k hk => ?_)) (Nat.zero_le _)
        rcases hk.1 with h3 | h3
        · exact ⟨by have := HI.out.h_p k h3; omega, Or.inl h3⟩
        · exact ⟨by have := HZ3.out; omega, Or.inr (by have := HZ3.out; omega)⟩⟩
      have hlo : w.heap.size < wo.heap.size ∧ w.heap.size + 1 < wo.heap.size ∧ w.heap.size + 1 + 1 < wo.heap.size := by have h_ := HF.out.size; rw [HZ6.out] at h_; have := HZ3.out; have := HZ4.out; have := HZ5.out; omega
      have HSBa : Aside0 (wa.heap[w.heap.size]? = some (.cells #[.slice AC cs.length cC, .slice ASh sh.length cSh, .slice ATx tx.length cTx, .slice (some ⟨gT, 0, none⟩) th.length capT, .slice AE en.length cE, .slice AS sa.length cS, .int .i64 asked, .int .i64 steps] 57 (0, 0))) := ⟨(hka _ hlo.1 (Ne.symm hgz.1.1)).trans (HF.out.obj HSB6.out (by have := HGT.out; have := HZ3.out; have := HZ4.out; omega))⟩
      have HRBa : Aside0 (wa.heap[w.heap.size + 1 + 1]? = some (.cells zS 57 (0, 0))) := ⟨(hka _ hlo.2.2 (Ne.symm hgz.1.2)).trans (HF.out.obj HRB6.out (by have := HGT.out; have := HZ3.out; have := HZ4.out; omega))⟩
      have HXBa : Aside0 (wa.heap[w.heap.size + 1]? = some (.cells #[.int .i64 xa, .int .i64 xs, .slice ASt sets.length cSt, .slice AM makes.length cM] 31 (0, 0))) := ⟨(hka _ hlo.2.1 (by have := HGL.out.2; have := HZ3.out; have := HZ4.out; have := HZ5.out; omega)).trans HXBo.out⟩
      have HNT : Aside0 (newTh th thread m fn = th.set thread ⟨th[thread].f0.set m fn, th[thread].f1, th[thread].f2, th[thread].f3⟩) := ⟨by unfold newTh; rw [List.getD_eq_getElem?_getD, List.getElem?_eq_getElem htl]; rfl⟩
      rw [← HNT.out] at HTZ
      have HAB : Aside0 (w.heap.size + 1 + 1 < wa.heap.size) := ⟨by have := HB9.out.size; have := hgw.size; omega⟩
      generalize A0 = AN at HNa ⊢
      clear hset hin hbig N9 hcc9 hcl9 hM9 e9 hNw hgw hkz hgTl hka hgz hlo hwa q0 q1 q2 q3 q4 q5 q6 q7 X0 X1 X2 X3 z0 z1 z2 z3 z4 s3 hHeld hb9 hwm hml hbd0 hbd2 el HEL HFF HGL HR6 HR7 HB9 HL9 HBE HBM HCP HOW HF HV6 HOW6 HSB6 HRB6 HXB6 HXBo HN6 HFC
      by_cases hef : ef = 0
      · subst hef
        have hee : ((0 : Int) != 0) = false := by decide
        go_wp2_with fail
        have HSBd : Aside0 (wa.drew.heap[w.heap.size]? = some (.cells #[.slice AC cs.length cC, .slice ASh sh.length cSh, .slice ATx tx.length cTx, .slice (some ⟨gT, 0, none⟩) th.length capT, .slice AE en.length cE, .slice AS sa.length cS, .int .i64 asked, .int .i64 steps] 57 (0, 0))) := HSBa
        have HXBd : Aside0 (wa.drew.heap[w.heap.size + 1]? = some (.cells #[.int .i64 xa, .int .i64 xs, .slice ASt sets.length cSt, .slice AM makes.length cM] 31 (0, 0))) := HXBa
        have HRBd : Aside0 (wa.drew.heap[w.heap.size + 1 + 1]? = some (.cells zS 57 (0, 0))) := HRBa
        have HTZd : Aside0 (Tz wa.drew (OkO P w.heap.size) gT capT th.length ps (newTh th thread m fn)) := ⟨HTZ.out.step (fun _ _ _ => rfl)⟩
        have HBd : Aside0 (Below w.heap.size w wa.drew) := ⟨HBa.out.trans (below_drew (Below.refl _ _))⟩
        have HNd : Aside0 (Kd.N k50 50 wa.drew 0 (OkO P w.heap.size) (.slice AN cs'.length c0) cs') := ⟨Kd.N_drew HNa.out⟩
        have HABd : Aside0 (w.heap.size + 1 + 1 < wa.drew.heap.size) := HAB
        refine start_ (n := 10) (S := fun w' => w'.cell? ⟨w.heap.size, 7, none⟩ = some (.int .i64 steps) ∧ w'.cell? ⟨w.heap.size + 1, 1, none⟩ = some (.int .i64 xs)) (ds := [9]) #[false, false, false, false, false, false, false, false, false, false] (by kernel_rfl) rfl rfl ⟨(blk_cell HSBd.out 7), (blk_cell HXBd.out 1)⟩ (fun hHeld => ?_)
        generalize wa.drew = wb at hHeld HSBd HXBd HRBd HTZd HBd HNd HABd ⊢
        refine pure_ (i := 0) (N := some 95) (v := ?_) (a' := ?_) #[true, false, false, false, false, false, false, false, false, false] rfl rfl (by kernel_rfl) (fun _ _ _ h => h) (Or.inl ⟨by rfl, ?_⟩) ?_ ?_
        rotate_left
        · intro w'
          go_simp
          with_reducible rfl
        rotate_left
        · simp only [Act.put, List.setIfInBounds_toArray, List.set_cons_zero, List.set_cons_succ, i64_w, i32_w]
          rfl
        refine pure_ (i := 1) (N := some 96) (v := ?_) (a' := ?_) #[true, true, false, false, false, false, false, false, false, false] rfl rfl (by kernel_rfl) (fun _ _ _ h => h) (Or.inl ⟨by rfl, ?_⟩) ?_ ?_
        rotate_left
        · intro w'
          go_simp
          with_reducible rfl
        rotate_left
        · simp only [Act.put, List.setIfInBounds_toArray, List.set_cons_zero, List.set_cons_succ, i64_w, i32_w]
          rfl
        refine pure_ (i := 3) (N := some 98) (v := ?_) (a' := ?_) #[true, true, false, true, false, false, false, false, false, false] rfl rfl (by kernel_rfl) (fun _ _ _ h => h) (Or.inl ⟨by rfl, ?_⟩) ?_ ?_
        rotate_left
        · intro w'
          go_simp
          with_reducible rfl
        rotate_left
        · simp only [Act.put, List.setIfInBounds_toArray, List.set_cons_zero, List.set_cons_succ, i64_w, i32_w]
          rfl
        refine take_ (i := 2) (N := some 97) (v := ?_) (a' := ?_) #[true, true, true, true, false, false, false, false, false, false] rfl rfl (by kernel_rfl) (fun _ _ _ h => h) (Or.inl ⟨by rfl, ?_⟩) hHeld ?_ ?_
        rotate_left
        · rintro w' ⟨s0, s1⟩
          go_simp
          with_reducible rfl
        rotate_left
        · simp only [Act.put, List.setIfInBounds_toArray, List.set_cons_zero, List.set_cons_succ, i64_w, i32_w]
          rfl
        refine pure_ (i := 6) (N := some 101) (v := ?_) (a' := ?_) #[true, true, true, true, false, false, true, false, false, false] rfl rfl (by kernel_rfl) (fun _ _ _ h => h) (Or.inl ⟨by rfl, ?_⟩) ?_ ?_
        rotate_left
        · intro w'
          go_simp
          with_reducible rfl
        rotate_left
        · simp only [Act.put, List.setIfInBounds_toArray, List.set_cons_zero, List.set_cons_succ, i64_w, i32_w]
          rfl
        refine take_ (i := 4) (N := some 99) (v := ?_) (a' := ?_) #[true, true, true, true, true, false, true, false, false, false] rfl rfl (by kernel_rfl) (fun _ _ _ h => h) (Or.inl ⟨by rfl, ?_⟩) hHeld ?_ ?_
        rotate_left
        · rintro w' ⟨s0, s1⟩
          go_simp
          with_reducible rfl
        rotate_left
        · simp only [Act.put, List.setIfInBounds_toArray, List.set_cons_zero, List.set_cons_succ, i64_w, i32_w]
          rfl
        refine pure_ (i := 5) (N := some 100) (v := ?_) (a' := ?_) #[true, true, true, true, true, true, true, false, false, false] rfl rfl (by kernel_rfl) (fun _ _ _ h => h) (Or.inl ⟨by rfl, ?_⟩) ?_ ?_
        rotate_left
        · intro w'
          go_simp
          with_reducible rfl
        rotate_left
        · simp only [Act.put, List.setIfInBounds_toArray, List.set_cons_zero, List.set_cons_succ, i64_w, i32_w]
          rfl
        refine one_ (i := 7) (N := none) #[true, true, true, true, true, true, true, true, false, false] rfl rfl (by kernel_rfl) (by decide) (fun K hK => ?_)
        have u0 := (blk_cell HSBd.out 0).trans rfl
        have y0 := blk_frozen HSBd.out 0
        refine skip_ (w1 := ?_) (by rfl) rfl ?_ ?_
        rotate_left
        · go_simp
          rfl
        refine hK.out _ _ ⟨(blk_cell (blk_set HSBd.out 0 _) 7).trans rfl, (blk_cell ((heap_setCell_other wb ⟨w.heap.size, 0, none⟩ (w.heap.size + 1) _ (by show w.heap.size + 1 ≠ w.heap.size; omega)).trans HXBd.out) 1).trans rfl⟩ (fun hHeld => ?_)
        clear hK K
        refine pure_ (i := 8) (N := some 102) (v := ?_) (a' := ?_) #[true, true, true, true, true, true, true, true, true, false] rfl rfl (by kernel_rfl) (fun _ _ _ h => h) (Or.inl ⟨by rfl, ?_⟩) ?_ ?_
        rotate_left
        · intro w'
          go_simp
          with_reducible rfl
        rotate_left
        · simp only [Act.put, List.setIfInBounds_toArray, List.set_cons_zero, List.set_cons_succ, i64_w, i32_w]
          rfl
        refine last_ (i := 9) (N := none) #[true, true, true, true, true, true, true, true, true, true] rfl rfl (by kernel_rfl) (by decide) (fun K hK => ?_)
        have HS2 := Aside0.mk (blk_set HSBd.out 0 (.slice AN cs'.length c0))
        have u7 := (blk_cell HS2.out 7).trans rfl
        have y7 := blk_frozen HS2.out 7
        refine skip_ (w1 := ?_) (by rfl) rfl ?_ ?_
        rotate_left
        · go_simp
          rfl
        refine hK.out _ _ ?_
        clear hK K
        refine done_ (by kernel_rfl) ?_
        generalize hwc : World.setCell (World.setCell wb _ _) _ _ = wc
        have HSc : Aside0 (wc.heap[w.heap.size]? = some (.cells #[.slice AN cs'.length c0, .slice ASh sh.length cSh, .slice ATx tx.length cTx, .slice (some ⟨gT, 0, none⟩) th.length capT, .slice AE en.length cE, .slice AS sa.length cS, .int .i64 asked, .int .i64 (wrap64 (steps + xs))] 57 (0, 0))) := ⟨by rw [← hwc]; simpa using blk_set HS2.out 7 (.int .i64 (wrap64 (steps + xs)))⟩
        have hkc : ∀ k, k ≠ w.heap.size → wc.heap[k]? = wb.heap[k]? := fun k hk => by rw [← hwc]; exact (heap_setCell_other _ _ k _ hk).trans (heap_setCell_other wb _ k _ hk)
        have hzc : wc.heap.size = wb.heap.size := by rw [← hwc]; simp
        have HRc : Aside0 (wc.heap[w.heap.size + 1 + 1]? = some (.cells zS 57 (0, 0))) := ⟨(hkc _ (by omega)).trans HRBd.out⟩
        have HTZc := Aside0.mk (HTZd.out.step (W' := wc) (fun k hk _ => hkc k hk.1.1))
        have HNc := Aside0.mk (Kd.N_step (w1 := wc) HNd.out (fun k hk _ => hkc k hk.1.1))
        have HBc : Aside0 (Below w.heap.size w wc) := ⟨by rw [← hwc]; exact (HBd.out.setCell (p := ⟨w.heap.size, 0, none⟩) (Nat.le_refl _) _).setCell (p := ⟨w.heap.size, 7, none⟩) (Nat.le_refl _) _⟩
        have HAc : Aside0 (w.heap.size + 1 + 1 < wc.heap.size) := ⟨by rw [hzc]; exact HABd.out⟩
        clear hwc hkc hzc HS2 u0 y0 u7 y7 HSBd HXBd HRBd HTZd HBd HNd HABd HSBa HXBa HRBa HTZ HBa HNa HAB hHeld
        go_wp2_with fail
        have k1 := (blk_cell HSc.out 1).trans rfl
        have k2 := (blk_cell HSc.out 2).trans rfl
        have k4 := (blk_cell HSc.out 4).trans rfl
        have k5 := (blk_cell HSc.out 5).trans rfl
        refine start_ (n := 20) (S := fun w' => Below wc.heap.size wc w' ∧ w'.cell? ⟨w.heap.size, 1, none⟩ = some (.slice ASh sh.length cSh) ∧ w'.cell? ⟨w.heap.size, 2, none⟩ = some (.slice ATx tx.length cTx) ∧ w'.cell? ⟨w.heap.size, 4, none⟩ = some (.slice AE en.length cE) ∧ w'.cell? ⟨w.heap.size, 5, none⟩ = some (.slice AS sa.length cS)) (ds := [13, 15, 17, 19]) #[false, false, false, false, false, false, false, false, false, false, false, false, false, false, false, false, false, false, false, false] (by kernel_rfl) rfl rfl ⟨(below_drew (Below.refl _ _)), k1, k2, k4, k5⟩ (fun hHeld => ?_)
        refine pure_ (i := 0) (N := some 103) (v := ?_) (a' := ?_) #[true, false, false, false, false, false, false, false, false, false, false, false, false, false, false, false, false, false, false, false] rfl rfl (by kernel_rfl) (fun _ _ _ h => h) (Or.inl ⟨by rfl, ?_⟩) ?_ ?_
        rotate_left
        · intro w'
          go_simp
          with_reducible rfl
        rotate_left
        · simp only [Act.put, List.setIfInBounds_toArray, List.set_cons_zero, List.set_cons_succ, i64_w, i32_w]
          rfl
        refine pure_ (i := 3) (N := some 106) (v := ?_) (a' := ?_) #[true, false, false, true, false, false, false, false, false, false, false, false, false, false, false, false, false, false, false, false] rfl rfl (by kernel_rfl) (fun _ _ _ h => h) (Or.inl ⟨by rfl, ?_⟩) ?_ ?_
        rotate_left
        · intro w'
          go_simp
          with_reducible rfl
        rotate_left
        · simp only [Act.put, List.setIfInBounds_toArray, List.set_cons_zero, List.set_cons_succ, i64_w, i32_w]
          rfl
        refine pure_ (i := 6) (N := some 109) (v := ?_) (a' := ?_) #[true, false, false, true, false, false, true, false, false, false, false, false, false, false, false, false, false, false, false, false] rfl rfl (by kernel_rfl) (fun _ _ _ h => h) (Or.inl ⟨by rfl, ?_⟩) ?_ ?_
        rotate_left
        · intro w'
          go_simp
          with_reducible rfl
        rotate_left
        · simp only [Act.put, List.setIfInBounds_toArray, List.set_cons_zero, List.set_cons_succ, i64_w, i32_w]
          rfl
        refine pure_ (i := 9) (N := some 112) (v := ?_) (a' := ?_) #[true, false, false, true, false, false, true, false, false, true, false, false, false, false, false, false, false, false, false, false] rfl rfl (by kernel_rfl) (fun _ _ _ h => h) (Or.inl ⟨by rfl, ?_⟩) ?_ ?_
        rotate_left
        · intro w'
          go_simp
          with_reducible rfl
        rotate_left
        · simp only [Act.put, List.setIfInBounds_toArray, List.set_cons_zero, List.set_cons_succ, i64_w, i32_w]
          rfl
        refine take_ (i := 1) (N := some 104) (v := ?_) (a' := ?_) #[true, true, false, true, false, false, true, false, false, true, false, false, false, false, false, false, false, false, false, false] rfl rfl (by kernel_rfl) (fun _ _ _ h => h) (Or.inl ⟨by rfl, ?_⟩) hHeld ?_ ?_
        rotate_left
        · rintro w' ⟨s0, s1, s2, s3, s4⟩
          go_simp
          with_reducible rfl
        rotate_left
        · simp only [Act.put, List.setIfInBounds_toArray, List.set_cons_zero, List.set_cons_succ, i64_w, i32_w]
          rfl
        refine take_ (i := 4) (N := some 107) (v := ?_) (a' := ?_) #[true, true, false, true, true, false, true, false, false, true, false, false, false, false, false, false, false, false, false, false] rfl rfl (by kernel_rfl) (fun _ _ _ h => h) (Or.inl ⟨by rfl, ?_⟩) hHeld ?_ ?_
        rotate_left
        · rintro w' ⟨s0, s1, s2, s3, s4⟩
          go_simp
          with_reducible rfl
        rotate_left
        · simp only [Act.put, List.setIfInBounds_toArray, List.set_cons_zero, List.set_cons_succ, i64_w, i32_w]
          rfl
        refine take_ (i := 7) (N := some 110) (v := ?_) (a' := ?_) #[true, true, false, true, true, false, true, true, false, true, false, false, false, false, false, false, false, false, false, false] rfl rfl (by kernel_rfl) (fun _ _ _ h => h) (Or.inl ⟨by rfl, ?_⟩) hHeld ?_ ?_
        rotate_left
        · rintro w' ⟨s0, s1, s2, s3, s4⟩
          go_simp
          with_reducible rfl
        rotate_left
        · simp only [Act.put, List.setIfInBounds_toArray, List.set_cons_zero, List.set_cons_succ, i64_w, i32_w]
          rfl
        refine take_ (i := 10) (N := some 113) (v := ?_) (a' := ?_) #[true, true, false, true, true, false, true, true, false, true, true, false, false, false, false, false, false, false, false, false] rfl rfl (by kernel_rfl) (fun _ _ _ h => h) (Or.inl ⟨by rfl, ?_⟩) hHeld ?_ ?_
        rotate_left
        · rintro w' ⟨s0, s1, s2, s3, s4⟩
          go_simp
          with_reducible rfl
        rotate_left
        · simp only [Act.put, List.setIfInBounds_toArray, List.set_cons_zero, List.set_cons_succ, i64_w, i32_w]
          rfl
        refine one_ (i := 2) (N := some 105) #[true, true, true, true, true, false, true, true, false, true, true, false, false, false, false, false, false, false, false, false] rfl rfl (by kernel_rfl) (by decide) (fun K hK => ?_)
        refine goes_ Try.func47 (by kernel_rfl) rfl #[.slice ASh sh.length cSh] (by rfl) rfl rfl (by simp only [List.map_toArray, List.map_cons, List.map_nil]; rfl) ?_
        with_reducible refine (api_Shape_47.calls ASh cSh sh sh _ (Kd.C_below HI.out.h_sh (below_step HBc.out hHeld.1)) HI.out.h_shc HK1.out).mono ?_
        rintro e w10 ⟨v10, rfl, hR10, hb10⟩
        refine ⟨_, rfl, ?_⟩
        obtain ⟨B0, d0, e10⟩ := Kd.R_slice hR10
        subst e10
        have hR10 := Kd.R_lower hR10 hHeld.1.size
        have HQ0 := Aside0.mk hR10
        clear hR10
        refine hK.out _ _ ⟨below_step hHeld.1 hb10, pw_cell_below hb10 hHeld.2.1, pw_cell_below hb10 hHeld.2.2.1, pw_cell_below hb10 hHeld.2.2.2.1, pw_cell_below hb10 hHeld.2.2.2.2⟩ (fun hHeld => ?_)
        clear hK K
        refine norm_ (a' := ?_) ?_ ?_
        rotate_left
        · show Act.put _ (some 105) _ = _
          simp only [Act.put, List.setIfInBounds_toArray, List.set_cons_zero, List.set_cons_succ, i64_w, i32_w]
          rfl
        refine pure_ (i := 12) (N := some 115) (v := ?_) (a' := ?_) #[true, true, true, true, true, false, true, true, false, true, true, false, true, false, false, false, false, false, false, false] rfl rfl (by kernel_rfl) (fun _ _ _ h => h) (Or.inl ⟨by rfl, ?_⟩) ?_ ?_
        rotate_left
        · intro w'
          go_simp
          with_reducible rfl
        rotate_left
        · simp only [Act.put, List.setIfInBounds_toArray, List.set_cons_zero, List.set_cons_succ, i64_w, i32_w]
          rfl
        refine one_ (i := 5) (N := some 108) #[true, true, true, true, true, true, true, true, false, true, true, false, true, false, false, false, false, false, false, false] rfl rfl (by kernel_rfl) (by decide) (fun K hK => ?_)
        refine goes_ Try.func48 (by kernel_rfl) rfl #[.slice ATx tx.length cTx] (by rfl) rfl rfl (by simp only [List.map_toArray, List.map_cons, List.map_nil]; rfl) ?_
        with_reducible refine (slices_Clone_string_string.calls ATx cTx tx tx _ (Kd.C_below HI.out.h_tx (below_step HBc.out hHeld.1)) HI.out.h_txc HK2.out).mono ?_
        rintro e w11 ⟨v11, rfl, hR11, hb11⟩
        refine ⟨_, rfl, ?_⟩
        obtain ⟨B1, d1, e11⟩ := Kd.R_slice hR11
        subst e11
        have hR11 := Kd.R_lower hR11 hHeld.1.size
        have HQ1 := Aside0.mk hR11
        clear hR11
        replace HQ0 := Aside0.mk (Kd.R_below HQ0.out hb11)
        refine hK.out _ _ ⟨below_step hHeld.1 hb11, pw_cell_below hb11 hHeld.2.1, pw_cell_below hb11 hHeld.2.2.1, pw_cell_below hb11 hHeld.2.2.2.1, pw_cell_below hb11 hHeld.2.2.2.2⟩ (fun hHeld => ?_)
        clear hK K
        refine norm_ (a' := ?_) ?_ ?_
        rotate_left
        · show Act.put _ (some 108) _ = _
          simp only [Act.put, List.setIfInBounds_toArray, List.set_cons_zero, List.set_cons_succ, i64_w, i32_w]
          rfl
        refine one_ (i := 8) (N := some 111) #[true, true, true, true, true, true, true, true, true, true, true, false, true, false, false, false, false, false, false, false] rfl rfl (by kernel_rfl) (by decide) (fun K hK => ?_)
        refine goes_ Try.func49 (by kernel_rfl) rfl #[.slice AE en.length cE] (by rfl) rfl rfl (by simp only [List.map_toArray, List.map_cons, List.map_nil]; rfl) ?_
        with_reducible refine (api_End_49.calls AE cE en en _ (Kd.C_below HI.out.h_en (below_step HBc.out hHeld.1)) HI.out.h_enc HK3.out).mono ?_
        rintro e w12 ⟨v12, rfl, hR12, hb12⟩
        refine ⟨_, rfl, ?_⟩
        obtain ⟨B2, d2, e12⟩ := Kd.R_slice hR12
        subst e12
        have hR12 := Kd.R_lower hR12 hHeld.1.size
        have HQ2 := Aside0.mk hR12
        clear hR12
        replace HQ0 := Aside0.mk (Kd.R_below HQ0.out hb12)
        replace HQ1 := Aside0.mk (Kd.R_below HQ1.out hb12)
        refine hK.out _ _ ⟨below_step hHeld.1 hb12, pw_cell_below hb12 hHeld.2.1, pw_cell_below hb12 hHeld.2.2.1, pw_cell_below hb12 hHeld.2.2.2.1, pw_cell_below hb12 hHeld.2.2.2.2⟩ (fun hHeld => ?_)
        clear hK K
        refine norm_ (a' := ?_) ?_ ?_
        rotate_left
        · show Act.put _ (some 111) _ = _
          simp only [Act.put, List.setIfInBounds_toArray, List.set_cons_zero, List.set_cons_succ, i64_w, i32_w]
          rfl
        refine one_ (i := 11) (N := some 114) #[true, true, true, true, true, true, true, true, true, true, true, true, true, false, false, false, false, false, false, false] rfl rfl (by kernel_rfl) (by decide) (fun K hK => ?_)
        refine goes_ Try.func40 (by kernel_rfl) rfl #[.slice AS sa.length cS] (by rfl) rfl rfl (by simp only [List.map_toArray, List.map_cons, List.map_nil]; rfl) ?_
        with_reducible refine (api_Val_40.calls AS cS sa sa _ (Kd.C_below HI.out.h_sa (below_step HBc.out hHeld.1)) HI.out.h_sac HK4.out).mono ?_
        rintro e w13 ⟨v13, rfl, hR13, hb13⟩
        refine ⟨_, rfl, ?_⟩
        obtain ⟨B3, d3, e13⟩ := Kd.R_slice hR13
        subst e13
        have hR13 := Kd.R_lower hR13 hHeld.1.size
        have HQ3 := Aside0.mk hR13
        clear hR13
        replace HQ0 := Aside0.mk (Kd.R_below HQ0.out hb13)
        replace HQ1 := Aside0.mk (Kd.R_below HQ1.out hb13)
        replace HQ2 := Aside0.mk (Kd.R_below HQ2.out hb13)
        refine hK.out _ _ ⟨below_step hHeld.1 hb13, pw_cell_below hb13 hHeld.2.1, pw_cell_below hb13 hHeld.2.2.1, pw_cell_below hb13 hHeld.2.2.2.1, pw_cell_below hb13 hHeld.2.2.2.2⟩ (fun hHeld => ?_)
        clear hK K
        refine norm_ (a' := ?_) ?_ ?_
        rotate_left
        · show Act.put _ (some 114) _ = _
          simp only [Act.put, List.setIfInBounds_toArray, List.set_cons_zero, List.set_cons_succ, i64_w, i32_w]
          rfl
        refine last_ (i := 13) (N := none) #[true, true, true, true, true, true, true, true, true, true, true, true, true, true, false, false, false, false, false, false] rfl rfl (by kernel_rfl) (by decide) (fun K hK => ?_)
        have HS13 := Aside0.mk (blk_below HSc.out hHeld.1)
        have HB13 := Aside0.mk hHeld.1
        have u1 := (blk_cell HS13.out 1).trans rfl
        have y1 := blk_frozen HS13.out 1
        refine skip_ (w1 := ?_) (by rfl) rfl ?_ ?_
        rotate_left
        · go_simp
          rfl
        refine hK.out _ _ ?_
        clear hK K
        refine pure_ (i := 14) (N := some 116) (v := ?_) (a' := ?_) #[true, true, true, true, true, true, true, true, true, true, true, true, true, true, true, false, false, false, false, false] rfl rfl (by kernel_rfl) (fun _ _ _ h => h) (Or.inl ⟨by rfl, ?_⟩) ?_ ?_
        rotate_left
        · intro w'
          go_simp
          with_reducible rfl
        rotate_left
        · simp only [Act.put, List.setIfInBounds_toArray, List.set_cons_zero, List.set_cons_succ, i64_w, i32_w]
          rfl
        refine last_ (i := 15) (N := none) #[true, true, true, true, true, true, true, true, true, true, true, true, true, true, true, true, false, false, false, false] rfl rfl (by kernel_rfl) (by decide) (fun K hK => ?_)
        have HS15 := Aside0.mk (blk_set HS13.out 1 (.slice B0 sh.length d0))
        have u2 := (blk_cell HS15.out 2).trans rfl
        have y2 := blk_frozen HS15.out 2
        refine skip_ (w1 := ?_) (by rfl) rfl ?_ ?_
        rotate_left
        · go_simp
          rfl
        refine hK.out _ _ ?_
        clear hK K
        refine pure_ (i := 16) (N := some 117) (v := ?_) (a' := ?_) #[true, true, true, true, true, true, true, true, true, true, true, true, true, true, true, true, true, false, false, false] rfl rfl (by kernel_rfl) (fun _ _ _ h => h) (Or.inl ⟨by rfl, ?_⟩) ?_ ?_
        rotate_left
        · intro w'
          go_simp
          with_reducible rfl
        rotate_left
        · simp only [Act.put, List.setIfInBounds_toArray, List.set_cons_zero, List.set_cons_succ, i64_w, i32_w]
          rfl
        refine last_ (i := 17) (N := none) #[true, true, true, true, true, true, true, true, true, true, true, true, true, true, true, true, true, true, false, false] rfl rfl (by kernel_rfl) (by decide) (fun K hK => ?_)
        have HS17 := Aside0.mk (blk_set HS15.out 2 (.slice B1 tx.length d1))
        have u4 := (blk_cell HS17.out 4).trans rfl
        have y4 := blk_frozen HS17.out 4
        refine skip_ (w1 := ?_) (by rfl) rfl ?_ ?_
        rotate_left
        · go_simp
          rfl
        refine hK.out _ _ ?_
        clear hK K
        refine pure_ (i := 18) (N := some 118) (v := ?_) (a' := ?_) #[true, true, true, true, true, true, true, true, true, true, true, true, true, true, true, true, true, true, true, false] rfl rfl (by kernel_rfl) (fun _ _ _ h => h) (Or.inl ⟨by rfl, ?_⟩) ?_ ?_
        rotate_left
        · intro w'
          go_simp
          with_reducible rfl
        rotate_left
        · simp only [Act.put, List.setIfInBounds_toArray, List.set_cons_zero, List.set_cons_succ, i64_w, i32_w]
          rfl
        refine last_ (i := 19) (N := none) #[true, true, true, true, true, true, true, true, true, true, true, true, true, true, true, true, true, true, true, true] rfl rfl (by kernel_rfl) (by decide) (fun K hK => ?_)
        have HS19 := Aside0.mk (blk_set HS17.out 4 (.slice B2 en.length d2))
        have u5 := (blk_cell HS19.out 5).trans rfl
        have y5 := blk_frozen HS19.out 5
        refine skip_ (w1 := ?_) (by rfl) rfl ?_ ?_
        rotate_left
        · go_simp
          rfl
        refine hK.out _ _ ?_
        clear hK K
        refine done_ (by kernel_rfl) ?_
        generalize hwd : World.setCell (World.setCell (World.setCell (World.setCell w13 _ _) _ _) _ _) _ _ = wd
        have HSd : Aside0 (wd.heap[w.heap.size]? = some (.cells #[.slice AN cs'.length c0, .slice B0 sh.length d0, .slice B1 tx.length d1, .slice (some ⟨gT, 0, none⟩) th.length capT, .slice B2 en.length d2, .slice B3 sa.length d3, .int .i64 asked, .int .i64 (wrap64 (steps + xs))] 57 (0, 0))) := ⟨by rw [← hwd]; simpa using blk_set HS19.out 5 (.slice B3 sa.length d3)⟩
        have hkd : ∀ k, k ≠ w.heap.size → wd.heap[k]? = w13.heap[k]? := fun k hk => by rw [← hwd]; exact (((heap_setCell_other _ _ k _ hk).trans (heap_setCell_other _ _ k _ hk)).trans (heap_setCell_other _ _ k _ hk)).trans (heap_setCell_other w13 _ k _ hk)
        have HRd : Aside0 (wd.heap[w.heap.size + 1 + 1]? = some (.cells zS 57 (0, 0))) := ⟨(hkd _ (by omega)).trans (blk_below HRc.out HB13.out)⟩
        have HTZd := Aside0.mk ((HTZc.out.step (fun k _ hlt => HB13.out.block k hlt)).step (W' := wd) (fun k hk _ => hkd k hk.1.1))
        have HNd := Aside0.mk (Kd.N_step (w1 := wd) (Kd.N_below HNc.out HB13.out) (fun k hk _ => hkd k hk.1.1))
        have HBd : Aside0 (Below w.heap.size w wd) := ⟨by rw [← hwd]; exact ((((below_step HBc.out HB13.out).setCell (p := ⟨w.heap.size, 1, none⟩) (Nat.le_refl _) _).setCell (p := ⟨w.heap.size, 2, none⟩) (Nat.le_refl _) _).setCell (p := ⟨w.heap.size, 4, none⟩) (Nat.le_refl _) _).setCell (p := ⟨w.heap.size, 5, none⟩) (Nat.le_refl _) _⟩
        have HQd0 := Aside0.mk (Kd.R_step (w1 := wd) (Kd.R_mono (ok' := OkO P w.heap.size) (Kd.R_bound HQ0.out) (fun k hk => ⟨by have h1 := hk.2.1; have h2 := HAc.out; omega, Or.inr (by have h1 := hk.2.1; have h2 := HAc.out; omega)⟩)) (fun k hk _ => hkd k hk.1.1))
        have HQd1 := Aside0.mk (Kd.R_step (w1 := wd) (Kd.R_mono (ok' := OkO P w.heap.size) (Kd.R_bound HQ1.out) (fun k hk => ⟨by have h1 := hk.2.1; have h2 := HAc.out; omega, Or.inr (by have h1 := hk.2.1; have h2 := HAc.out; omega)⟩)) (fun k hk _ => hkd k hk.1.1))
        have HQd2 := Aside0.mk (Kd.R_step (w1 := wd) (Kd.R_mono (ok' := OkO P w.heap.size) (Kd.R_bound HQ2.out) (fun k hk => ⟨by have h1 := hk.2.1; have h2 := HAc.out; omega, Or.inr (by have h1 := hk.2.1; have h2 := HAc.out; omega)⟩)) (fun k hk _ => hkd k hk.1.1))
        have HQd3 := Aside0.mk (Kd.R_step (w1 := wd) (Kd.R_mono (ok' := OkO P w.heap.size) (Kd.R_bound HQ3.out) (fun k hk => ⟨by have h1 := hk.2.1; have h2 := HAc.out; omega, Or.inr (by have h1 := hk.2.1; have h2 := HAc.out; omega)⟩)) (fun k hk _ => hkd k hk.1.1))
        clear hwd hkd HS13 HS15 HS17 HS19 HB13 u1 u2 u4 u5 y1 y2 y4 y5 k1 k2 k4 k5 hHeld HSc HRc HTZc HNc HBc HQ0 HQ1 HQ2 HQ3 hb10 hb11 hb12 hb13
        have k0 := (blk_cell HSd.out 0).trans rfl
        have k1 := (blk_cell HSd.out 1).trans rfl
        have k2 := (blk_cell HSd.out 2).trans rfl
        have k3 := (blk_cell HSd.out 3).trans rfl
        have k4 := (blk_cell HSd.out 4).trans rfl
        have k5 := (blk_cell HSd.out 5).trans rfl
        have k6 := (blk_cell HSd.out 6).trans rfl
        have k7 := (blk_cell HSd.out 7).trans rfl
        have rc0 : wd.cell? ⟨w.heap.size + 1 + 1, 0, none⟩ = some (.slice none 0 0) := (blk_cell HRd.out 0).trans rfl
        have rz0 := blk_frozen HRd.out 0
        have rc1 : wd.cell? ⟨w.heap.size + 1 + 1, 1, none⟩ = some (.slice none 0 0) := (blk_cell HRd.out 1).trans rfl
        have rz1 := blk_frozen HRd.out 1
        have rc2 : wd.cell? ⟨w.heap.size + 1 + 1, 2, none⟩ = some (.slice none 0 0) := (blk_cell HRd.out 2).trans rfl
        have rz2 := blk_frozen HRd.out 2
        have rc3 : wd.cell? ⟨w.heap.size + 1 + 1, 3, none⟩ = some (.slice none 0 0) := (blk_cell HRd.out 3).trans rfl
        have rz3 := blk_frozen HRd.out 3
        have rc4 : wd.cell? ⟨w.heap.size + 1 + 1, 4, none⟩ = some (.slice none 0 0) := (blk_cell HRd.out 4).trans rfl
        have rz4 := blk_frozen HRd.out 4
        have rc5 : wd.cell? ⟨w.heap.size + 1 + 1, 5, none⟩ = some (.slice none 0 0) := (blk_cell HRd.out 5).trans rfl
        have rz5 := blk_frozen HRd.out 5
        have rc6 : wd.cell? ⟨w.heap.size + 1 + 1, 6, none⟩ = some (.int .i64 0) := (blk_cell HRd.out 6).trans rfl
        have rz6 := blk_frozen HRd.out 6
        have rc7 : wd.cell? ⟨w.heap.size + 1 + 1, 7, none⟩ = some (.int .i64 0) := (blk_cell HRd.out 7).trans rfl
        have rz7 := blk_frozen HRd.out 7
        go_wp2_with fail
        refine bodyPost_ret (results_ct rfl _ _ (w.heap.size + 1 + 1) 57 #[.slice AN cs'.length c0, .slice B0 sh.length d0, .slice B1 tx.length d1, .slice (some ⟨gT, 0, none⟩) th.length capT, .slice B2 en.length d2, .slice B3 sa.length d3, .int .i64 asked, .int .i64 (wrap64 (steps + xs))] (0, 0) _ rfl (by
          refine blk_put (cs := #[.slice AN cs'.length c0, .slice B0 sh.length d0, .slice B1 tx.length d1, .slice (some ⟨gT, 0, none⟩) th.length capT, .slice B2 en.length d2, .slice B3 sa.length d3, .int .i64 asked, .int .i64 0]) ?_ 7 _ rfl
          refine blk_put (cs := #[.slice AN cs'.length c0, .slice B0 sh.length d0, .slice B1 tx.length d1, .slice (some ⟨gT, 0, none⟩) th.length capT, .slice B2 en.length d2, .slice B3 sa.length d3, .int .i64 0, .int .i64 0]) ?_ 6 _ rfl
          refine blk_put (cs := #[.slice AN cs'.length c0, .slice B0 sh.length d0, .slice B1 tx.length d1, .slice (some ⟨gT, 0, none⟩) th.length capT, .slice B2 en.length d2, .slice none 0 0, .int .i64 0, .int .i64 0]) ?_ 5 _ rfl
          refine blk_put (cs := #[.slice AN cs'.length c0, .slice B0 sh.length d0, .slice B1 tx.length d1, .slice (some ⟨gT, 0, none⟩) th.length capT, .slice none 0 0, .slice none 0 0, .int .i64 0, .int .i64 0]) ?_ 4 _ rfl
          refine blk_put (cs := #[.slice AN cs'.length c0, .slice B0 sh.length d0, .slice B1 tx.length d1, .slice none 0 0, .slice none 0 0, .slice none 0 0, .int .i64 0, .int .i64 0]) ?_ 3 _ rfl
          refine blk_put (cs := #[.slice AN cs'.length c0, .slice B0 sh.length d0, .slice none 0 0, .slice none 0 0, .slice none 0 0, .slice none 0 0, .int .i64 0, .int .i64 0]) ?_ 2 _ rfl
          refine blk_put (cs := #[.slice AN cs'.length c0, .slice none 0 0, .slice none 0 0, .slice none 0 0, .slice none 0 0, .slice none 0 0, .int .i64 0, .int .i64 0]) ?_ 1 _ rfl
          refine blk_put (cs := #[.slice none 0 0, .slice none 0 0, .slice none 0 0, .slice none 0 0, .slice none 0 0, .slice none 0 0, .int .i64 0, .int .i64 0]) ?_ 0 _ rfl
          exact HRd.out) Try.underlying57 rfl (by kernel_rfl)) rfl ?_
        generalize hwf : World.setCell (World.setCell (World.setCell (World.setCell (World.setCell (World.setCell (World.setCell (World.setCell wd _ _) _ _) _ _) _ _) _ _) _ _) _ _) _ _ = wf
        have hkf : ∀ k, k ≠ w.heap.size + 1 + 1 → wf.heap[k]? = wd.heap[k]? := fun k hk => by
          rw [← hwf]
          exact (((((((heap_setCell_other _ _ k _ hk).trans (heap_setCell_other _ _ k _ hk)).trans (heap_setCell_other _ _ k _ hk)).trans (heap_setCell_other _ _ k _ hk)).trans (heap_setCell_other _ _ k _ hk)).trans (heap_setCell_other _ _ k _ hk)).trans (heap_setCell_other _ _ k _ hk)).trans (heap_setCell_other wd _ k _ hk)
        have hge : w.heap.size ≤ w.heap.size + 1 + 1 := by omega
        have HBf : Below w.heap.size w wf := by
          rw [← hwf]
          exact (((((((HBd.out.setCell (p := ⟨w.heap.size + 1 + 1, 0, none⟩) hge _).setCell (p := ⟨w.heap.size + 1 + 1, 1, none⟩) hge _).setCell (p := ⟨w.heap.size + 1 + 1, 2, none⟩) hge _).setCell (p := ⟨w.heap.size + 1 + 1, 3, none⟩) hge _).setCell (p := ⟨w.heap.size + 1 + 1, 4, none⟩) hge _).setCell (p := ⟨w.heap.size + 1 + 1, 5, none⟩) hge _).setCell (p := ⟨w.heap.size + 1 + 1, 6, none⟩) hge _).setCell (p := ⟨w.heap.size + 1 + 1, 7, none⟩) hge _
        have hTZ := HTZd.out.step (W' := wf) (fun k hk _ => hkf k hk.1.2)
        have hlnt : (newTh th thread m fn).length = th.length := hTZ.ln
        have hNf0 := Kd.N_step (w1 := wf) HNd.out (fun k hk _ => hkf k hk.1.2)
        have hNf := Kd.N_reads' hNf0
        have hr0 := Kd.R_step (w1 := wf) HQd0.out (fun k hk _ => hkf k hk.1.2)
        have hr1 := Kd.R_step (w1 := wf) HQd1.out (fun k hk _ => hkf k hk.1.2)
        have hr2 := Kd.R_step (w1 := wf) HQd2.out (fun k hk _ => hkf k hk.1.2)
        have hr3 := Kd.R_step (w1 := wf) HQd3.out (fun k hk _ => hkf k hk.1.2)
        have hq0 := Kd.R_reads' hr0
        have hq1 := Kd.R_reads' hr1
        have hq2 := Kd.R_reads' hr2
        have hq3 := Kd.R_reads' hr3
        have ho : ∀ k, OkO P w.heap.size k → P k ∨ w.heap.size ≤ k := fun k hk => hk.2
        refine ⟨⟨AN, c0, B0, d0, B1, d1, some ⟨gT, 0, none⟩, capT, B2, d2, B3, d3, ?_, Kd.F_mono (Kd.N_F hNf0) ho, hNf.2.1, Kd.F_mono (Kd.R_F hr0) ho, hq0.2.1, Kd.F_mono (Kd.R_F hr1) ho, hq1.2.1, Kd.F_mono (hTZ.F HZN.out) ho, ?_, Kd.F_mono (Kd.R_F hr2) ho, hq2.2.1, Kd.F_mono (Kd.R_F hr3) ho, hq3.2.1⟩, HBf⟩
        · rw [hlnt]; rfl
        · rw [hlnt]
          obtain ⟨A, cap, e, hle⟩ := own_shape hTZ.row
          injection e with _ _ e
          omega
      · have hee : (ef != 0) = true := by simpa using hef
        have HEF := Aside0.mk hef
        have rc0 : wa.cell? ⟨w.heap.size + 1 + 1, 0, none⟩ = some (.slice none 0 0) := (blk_cell HRBa.out 0).trans rfl
        have rz0 := blk_frozen HRBa.out 0
        have rc1 : wa.cell? ⟨w.heap.size + 1 + 1, 1, none⟩ = some (.slice none 0 0) := (blk_cell HRBa.out 1).trans rfl
        have rz1 := blk_frozen HRBa.out 1
        have rc2 : wa.cell? ⟨w.heap.size + 1 + 1, 2, none⟩ = some (.slice none 0 0) := (blk_cell HRBa.out 2).trans rfl
        have rz2 := blk_frozen HRBa.out 2
        have rc3 : wa.cell? ⟨w.heap.size + 1 + 1, 3, none⟩ = some (.slice none 0 0) := (blk_cell HRBa.out 3).trans rfl
        have rz3 := blk_frozen HRBa.out 3
        have rc4 : wa.cell? ⟨w.heap.size + 1 + 1, 4, none⟩ = some (.slice none 0 0) := (blk_cell HRBa.out 4).trans rfl
        have rz4 := blk_frozen HRBa.out 4
        have rc5 : wa.cell? ⟨w.heap.size + 1 + 1, 5, none⟩ = some (.slice none 0 0) := (blk_cell HRBa.out 5).trans rfl
        have rz5 := blk_frozen HRBa.out 5
        have rc6 : wa.cell? ⟨w.heap.size + 1 + 1, 6, none⟩ = some (.int .i64 0) := (blk_cell HRBa.out 6).trans rfl
        have rz6 := blk_frozen HRBa.out 6
        have rc7 : wa.cell? ⟨w.heap.size + 1 + 1, 7, none⟩ = some (.int .i64 0) := (blk_cell HRBa.out 7).trans rfl
        have rz7 := blk_frozen HRBa.out 7
        clear hef
        go_wp2_with fail
        refine bodyPost_ret (results_ct rfl _ _ (w.heap.size + 1 + 1) 57 zS (0, 0) _ rfl (by
          refine blk_put (cs := zS) ?_ 7 _ rfl
          refine blk_put (cs := zS) ?_ 6 _ rfl
          refine blk_put (cs := zS) ?_ 5 _ rfl
          refine blk_put (cs := zS) ?_ 4 _ rfl
          refine blk_put (cs := zS) ?_ 3 _ rfl
          refine blk_put (cs := zS) ?_ 2 _ rfl
          refine blk_put (cs := zS) ?_ 1 _ rfl
          refine blk_put (cs := zS) ?_ 0 _ rfl
          exact HRBa.out) Try.underlying57 rfl (by kernel_rfl)) rfl ?_
        refine ⟨fun e => absurd e HEF.out, fun _ => OutP.none_ _ _ _, ?_⟩
        have hge : w.heap.size ≤ w.heap.size + 1 + 1 := by omega
        exact (((((((HBa.out.setCell (p := ⟨w.heap.size + 1 + 1, 0, none⟩) hge _).setCell (p := ⟨w.heap.size + 1 + 1, 1, none⟩) hge _).setCell (p := ⟨w.heap.size + 1 + 1, 2, none⟩) hge _).setCell (p := ⟨w.heap.size + 1 + 1, 3, none⟩) hge _).setCell (p := ⟨w.heap.size + 1 + 1, 4, none⟩) hge _).setCell (p := ⟨w.heap.size + 1 + 1, 5, none⟩) hge _).setCell (p := ⟨w.heap.size + 1 + 1, 6, none⟩) hge _).setCell (p := ⟨w.heap.size + 1 + 1, 7, none⟩) hge _
set_option maxHeartbeats 16000000 in
set_option maxRecDepth 100000 in
theorem out_ec (w : World) (P : Nat → Prop) {AC : Option Addr} {cC : Nat} {cs : List S50} {ASh : Option Addr} {cSh : Nat} {sh : List S68} {ATx : Option Addr} {cTx : Nat} {tx : List ByteArray} {AT : Option Addr} {cT : Nat} {th : List Td} {AE : Option Addr} {cE : Nat} {en : List S71} {AS : Option Addr} {cS : Nat} {sa : List Vl} {asked steps xa xs : Int} {thread : Nat} {ASt : Option Addr} {cSt : Nat} {sets : List S34} {AM : Option Addr} {cM : Nat} {makes : List S46} {AV : Option Addr} {cV : Nat} {vals : List Vl}
    (h : OutI w P (AC := AC) (cC := cC) (cs := cs) (ASh := ASh) (cSh := cSh) (sh := sh) (ATx := ATx) (cTx := cTx) (tx := tx) (AT := AT) (cT := cT) (th := th) (AE := AE) (cE := cE) (en := en) (AS := AS) (cS := cS) (sa := sa) (ASt := ASt) (cSt := cSt) (sets := sets) (AM := AM) (cM := cM) (makes := makes) (AV := AV) (cV := cV) (vals := vals))
    (ht : thread < th.length) (hz : th.length ≤ 1048576) (hne : (rd_T62 th thread).f0 ≠ [])
    (kc : Nat) (ec : Int) (cs' : List S50) (hcells : leave_Cells.f kc cs xa xs sets makes vals = some (cs', ec)) (hec : ec ≠ 0) :
    Calls Try.prog 20 #[.agg #[.slice AC cs.length cC, .slice ASh sh.length cSh, .slice ATx tx.length cTx, .slice AT th.length cT, .slice AE en.length cE, .slice AS sa.length cS, .int .i64 asked, .int .i64 steps], .int .i64 (thread : Int), .agg #[.int .i64 xa, .int .i64 xs, .slice ASt sets.length cSt, .slice AM makes.length cM], .slice AV vals.length cV] w fun e w' => OutP (fun k => P k ∨ w.heap.size ≤ k) w' e [] [] [] [] [] [] 0 0 ec ∧ Below w.heap.size w w' := by
  have hd0 : decide ((thread : Int) < 0) = false := decide_eq_false (by omega)
  have hi0 : (0 : Int) ≤ (thread : Int) := by omega
  have hi1 : (thread : Int) < (th.length : Int) := by omega
  have hd1 : decide ((th.length : Int) ≤ (thread : Int)) = false := decide_eq_false (by omega)
  have hd2 : decide (th.length ≤ thread) = false := decide_eq_false (by omega)
  obtain ⟨sv, hsv⟩ : ∃ sv : List Value, sv = [.slice AC cs.length cC, .slice ASh sh.length cSh, .slice ATx tx.length cTx, .slice AT th.length cT, .slice AE en.length cE, .slice AS sa.length cS, .int .i64 asked, .int .i64 steps] := ⟨_, rfl⟩
  obtain ⟨xv, hxv⟩ : ∃ xv : List Value, xv = [.int .i64 xa, .int .i64 xs, .slice ASt sets.length cSt, .slice AM makes.length cM] := ⟨_, rfl⟩
  have HB3 := Aside0.mk (outW_below w sv xv)
  have HSB := Aside0.mk (outW_s w sv xv)
  have HXB := Aside0.mk (outW_x w sv xv)
  have HRB := Aside0.mk (outW_r w sv xv)
  obtain ⟨W3, hW3⟩ : ∃ W3, W3 = outW w sv xv := ⟨_, rfl⟩
  rw [← hW3] at HB3 HSB HXB HRB
  have hbig : outW w sv xv = ((w.alloc (Obj.cells #[.slice AC cs.length cC, .slice ASh sh.length cSh, .slice ATx tx.length cTx, .slice AT th.length cT, .slice AE en.length cE, .slice AS sa.length cS, .int .i64 asked, .int .i64 steps] 57)).alloc (Obj.cells #[.int .i64 xa, .int .i64 xs, .slice ASt sets.length cSt, .slice AM makes.length cM] 31)).alloc (Obj.cells #[.slice none 0 0, .slice none 0 0, .slice none 0 0, .slice none 0 0, .slice none 0 0, .slice none 0 0, .int .i64 0, .int .i64 0] 57) := by rw [hsv, hxv]; rfl
  rw [← hW3] at hbig
  rw [hsv] at HSB
  rw [hxv] at HXB
  have HWE := Aside0.mk hbig.symm
  have hT3 : Kd.V k62 62 W3 W3.heap.size (fun k => P k) (.slice AT th.length cT) th := Kd.V_below h.h_th HB3.out
  have hC3 : Kd.V k50 50 W3 W3.heap.size (fun k => P k) (.slice AC cs.length cC) cs := Kd.V_below h.h_cs HB3.out
  have hTc := (Kd.V_reads' hT3).2.2
  obtain ⟨adT, AF, cF, eAT, x0, x1, x2, x3, x4, hfc, hfC⟩ := at_T62 hTc (thread : Int) hi0 hi1
  subst eAT
  have hlen : 0 < (rd_T62 th thread).f0.length := List.length_pos_iff.2 hne
  have hq0 : (((rd_T62 th thread).f0.length : Int) == 0) = false := by simp; omega
  have hq1 : ((rd_T62 th thread).f0.length == 0) = false := by simp; omega
  have HT3 := Aside0.mk hT3
  have HI := Aside0.mk h
  have HEF := Aside0.mk hec
  have hee : (ec != 0) = true := by simpa using hec
  have HCC := Aside0.mk (leave_Cells.calls kc P AC cC cs xa xs ASt cSt sets AM cM makes AV cV vals cs' ec W3 hC3 (Kd.C_below h.h_st HB3.out) h.h_stc (Kd.C_below h.h_mks HB3.out) h.h_mksc (Kd.C_below h.h_va HB3.out) h.h_vac hcells)
  have s3 := (blk_cell HSB.out 3).trans rfl
  have s0 := (blk_cell HSB.out 0).trans rfl
  have X0 := (blk_cell HXB.out 0).trans rfl
  have X1 := (blk_cell HXB.out 1).trans rfl
  have X2 := (blk_cell HXB.out 2).trans rfl
  have X3 := (blk_cell HXB.out 3).trans rfl
  rw [Int.toNat_natCast] at x0
  have x0' := x0
  rw [hbig] at x0'
  subst hsv
  subst hxv
  clear x0 x1 x2 x3 x4 s3 s0 X0 X1 X2 X3 hW3 hbig
  clear hTc hT3 hC3 h hlen hne hcells
  go_enter Try.func20, Try.ntmps20
  go_wp2_with fail
  rw [HWE.out]
  refine HCC.out.mono ?_
  rintro e w4 ⟨v0, rfl, hN4, hb4⟩
  obtain ⟨A0, c0, e0⟩ := Kd.N_slice hN4
  subst e0
  have HN4 := Aside0.mk (Kd.N_bound hN4)
  have HB4 := Aside0.mk (below_step HB3.out hb4)
  have HSB4 := Aside0.mk (blk_below HSB.out hb4)
  have HXB4 := Aside0.mk (blk_below HXB.out hb4)
  have HRB4 := Aside0.mk (blk_below HRB.out hb4)
  have rc0 : w4.cell? ⟨w.heap.size + 1 + 1, 0, none⟩ = some (.slice none 0 0) := (blk_cell HRB4.out 0).trans rfl
  have rz0 := blk_frozen HRB4.out 0
  have rc1 : w4.cell? ⟨w.heap.size + 1 + 1, 1, none⟩ = some (.slice none 0 0) := (blk_cell HRB4.out 1).trans rfl
  have rz1 := blk_frozen HRB4.out 1
  have rc2 : w4.cell? ⟨w.heap.size + 1 + 1, 2, none⟩ = some (.slice none 0 0) := (blk_cell HRB4.out 2).trans rfl
  have rz2 := blk_frozen HRB4.out 2
  have rc3 : w4.cell? ⟨w.heap.size + 1 + 1, 3, none⟩ = some (.slice none 0 0) := (blk_cell HRB4.out 3).trans rfl
  have rz3 := blk_frozen HRB4.out 3
  have rc4 : w4.cell? ⟨w.heap.size + 1 + 1, 4, none⟩ = some (.slice none 0 0) := (blk_cell HRB4.out 4).trans rfl
  have rz4 := blk_frozen HRB4.out 4
  have rc5 : w4.cell? ⟨w.heap.size + 1 + 1, 5, none⟩ = some (.slice none 0 0) := (blk_cell HRB4.out 5).trans rfl
  have rz5 := blk_frozen HRB4.out 5
  have rc6 : w4.cell? ⟨w.heap.size + 1 + 1, 6, none⟩ = some (.int .i64 0) := (blk_cell HRB4.out 6).trans rfl
  have rz6 := blk_frozen HRB4.out 6
  have rc7 : w4.cell? ⟨w.heap.size + 1 + 1, 7, none⟩ = some (.int .i64 0) := (blk_cell HRB4.out 7).trans rfl
  have rz7 := blk_frozen HRB4.out 7
  clear hec
  go_wp2_with fail
  refine bodyPost_ret (results_ct rfl _ _ (w.heap.size + 1 + 1) 57 zS (0, 0) _ rfl (by
    refine blk_put (cs := zS) ?_ 7 _ rfl
    refine blk_put (cs := zS) ?_ 6 _ rfl
    refine blk_put (cs := zS) ?_ 5 _ rfl
    refine blk_put (cs := zS) ?_ 4 _ rfl
    refine blk_put (cs := zS) ?_ 3 _ rfl
    refine blk_put (cs := zS) ?_ 2 _ rfl
    refine blk_put (cs := zS) ?_ 1 _ rfl
    refine blk_put (cs := zS) ?_ 0 _ rfl
    exact HRB4.out) Try.underlying57 rfl (by kernel_rfl)) rfl ?_
  refine ⟨OutP.none_ _ _ _, ?_⟩
  have hge : w.heap.size ≤ w.heap.size + 1 + 1 := by omega
  exact (((((((HB4.out.setCell (p := ⟨w.heap.size + 1 + 1, 0, none⟩) hge _).setCell (p := ⟨w.heap.size + 1 + 1, 1, none⟩) hge _).setCell (p := ⟨w.heap.size + 1 + 1, 2, none⟩) hge _).setCell (p := ⟨w.heap.size + 1 + 1, 3, none⟩) hge _).setCell (p := ⟨w.heap.size + 1 + 1, 4, none⟩) hge _).setCell (p := ⟨w.heap.size + 1 + 1, 5, none⟩) hge _).setCell (p := ⟨w.heap.size + 1 + 1, 6, none⟩) hge _).setCell (p := ⟨w.heap.size + 1 + 1, 7, none⟩) hge _
end Go.Proofs.Ytchcbncelckgeaa.Lvo
