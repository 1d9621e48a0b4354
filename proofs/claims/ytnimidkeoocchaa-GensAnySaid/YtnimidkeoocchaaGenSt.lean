/- Package gens: the heap in memory: its block, its row of things, their rows of places. -/
import Derived.Test.YtnimidkeoocchaaPG0
import Derived.Test.YtnimidkeoocchaaHandMap
import Derived.Deep.DeepCutAuto
set_option linter.unusedVariables false
set_option linter.unusedSimpArgs false
namespace Go.Proofs.Ytnimidkeoocchaa.Gen
open Go.RowKit Go.Proofs.YtnimidkeoocchaaW.PrintWords Go.Proofs.YtnimidkeoocchaaW.PrintLast Go.Proofs.YtnimidkeoocchaaW.PrintMore Go.Proofs.Ytnimidkeoocchaa.PG Go.Proofs.Ytnimidkeoocchaa.Hnd

structure Th where
  f0 : List Int
  f1 : Int
  f2 : Bool
def zTh : Th := ⟨[], 0, false⟩
/-! ### What stays -/
structure Fr (S : Nat → Prop) (w w' : World) : Prop where
  os : w'.os = w.os
  tape : w'.tape = w.tape
  output : w'.output = w.output
  size : w.heap.size ≤ w'.heap.size
  blk : ∀ k, k < w.heap.size → ¬ S k → w'.heap[k]? = w.heap[k]?
theorem Fr.refl (S : Nat → Prop) (w : World) : Fr S w w := ⟨rfl, rfl, rfl, Nat.le_refl _, fun _ _ _ => rfl⟩
theorem Fr.trans {S : Nat → Prop} {a b c : World} (h : Fr S a b) (k : Fr S b c) : Fr S a c :=
  ⟨k.os.trans h.os, k.tape.trans h.tape, k.output.trans h.output, Nat.le_trans h.size k.size, fun i hi hn => (k.blk i (Nat.lt_of_lt_of_le hi h.size) hn).trans (h.blk i hi hn)⟩
theorem Fr.then_ {S S2 : Nat → Prop} {a b c : World} (h : Fr S a b) (k : Fr S2 b c) (hs : ∀ i, S2 i → S i ∨ a.heap.size ≤ i) : Fr S a c :=
  ⟨k.os.trans h.os, k.tape.trans h.tape, k.output.trans h.output, Nat.le_trans h.size k.size, fun i hi hn => (k.blk i (Nat.lt_of_lt_of_le hi h.size) (fun h2 => (hs i h2).elim hn (fun h3 => by omega))).trans (h.blk i hi hn)⟩
theorem Fr.of_below {S : Nat → Prop} {w w' : World} (h : Below w.heap.size w w') : Fr S w w' := ⟨h.os, h.tape, h.output, h.size, fun k hk _ => h.block k hk⟩
theorem Fr.below {S : Nat → Prop} {a b c : World} (h : Fr S a b) (k : Below b.heap.size b c) : Fr S a c := h.trans (Fr.of_below k)
theorem Fr.to_below {S : Nat → Prop} {w w' : World} {B : Nat} (h : Fr S w w') (hB : B ≤ w.heap.size) (hS : ∀ k, S k → B ≤ k) : Below B w w' :=
  ⟨h.os, h.tape, h.output, h.size, fun k hk => h.blk k (by omega) (fun hs => by have := hS k hs; omega)⟩
theorem Fr.alloc {S : Nat → Prop} {a b : World} (h : Fr S a b) (o : Obj) : Fr S a (b.alloc o) := h.below (below_alloc (Below.refl _ _) o)
theorem Fr.drew {S : Nat → Prop} {a b : World} (h : Fr S a b) : Fr S a b.drew := ⟨h.os, h.tape, h.output, h.size, h.blk⟩
theorem Fr.drewN {S : Nat → Prop} {a b : World} (h : Fr S a b) (m : Nat) : Fr S a (b.drewN m) := h.below (by repeat (first | exact Below.refl _ _ | apply pw_below_drewN))
theorem Fr.set {S : Nat → Prop} {a b : World} (h : Fr S a b) {p : Addr} (hp : S p.block ∨ a.heap.size ≤ p.block) (u : Value) : Fr S a (b.setCell p u) :=
  ⟨h.os, h.tape, h.output, Nat.le_trans h.size (by simp), fun k hk hn => (heap_setCell_other b p k u (fun e => by rw [← e] at hp; rcases hp with hp | hp; exact hn hp; omega)).trans (h.blk k hk hn)⟩
theorem Fr.grown {S : Nat → Prop} {a b c : World} {row : Option Nat} (h : Fr S a b) (hg : b.grownBy c row) (hr : ∀ k, row = some k → S k ∨ a.heap.size ≤ k) : Fr S a c :=
  ⟨hg.os.trans h.os, hg.tape.trans h.tape, hg.output.trans h.output, Nat.le_trans h.size hg.size, fun k hk hn => (hg.block k (Nat.lt_of_lt_of_le hk h.size) (fun e => by rcases hr k e.symm with h1 | h1; exact hn h1; omega)).trans (h.blk k hk hn)⟩
theorem Fr.cell {S : Nat → Prop} {a b : World} (h : Fr S a b) {p : Addr} {v : Value} (hc : a.cell? p = some v) (hn : ¬ S p.block) : b.cell? p = some v :=
  (World.cell?_of_block (h.blk _ (World.block_lt_of_cell? a p hc) hn)).trans hc
theorem Fr.obj {S : Nat → Prop} {a b : World} (h : Fr S a b) {k : Nat} {o : Obj} (hc : a.heap[k]? = some o) (hn : ¬ S k) : b.heap[k]? = some o := (h.blk k (blk_lt hc) hn).trans hc
theorem own_same {w w' : World} {base : Nat} {e : TypeId} {size : Nat} {v : Value} {n : Nat} {xs : List Value} (h : w.ownsRow base e size v n xs) (hs : ∀ k, v.ownBlock = some k → w'.heap[k]? = w.heap[k]?) : w'.ownsRow base e size v n xs := by
  refine ⟨h.1, ?_⟩
  rcases h.2 with hn | ⟨g, cap, cur, rfl, hb, hgg, rest⟩
  · exact .inl hn
  · exact .inr ⟨g, cap, cur, rfl, hb, (hs g rfl).trans hgg, rest⟩
theorem own_ty {w : World} {base : Nat} {e : TypeId} {size : Nat} {v : Value} {n : Nat} {xs : List Value} (h : w.ownsRow base e size v n xs) : ∀ k, v.ownBlock = some k → ∃ cur, w.heap[k]? = some (.cells cur e (0, 0)) := by
  intro k hk
  rcases h.2 with ⟨rfl, _⟩ | ⟨g, cap, cur, rfl, hb, hgg, rest⟩
  · simp [Value.ownBlock] at hk
  · simp [Value.ownBlock] at hk
    subst hk
    exact ⟨cur, hgg⟩
theorem own_nth {w : World} {base : Nat} {e : TypeId} {size : Nat} {v : Value} {n : Nat} {xs : List Value} (h : w.ownsRow base e size v n xs) (hn : 0 < n) : ∃ g cap, v = .slice (some ⟨g, 0, none⟩) n cap := by
  rcases h.2 with ⟨_, h0⟩ | ⟨g, cap, cur, rfl, _⟩
  · omega
  · exact ⟨g, cap, rfl⟩
theorem own_shape {w : World} {base : Nat} {e : TypeId} {size : Nat} {v : Value} {n : Nat} {xs : List Value} (h : w.ownsRow base e size v n xs) : ∃ A cap, v = .slice A n cap ∧ n ≤ cap := by
  rcases h.2 with ⟨rfl, rfl⟩ | ⟨g, cap, cur, rfl, _, _, hc, _⟩
  · exact ⟨none, 0, rfl, Nat.le_refl _⟩
  · exact ⟨_, cap, rfl, hc⟩
/-! ### Things in cells -/
def thV (p : Value) (x : Th) : List Value := [p, .int .i64 x.f1, .bool x.f2]
def cellsT : List Value → List Th → List Value
  | p :: ps, x :: l => p :: .int .i64 x.f1 :: .bool x.f2 :: cellsT ps l
  | _, _ => []
theorem cellsT_len : ∀ (ps : List Value) (l : List Th), ps.length = l.length → (cellsT ps l).length = l.length * 3
  | [], [], _ => rfl
  | p :: ps, x :: l, h => by
    have := cellsT_len ps l (by simpa using h)
    simp only [cellsT, List.length_cons, this]; omega
theorem cellsT_get : ∀ (ps : List Value) (l : List Th) (i : Nat) (h : ps.length = l.length) (hi : i < l.length), (cellsT ps l)[i * 3]? = some (ps[i]'(by omega)) ∧ (cellsT ps l)[i * 3 + 1]? = some (.int .i64 l[i].f1) ∧ (cellsT ps l)[i * 3 + 2]? = some (.bool l[i].f2)
  | [], l, _, h, hi => by simp at h; omega
  | p :: ps, [], _, h, hi => by simp at hi
  | p :: ps, x :: l, 0, _, _ => ⟨rfl, rfl, rfl⟩
  | p :: ps, x :: l, i + 1, h, hi => by
    have h_ := cellsT_get ps l i (by simpa using h) (by simpa using hi)
    have e : (i + 1) * 3 = i * 3 + 1 + 1 + 1 := by omega
    have e1 : (i + 1) * 3 + 1 = (i * 3 + 1) + 1 + 1 + 1 := by omega
    have e2 : (i + 1) * 3 + 2 = (i * 3 + 2) + 1 + 1 + 1 := by omega
    rw [e2, e1, e]
    simpa [cellsT] using h_
theorem cellsT_set1 : ∀ (ps : List Value) (l : List Th) (i : Nat) (c : Int) (h : ps.length = l.length) (hi : i < l.length), (cellsT ps l).set (i * 3 + 1) (.int .i64 c) = cellsT ps (l.set i ⟨l[i].f0, c, l[i].f2⟩)
  | [], l, _, _, h, hi => by simp at h; omega
  | p :: ps, [], _, _, h, hi => by simp at hi
  | p :: ps, x :: l, 0, c, _, _ => rfl
  | p :: ps, x :: l, i + 1, c, h, hi => by
    have h_ := cellsT_set1 ps l i c (by simpa using h) (by simpa using hi)
    have e1 : (i + 1) * 3 + 1 = (i * 3 + 1) + 1 + 1 + 1 := by omega
    rw [e1]
    simp [cellsT, h_]
theorem cellsT_set2 : ∀ (ps : List Value) (l : List Th) (i : Nat) (c : Bool) (h : ps.length = l.length) (hi : i < l.length), (cellsT ps l).set (i * 3 + 2) (.bool c) = cellsT ps (l.set i ⟨l[i].f0, l[i].f1, c⟩)
  | [], l, _, _, h, hi => by simp at h; omega
  | p :: ps, [], _, _, h, hi => by simp at hi
  | p :: ps, x :: l, 0, c, _, _ => rfl
  | p :: ps, x :: l, i + 1, c, h, hi => by
    have h_ := cellsT_set2 ps l i c (by simpa using h) (by simpa using hi)
    have e1 : (i + 1) * 3 + 2 = (i * 3 + 2) + 1 + 1 + 1 := by omega
    rw [e1]
    simp [cellsT, h_]
theorem cellsT_set3 : ∀ (ps : List Value) (l : List Th) (i : Nat) (p : Value) (x : Th) (h : ps.length = l.length) (hi : i < l.length), (((cellsT ps l).set (i * 3) p).set (i * 3 + 1) (.int .i64 x.f1)).set (i * 3 + 2) (.bool x.f2) = cellsT (ps.set i p) (l.set i x)
  | [], l, _, _, _, h, hi => by simp at h; omega
  | p :: ps, [], _, _, _, h, hi => by simp at hi
  | p :: ps, x :: l, 0, _, _, _, _ => rfl
  | p :: ps, x :: l, i + 1, p', x', h, hi => by
    have h_ := cellsT_set3 ps l i p' x' (by simpa using h) (by simpa using hi)
    have e : (i + 1) * 3 = i * 3 + 1 + 1 + 1 := by omega
    have e1 : (i + 1) * 3 + 1 = (i * 3 + 1) + 1 + 1 + 1 := by omega
    have e2 : (i + 1) * 3 + 2 = (i * 3 + 2) + 1 + 1 + 1 := by omega
    rw [e2, e1, e]
    simp [cellsT, h_]
theorem cellsT_same : ∀ (ps : List Value) (l : List Th) (i : Nat) (f : List Int) (h : ps.length = l.length) (hi : i < l.length), cellsT ps (l.set i ⟨f, l[i].f1, l[i].f2⟩) = cellsT ps l
  | [], l, _, _, h, hi => by simp at h; omega
  | p :: ps, [], _, _, h, hi => by simp at hi
  | p :: ps, x :: l, 0, f, _, _ => rfl
  | p :: ps, x :: l, i + 1, f, h, hi => by
    have h_ := cellsT_same ps l i f (by simpa using h) (by simpa using hi)
    simp [cellsT, h_]
theorem cellsT_snoc : ∀ (ps : List Value) (l : List Th) (p : Value) (x : Th) (h : ps.length = l.length), cellsT (ps ++ [p]) (l ++ [x]) = cellsT ps l ++ thV p x
  | [], [], _, _, _ => rfl
  | p :: ps, x :: l, p', x', h => by
    have h_ := cellsT_snoc ps l p' x' (by simpa using h)
    simp [cellsT, h_]
def placeRow (W : World) (p : Value) (f : List Int) : Prop := W.ownsRow 0 3 1 p f.length (f.map (Value.int .i64))
/-- No two things' rows of places are one. -/
def Sep (ps : List Value) : Prop := ∀ i j (hi : i < ps.length) (hj : j < ps.length), i ≠ j → ∀ k, ps[i].ownBlock = some k → ps[j].ownBlock ≠ some k
theorem set_same {P : Program} {k : TypeId} {w w1 : World} {b n : Nat} {s : Int → Bool} (h : IsSet P k w b n s) (he : w1.heap[b]? = w.heap[b]?) : IsSet P k w1 b n s := by
  obtain ⟨D, ⟨es, clock, hb, rest⟩, g⟩ := h
  exact ⟨D, ⟨es, clock, he.trans hb, rest⟩, g⟩
theorem own_cells {w : World} {base : Nat} {e : TypeId} {size : Nat} {v : Value} {n : Nat} {xs : List Value} (h : w.ownsRow base e size v n xs) : ∀ k, v.ownBlock = some k → ∃ cur, w.heap[k]? = some (.cells cur e (0, 0)) := own_ty h
structure GS (W : World) (ok : Nat → Prop) (g : Nat) (nur : Int) (mb cn : Nat) (rm : Int → Bool) (v : Value) (ps : List Value) (l : List Th) : Prop where
  gok : ok g
  obj : W.heap[g]? = some (.cells #[.int .i64 nur, v, .map (some mb)] 62 (0, 0))
  row : W.ownsRow 0 69 3 v l.length (cellsT ps l)
  len : ps.length = l.length
  pl : ∀ i (h : i < l.length), placeRow W (ps[i]'(by omega)) l[i].f0
  vok : ∀ k, v.ownBlock = some k → ok k
  pok : ∀ p ∈ ps, ∀ k, p.ownBlock = some k → ok k
  sep : Sep ps
  mok : ok mb
  set : IsSet Try.prog 3 W mb cn rm
section
variable {W W' : World} {ok ok' : Nat → Prop} {g : Nat} {nur : Int} {mb cn : Nat} {rm : Int → Bool} {v : Value} {ps : List Value} {l : List Th}
theorem GS.mono (h : GS W ok g nur mb cn rm v ps l) (hs : ∀ k, ok k → ok' k) : GS W ok' g nur mb cn rm v ps l :=
  ⟨hs _ h.gok, h.obj, h.row, h.len, h.pl, fun k hk => hs _ (h.vok k hk), fun p hp k hk => hs _ (h.pok p hp k hk), h.sep, hs _ h.mok, h.set⟩
theorem GS.step (h : GS W ok g nur mb cn rm v ps l) (hs : ∀ k, k < W.heap.size → ok k → W'.heap[k]? = W.heap[k]?) : GS W' ok g nur mb cn rm v ps l :=
  ⟨h.gok, (hs g (blk_lt h.obj) h.gok).trans h.obj, own_same h.row (fun k hk => hs k (h.row.lt k hk).2 (h.vok k hk)), h.len,
    fun i hi => own_same (h.pl i hi) (fun k hk => hs k ((h.pl i hi).lt k hk).2 (h.pok _ (List.getElem_mem _) k hk)), h.vok, h.pok, h.sep, h.mok, set_same h.set (hs mb h.set.lt h.mok)⟩
theorem GS.below (h : GS W ok g nur mb cn rm v ps l) (hb : Below W.heap.size W W') : GS W' ok g nur mb cn rm v ps l := h.step (fun k hk _ => hb.block k hk)
theorem GS.fr {S : Nat → Prop} (h : GS W ok g nur mb cn rm v ps l) (hf : Fr S W W') (hn : ∀ k, ok k → ¬ S k) : GS W' ok g nur mb cn rm v ps l := h.step (fun k hk ho => hf.blk k hk (hn k ho))
theorem GS.alloc (h : GS W ok g nur mb cn rm v ps l) (o : Obj) : GS (W.alloc o) ok g nur mb cn rm v ps l := h.below (below_alloc (Below.refl _ _) o)
theorem GS.drew (h : GS W ok g nur mb cn rm v ps l) : GS W.drew ok g nur mb cn rm v ps l := h.step (fun _ _ _ => rfl)
theorem GS.setFar (h : GS W ok g nur mb cn rm v ps l) {p : Addr} (hp : ¬ ok p.block) (u : Value) : GS (W.setCell p u) ok g nur mb cn rm v ps l := h.step (fun k _ ho => heap_setCell_other W p k u (fun e => hp (e ▸ ho)))
theorem GS.c0 (h : GS W ok g nur mb cn rm v ps l) : W.cell? ⟨g, 0, none⟩ = some (.int .i64 nur) := (blk_cell h.obj 0).trans rfl
theorem GS.c1 (h : GS W ok g nur mb cn rm v ps l) : W.cell? ⟨g, 1, none⟩ = some v := (blk_cell h.obj 1).trans rfl
theorem GS.c2 (h : GS W ok g nur mb cn rm v ps l) : W.cell? ⟨g, 2, none⟩ = some (.map (some mb)) := (blk_cell h.obj 2).trans rfl
theorem GS.z (h : GS W ok g nur mb cn rm v ps l) (i : Nat) : W.frozen? ⟨g, i, none⟩ = false := blk_frozen h.obj i
theorem GS.v_g (h : GS W ok g nur mb cn rm v ps l) : ∀ k, v.ownBlock = some k → k ≠ g := fun k hk => by
  obtain ⟨cur, hc⟩ := own_ty h.row k hk
  exact blk_ne hc h.obj (by decide)
theorem GS.p_g (h : GS W ok g nur mb cn rm v ps l) (i : Nat) (hi : i < l.length) : ∀ k, (ps[i]'(by have := h.len; omega)).ownBlock = some k → k ≠ g ∧ v.ownBlock ≠ some k := fun k hk => by
  obtain ⟨cur, hc⟩ := own_ty (h.pl i hi) k hk
  refine ⟨blk_ne hc h.obj (by decide), fun hv => ?_⟩
  obtain ⟨cur', hc'⟩ := own_ty h.row k hv
  exact blk_ne hc hc' (by decide) rfl
/-- The row's form, where there are things. -/
theorem GS.vform (h : GS W ok g nur mb cn rm v ps l) (hn : 0 < l.length) : ∃ q cap, v = .slice (some ⟨q, 0, none⟩) l.length cap := own_nth h.row hn
theorem GS.mb_g (h : GS W ok g nur mb cn rm v ps l) : mb ≠ g := h.set.ne h.obj
theorem GS.mb_v (h : GS W ok g nur mb cn rm v ps l) : ∀ k, v.ownBlock = some k → mb ≠ k := fun k hk => by
  obtain ⟨cur, hc⟩ := own_ty h.row k hk
  exact h.set.ne hc
theorem GS.mb_p (h : GS W ok g nur mb cn rm v ps l) (i : Nat) (hi : i < l.length) : ∀ k, (ps[i]'(by have := h.len; omega)).ownBlock = some k → mb ≠ k := fun k hk => by
  obtain ⟨cur, hc⟩ := own_ty (h.pl i hi) k hk
  exact h.set.ne hc
/-- The set has turned, and nothing else. -/
theorem GS.turned (h : GS W ok g nur mb cn rm v ps l) {cn' : Nat} {rm' : Int → Bool} (hg : W.grownBy W' (some mb)) (hs : IsSet Try.prog 3 W' mb cn' rm') : GS W' ok g nur mb cn' rm' v ps l := by
  have hne : ∀ k, k < W.heap.size → k ≠ mb → W'.heap[k]? = W.heap[k]? := fun k hk hn => hg.block k hk (fun e => hn (Option.some.inj e))
  exact ⟨h.gok, (hne g (blk_lt h.obj) (Ne.symm h.mb_g)).trans h.obj, own_same h.row (fun k hk => hne k (h.row.lt k hk).2 (Ne.symm (h.mb_v k hk))), h.len,
    fun i hi => own_same (h.pl i hi) (fun k hk => hne k ((h.pl i hi).lt k hk).2 (Ne.symm (h.mb_p i hi k hk))), h.vok, h.pok, h.sep, h.mok, hs⟩
theorem GS.rowset {q cap : Nat} {l' : List Th} {W' : World} (h : GS W ok g nur mb cn rm (.slice (some ⟨q, 0, none⟩) l.length cap) ps l)
    (hr : W'.ownsRow 0 69 3 (.slice (some ⟨q, 0, none⟩) l.length cap) l.length (cellsT ps l')) (hg : W.grownBy W' (some q)) (hl : l'.length = l.length) (hf : ∀ i (h1 : i < l'.length) (h2 : i < l.length), l'[i].f0 = l[i].f0) :
    GS W' ok g nur mb cn rm (.slice (some ⟨q, 0, none⟩) l.length cap) ps l' := by
  refine ⟨h.gok, blk_grown h.obj hg (fun e => h.v_g q rfl (Option.some.inj e).symm), by rw [hl]; exact hr, by rw [h.len, hl], fun i hi => ?_, h.vok, h.pok, h.sep, h.mok, h.set.kept hg (fun e => h.mb_v q rfl (Option.some.inj e))⟩
  have hi' : i < l.length := by omega
  rw [hf i hi hi']
  have hp := h.pl i hi'
  exact own_same hp (fun k hk => hg.block k (hp.lt k hk).2 (fun e => (h.p_g i hi' k hk).2 (e ▸ rfl)))
theorem set_f0 {l : List Th} {i : Nat} {x : Th} (hi : i < l.length) (hx : x.f0 = l[i].f0) : ∀ j (h1 : j < (l.set i x).length) (h2 : j < l.length), (l.set i x)[j].f0 = l[j].f0 := by
  intro j h1 h2
  rw [List.getElem_set]
  split
  · rename_i e; subst e; exact hx
  · rfl
theorem GS.colour {q cap : Nat} (h : GS W ok g nur mb cn rm (.slice (some ⟨q, 0, none⟩) l.length cap) ps l) (i : Nat) (hi : i < l.length) (c : Int) :
    GS (W.setCell ⟨q, i * 3 + 1, none⟩ (.int .i64 c)) ok g nur mb cn rm (.slice (some ⟨q, 0, none⟩) l.length cap) ps (l.set i ⟨l[i].f0, c, l[i].f2⟩) := by
  obtain ⟨h1, h2⟩ := World.ownsRow.stored h.row (i * 3 + 1) (.int .i64 c)
  rw [cellsT_set1 ps l i c h.len hi] at h1
  exact h.rowset h1 h2 (by simp) (set_f0 hi rfl)
theorem GS.holds {q cap : Nat} (h : GS W ok g nur mb cn rm (.slice (some ⟨q, 0, none⟩) l.length cap) ps l) (i : Nat) (hi : i < l.length) (c : Bool) :
    GS (W.setCell ⟨q, i * 3 + 2, none⟩ (.bool c)) ok g nur mb cn rm (.slice (some ⟨q, 0, none⟩) l.length cap) ps (l.set i ⟨l[i].f0, l[i].f1, c⟩) := by
  obtain ⟨h1, h2⟩ := World.ownsRow.stored h.row (i * 3 + 2) (.bool c)
  rw [cellsT_set2 ps l i c h.len hi] at h1
  exact h.rowset h1 h2 (by simp) (set_f0 hi rfl)
theorem GS.cells {q cap : Nat} (h : GS W ok g nur mb cn rm (.slice (some ⟨q, 0, none⟩) l.length cap) ps l) (i : Nat) (hi : i < l.length) :
    W.cell? ⟨q, i * 3, none⟩ = some (ps[i]'(by have := h.len; omega)) ∧ W.cell? ⟨q, i * 3 + 1, none⟩ = some (.int .i64 l[i].f1) ∧ W.cell? ⟨q, i * 3 + 2, none⟩ = some (.bool l[i].f2) := by
  obtain ⟨h0, h1, h2⟩ := cellsT_get ps l i h.len hi
  exact ⟨(World.ownsRow.cellAt h.row _ (by omega)).trans h0, (World.ownsRow.cellAt h.row _ (by omega)).trans h1, (World.ownsRow.cellAt h.row _ (by omega)).trans h2⟩
theorem GS.vz {q cap : Nat} (h : GS W ok g nur mb cn rm (.slice (some ⟨q, 0, none⟩) l.length cap) ps l) (i : Nat) : W.frozen? ⟨q, i, none⟩ = false := World.ownsRow.frozenAt h.row i
/-- A place is set. -/
theorem GS.put (h : GS W ok g nur mb cn rm v ps l) (i : Nat) (hi : i < l.length) {b cap : Nat} (hp : ps[i]'(by have := h.len; omega) = .slice (some ⟨b, 0, none⟩) l[i].f0.length cap) (j : Nat) (x : Int) :
    GS (W.setCell ⟨b, j, none⟩ (.int .i64 x)) ok g nur mb cn rm v ps (l.set i ⟨l[i].f0.set j x, l[i].f1, l[i].f2⟩) := by
  have hb : (ps[i]'(by have := h.len; omega)).ownBlock = some b := by rw [hp]; rfl
  obtain ⟨n1, n2⟩ := h.p_g i hi b hb
  have hne : ∀ k, k ≠ b → (W.setCell ⟨b, j, none⟩ (.int .i64 x)).heap[k]? = W.heap[k]? := fun k hk => heap_setCell_other W _ k _ hk
  refine ⟨h.gok, (hne g (Ne.symm n1)).trans h.obj, ?_, by rw [List.length_set]; exact h.len, fun m hm => ?_, h.vok, h.pok, h.sep, h.mok, h.set.set_ (a := ⟨b, j, none⟩) (h.mb_p i hi b hb) _⟩
  · rw [List.length_set, cellsT_same ps l i _ h.len hi]
    exact own_same h.row (fun k hk => hne k (fun e => n2 (e ▸ hk)))
  · have hm' : m < l.length := by simpa using hm
    by_cases e : i = m
    · subst e
      have hr := h.pl i hi
      unfold placeRow at hr ⊢
      rw [List.getElem_set_self, hp]
      rw [hp] at hr
      have h_ := (World.ownsRow.stored hr j (.int .i64 x)).1
      rw [← List.map_set] at h_
      simpa using h_
    · rw [List.getElem_set_ne e]
      exact own_same (h.pl m hm') (fun k hk => hne k (fun e2 => h.sep m i (by have := h.len; omega) (by have := h.len; omega) (Ne.symm e) k hk (e2 ▸ hb)))
theorem GS.placesC (h : GS W ok g nur mb cn rm v ps l) (i : Nat) (hi : i < l.length) : ∃ A c, ps[i]'(by have := h.len; omega) = .slice A l[i].f0.length c ∧ l[i].f0.length ≤ c ∧ (Kd.int .i64).C W A l[i].f0.length l[i].f0 := by
  obtain ⟨A, c, e, hc⟩ := own_shape (h.pl i hi)
  have hr := h.pl i hi
  unfold placeRow at hr
  rw [e] at hr
  exact ⟨A, c, e, hc, (Kd.R_reads' (Kd.R_of_own (enc := Value.int .i64) (h1 := fun _ => rfl) (ok := fun _ => True) (xs := l[i].f0) hr (fun _ _ => trivial))).2.2⟩
end
end Go.Proofs.Ytnimidkeoocchaa.Gen
/- Package gens: New, isYoung, are, Young. -/
namespace Go.Proofs.Ytnimidkeoocchaa.Gen
open Go.RowKit Go.Proofs.YtnimidkeoocchaaW.PrintWords Go.Proofs.YtnimidkeoocchaaW.PrintLast Go.Proofs.YtnimidkeoocchaaW.PrintMore Go.Proofs.Ytnimidkeoocchaa.PG Go.Proofs.Ytnimidkeoocchaa.Hnd

def thAt (l : List Th) (n : Nat) : Th := l.getD n zTh
theorem thAt_eq {l : List Th} {n : Nat} (h : n < l.length) : thAt l n = l[n] := by unfold thAt; rw [List.getD_eq_getElem?_getD, List.getElem?_eq_getElem h]; rfl
def setC (l : List Th) (n : Nat) (c : Int) : List Th := l.set n ⟨(thAt l n).f0, c, (thAt l n).f2⟩
def setH (l : List Th) (n : Nat) (b : Bool) : List Th := l.set n ⟨(thAt l n).f0, (thAt l n).f1, b⟩
theorem setC_len (l : List Th) (n : Nat) (c : Int) : (setC l n c).length = l.length := by simp [setC]
theorem setH_len (l : List Th) (n : Nat) (c : Bool) : (setH l n c).length = l.length := by simp [setH]
theorem GS.setC {W : World} {ok : Nat → Prop} {g : Nat} {nur : Int} {mb cn : Nat} {rm : Int → Bool} {ps : List Value} {l : List Th} {q cap : Nat} (h : GS W ok g nur mb cn rm (.slice (some ⟨q, 0, none⟩) l.length cap) ps l) (i : Nat) (hi : i < l.length) (c : Int) :
    GS (W.setCell ⟨q, i * 3 + 1, none⟩ (.int .i64 c)) ok g nur mb cn rm (.slice (some ⟨q, 0, none⟩) l.length cap) ps (setC l i c) := by
  unfold Gen.setC; rw [thAt_eq hi]; exact h.colour i hi c
theorem GS.setH {W : World} {ok : Nat → Prop} {g : Nat} {nur : Int} {mb cn : Nat} {rm : Int → Bool} {ps : List Value} {l : List Th} {q cap : Nat} (h : GS W ok g nur mb cn rm (.slice (some ⟨q, 0, none⟩) l.length cap) ps l) (i : Nat) (hi : i < l.length) (c : Bool) :
    GS (W.setCell ⟨q, i * 3 + 2, none⟩ (.bool c)) ok g nur mb cn rm (.slice (some ⟨q, 0, none⟩) l.length cap) ps (setH l i c) := by
  unfold Gen.setH; rw [thAt_eq hi]; exact h.holds i hi c
theorem info_i : (Try.prog.info? 3).map (fun i => (i.zero, i.size, i.bytes)) = some (some (.int .i64 0), 1, 8) := by kernel_rfl
/-- A thing's cells, as they are read. -/
theorem GS.at_ {W : World} {ok : Nat → Prop} {g : Nat} {nur : Int} {mb cn : Nat} {rm : Int → Bool} {v : Value} {ps : List Value} {l : List Th} (h : GS W ok g nur mb cn rm v ps l) (i : Nat) (hi : i < l.length) :
    ∃ q cap A c, v = .slice (some ⟨q, 0, none⟩) l.length cap ∧ ok q ∧ W.cell? ⟨q, i * 3, none⟩ = some (.slice A (l[i]).f0.length c) ∧ W.cell? ⟨q, i * 3 + 1, none⟩ = some (.int .i64 l[i].f1) ∧ W.cell? ⟨q, i * 3 + 2, none⟩ = some (.bool l[i].f2) ∧ ps[i]'(by have := h.len; omega) = .slice A l[i].f0.length c ∧ l[i].f0.length ≤ c ∧ (Kd.int .i64).C W A l[i].f0.length l[i].f0 := by
  obtain ⟨q, cap, rfl⟩ := h.vform (by omega)
  obtain ⟨x0, x1, x2⟩ := h.cells i hi
  obtain ⟨A, c, e, hc, hC⟩ := h.placesC i hi
  exact ⟨q, cap, A, c, rfl, h.vok q rfl, by rw [x0, e], x1, x2, e, hc, hC⟩
set_option maxHeartbeats 8000000 in
set_option maxRecDepth 100000 in
theorem new_calls (w : World) (nur : Int) (h1 : 1 ≤ nur) (h2 : nur ≤ 100) :
    Calls Try.prog 15 #[.int .i64 nur] w fun e w' => e = .returned (.tuple #[.pointer (some ⟨w.heap.size + 1, 0, none⟩), .int .i64 0]) ∧ GS w' (fun k => k = w.heap.size + 1 ∨ k = w.heap.size) (w.heap.size + 1) nur w.heap.size 0 (fun _ => false) (.slice none 0 0) [] [] ∧ Below w.heap.size w w' := by
  have d1 : decide (nur < 1) = false := decide_eq_false (by omega)
  have d2 : decide (100 < nur) = false := decide_eq_false (by omega)
  have hmm := @run_makeMap Try.prog
  clear h1 h2
  go_enter Try.func15, Try.ntmps15
  go_wp2
  go_ret2
  refine ⟨by simp, ⟨.inl rfl, by first | exact blk_new _ _ | (have h_ := blk_new (w.alloc (.map #[] 0)) (Obj.cells #[.int .i64 nur, .slice none 0 0, .map (some w.heap.size)] 62); rw [blk_size] at h_; exact h_) | (simp; done), World.ownsRow_nil _ _ _ _, rfl, fun i hi => absurd hi (Nat.not_lt_zero _), fun k hk => by simp [Value.ownBlock] at hk, fun p hp => by simp at hp, fun i j hi => absurd hi (Nat.not_lt_zero _), .inr rfl, IsSet.alloc (IsSet.made w _ _) _⟩, by repeat (first | exact Below.refl _ _ | apply below_alloc | apply pw_below_drewN | apply below_drew1)⟩
/-! ### isYoung -/
def youngB (l : List Th) (n : Int) : Bool := decide (0 ≤ n) && ((thAt l n.toNat).f1 == 0)
set_option maxHeartbeats 8000000 in
set_option maxRecDepth 100000 in
theorem isYoung_calls (w : World) {ok : Nat → Prop} {g : Nat} {nur : Int} {mb cn : Nat} {rm : Int → Bool} {v : Value} {ps : List Value} {l : List Th} (n : Int) (h : GS w ok g nur mb cn rm v ps l) (hn : n < l.length) :
    Calls Try.prog 45 #[.pointer (some ⟨g, 0, none⟩), .int .i64 n] w fun e w' => e = .returned (.bool (youngB l n)) ∧ Below w.heap.size w w' := by
  have c1 := h.c1
  by_cases h0 : 0 ≤ n
  · obtain ⟨m, rfl⟩ : ∃ m : Nat, n = m := ⟨n.toNat, by omega⟩
    have hm : m < l.length := by omega
    obtain ⟨q, cap, A, c, rfl, hqo, x0, x1, x2, hpe, hpc, hpC⟩ := h.at_ m hm
    have hd : decide (0 ≤ (m : Int)) = true := decide_eq_true h0
    have hmi : (m : Int) < (l.length : Int) := by omega
    have HY : Aside0 (youngB l m = (l[m].f1 == 0)) := ⟨by unfold youngB; rw [hd, Bool.true_and, Int.toNat_natCast, thAt_eq hm]⟩
    rw [HY.out]
    cases hq : (l[m].f1 == 0) <;>
      (generalize l[m].f1 = y at x1 hq
       clear x0 x2 hqo hpe hpc hpC h HY
       go_enter Try.func45, Try.ntmps45
       go_wp2
       go_ret
       exact ⟨by simp, by repeat (first | exact Below.refl _ _ | apply below_alloc | apply pw_below_drewN | apply below_drew1)⟩)
  · have hd : decide (0 ≤ n) = false := decide_eq_false h0
    have HY : Aside0 (youngB l n = false) := ⟨by unfold youngB; rw [hd]; rfl⟩
    rw [HY.out]
    clear c1 h h0 HY
    go_enter Try.func45, Try.ntmps45
    go_wp2
    go_ret
    exact ⟨by simp, by repeat (first | exact Below.refl _ _ | apply below_alloc | apply pw_below_drewN | apply below_drew1)⟩
/-! ### are, Young -/
def areTo (l : List Th) (a : Int) (i : Nat) : List Int := ((List.range i).filter (fun n => (thAt l n).f1 == a)).map Int.ofNat
def areL (l : List Th) (a : Int) : List Int := areTo l a l.length
theorem areTo_next (l : List Th) (a : Int) (i : Nat) : areTo l a (i + 1) = areTo l a i ++ (if ((thAt l i).f1 == a) = true then [(i : Int)] else []) := by
  unfold areTo
  rw [List.range_succ, List.filter_append, List.map_append]
  congr 1
  cases h : ((thAt l i).f1 == a)
  · simp [h]
  · simp [h]
theorem areTo_len (l : List Th) (a : Int) (i : Nat) : (areTo l a i).length ≤ i := by
  unfold areTo
  rw [List.length_map]
  exact Nat.le_trans (List.length_filter_le _ _) (by simp)
set_option maxHeartbeats 8000000 in
set_option maxRecDepth 100000 in
theorem are_calls (w : World) {ok : Nat → Prop} {g : Nat} {nur : Int} {mb cn : Nat} {rm : Int → Bool} {v : Value} {ps : List Value} {l : List Th} (a : Int) (h : GS w ok g nur mb cn rm v ps l) (hz : l.length ≤ 1000) :
    Calls Try.prog 37 #[.pointer (some ⟨g, 0, none⟩), .int .i64 a] w fun e w' => ∃ v0, e = .returned v0 ∧ Kd.R (Kd.int .i64) 3 w' w.heap.size (fun _ => True) v0 (areL l a) ∧ Below w.heap.size w w' := by
  have c1 := h.c1
  obtain ⟨AV, cV, ev, hcv⟩ := own_shape h.row
  subst ev
  have HM := Aside0.mk h
  have HZ := Aside0.mk hz
  have HU := Try.underlying29
  clear h hz
  go_enter Try.func37, Try.ntmps37
  go_wp2
  go_loopg [5, 13] l.length (fun kq v5 v13 W => ∃ i : Nat, v13 = .int .i64 (i : Int) ∧ Aside0 (i ≤ l.length ∧ kq = l.length - i) ∧ Aside0 (Kd.R (Kd.int .i64) 3 W w.heap.size (fun _ => True) v5 (areTo l a i)) ∧ Aside0 (Below w.heap.size w W))
  case atStart => exact ⟨0, rfl, ⟨Nat.zero_le _, by omega⟩, ⟨by simpa [areTo] using Kd.R_nil _ _ _ _ _⟩, ⟨by repeat (first | exact Below.refl _ _ | apply below_alloc | apply pw_below_drewN | apply below_drew1)⟩⟩
  case round =>
    obtain ⟨i, rfl, HIQ, HR, HB⟩ := hrel
    by_cases hlt : i < l.length
    · have hi0 : (0 : Int) ≤ (i : Int) := by omega
      have hi1 : (i : Int) < (l.length : Int) := by omega
      obtain ⟨q, cap, A, c, e1, hqo, x0, x1, x2, hpe, hpc, hpC⟩ := (HM.out.below HB.out).at_ i hlt
      injection e1 with e1 e2 e3
      subst e1
      subst e3
      have hdec : decide ((i : Int) < (l.length : Int)) = true := decide_eq_true hi1
      have hdec2 : decide (i < l.length) = true := decide_eq_true hlt
      have HLT := Aside0.mk hlt
      have HSN := Aside0.mk (areTo_next l a i)
      rw [thAt_eq hlt] at HSN
      have HW64 : Aside0 (wrap64 ((i : Int) + 1) = ((i + 1 : Nat) : Int)) := ⟨by have := HLT.out; have := HZ.out; unfold wrap64; omega⟩
      obtain ⟨xs, hxs⟩ : ∃ xs, xs = areTo l a i := ⟨_, rfl⟩
      have HXL : Aside0 (xs.length ≤ 1000) := ⟨by rw [hxs]; have h1_ := areTo_len l a i; have := HZ.out; omega⟩
      rw [← hxs] at HR HSN
      clear hxs
      obtain ⟨A7, c7, e7⟩ := Kd.R_slice HR.out
      subst e7
      have hbx := below_alloc (Below.refl wr.heap.size wr) (Obj.cells #[.slice A (l[i]).f0.length c, .int .i64 l[i].f1, .bool l[i].f2] 69)
      have HRX : Aside0 (Kd.R (Kd.int .i64) 3 (wr.alloc (Obj.cells #[.slice A (l[i]).f0.length c, .int .i64 l[i].f1, .bool l[i].f2] 69)) w.heap.size (fun _ => True) (.slice A7 xs.length c7) xs) := ⟨Kd.R_below HR.out hbx⟩
      have HBX : Aside0 (Below w.heap.size w (wr.alloc (Obj.cells #[.slice A (l[i]).f0.length c, .int .i64 l[i].f1, .bool l[i].f2] 69))) := ⟨HB.out.trans (below_cut hbx HB.out.size)⟩
      cases hq : (l[i].f1 == a) with
      | true =>
        rw [hq, if_pos rfl] at HSN
        generalize l[i].f2 = y2 at x2 HRX HBX
        generalize l[i].f1 = y at x1 HRX HBX hq
        generalize l[i].f0 = y0 at x0 HRX HBX
        clear hqo hpe hpc hpC hbx hlt
        go_wp2_with (first | ((with_reducible refine gate_builtin (b := .append) (xs := #[.tmp 22, .tmp 24]) rfl ?_); refine Kd.R_append (Kd.int .i64) (w0 := w) w.heap.size rfl (.tmp 22) (.tmp 24) 29 3 (.int .i64 0) 8 rfl HU info_i rfl (by decide) (by decide) (.slice A7 xs.length c7) xs (i : Int) [.int .i64 (i : Int)] (fun _ => True) (fun _ => False) rfl ?hx rfl (fun _ hk => hk.elim) (fun _ _ => trivial) HRX.out HBX.out ?hbs ?hl ?_; (case hx => rw [blk_size]; rfl); (case hbs => exact HBX.out.size); (case hl => have h_ := HXL.out; omega); intro v3 w3 ho hb hg3 hat; have HR3 := Aside0.mk ho; have HB3 := Aside0.mk hb; clear ho hb hg3 hat))
        go_roundg (l.length - (i + 1))
        case measure => have := HIQ.out; have := HLT.out; omega
        case rel => exact ⟨i + 1, by first | rfl | rw [HW64.out], ⟨by have := HLT.out; omega, rfl⟩, ⟨by rw [HSN.out]; exact HR3.out⟩, HB3⟩
      | false =>
        rw [hq, if_neg (by decide), List.append_nil] at HSN
        generalize l[i].f2 = y2 at x2 HRX HBX
        generalize l[i].f1 = y at x1 HRX HBX hq
        generalize l[i].f0 = y0 at x0 HRX HBX
        clear hqo hpe hpc hpC hbx hlt
        go_wp2_with fail
        go_roundg (l.length - (i + 1))
        case measure => have := HIQ.out; have := HLT.out; omega
        case rel => exact ⟨i + 1, by first | rfl | rw [HW64.out], ⟨by have := HLT.out; omega, rfl⟩, ⟨by rw [HSN.out]; exact HRX.out⟩, HBX⟩
    · have e_ : i = l.length := by have := HIQ.out; omega
      subst e_
      have hdec : decide ((l.length : Int) < (l.length : Int)) = false := decide_eq_false (by omega)
      have hdec2 : decide (l.length < l.length) = false := decide_eq_false hlt
      have HARE : Aside0 (areL l a = areTo l a l.length) := ⟨rfl⟩
      clear hlt HIQ
      go_wp2
      go_ret
      rw [HARE.out]
      exact ⟨_, rfl, by repeat (first | exact HR.out | apply Kd.R_drew | apply Kd.R_drewN | apply Kd.R_alloc), by repeat (first | exact HB.out | apply below_alloc | apply pw_below_drewN | apply below_drew1)⟩
set_option maxHeartbeats 8000000 in
set_option maxRecDepth 100000 in
theorem young_calls (w : World) {ok : Nat → Prop} {g : Nat} {nur : Int} {mb cn : Nat} {rm : Int → Bool} {v : Value} {ps : List Value} {l : List Th} (h : GS w ok g nur mb cn rm v ps l) (hz : l.length ≤ 1000) :
    Calls Try.prog 17 #[.pointer (some ⟨g, 0, none⟩)] w fun e w' => ∃ v0, e = .returned v0 ∧ Kd.R (Kd.int .i64) 3 w' w.heap.size (fun _ => True) v0 (areL l 0) ∧ Below w.heap.size w w' := by
  have HC := Aside0.mk (are_calls w 0 h hz)
  obtain ⟨xs, hxs⟩ : ∃ xs, xs = areL l 0 := ⟨_, rfl⟩
  rw [← hxs] at HC ⊢
  clear h hz hxs
  go_enter Try.func17, Try.ntmps17
  go_wp2_with fail
  refine HC.out.mono ?_
  rintro e w' ⟨v0, rfl, hr, hb⟩
  go_wp2_with fail
  go_ret
  exact ⟨_, rfl, hr, hb⟩
end Go.Proofs.Ytnimidkeoocchaa.Gen
/- Package gens, in plain words: what stays of things. -/
namespace Go.Proofs.Ytnimidkeoocchaa.Gen
open Go.RowKit Go.Proofs.Ytnimidkeoocchaa.PG

def posI (x : Int) : Bool := decide (0 ≤ x)
/-! ### What stays of them -/
structure OkL (l : List Th) : Prop where
  len : l.length ≤ 1000
  pl : ∀ x ∈ l, x.f0.length ≤ 1000 ∧ ∀ k ∈ x.f0, k < l.length
def hasL (l : List Th) : List (List Int) := l.map (·.f0)
theorem OkL.of_has {l l' : List Th} (h : OkL l) (e : hasL l' = hasL l) : OkL l' := by
  have hl : l'.length = l.length := by have := congrArg List.length e; simpa [hasL] using this
  refine ⟨by rw [hl]; exact h.len, fun x hx => ?_⟩
  have hm : x.f0 ∈ hasL l := e ▸ List.mem_map_of_mem hx
  obtain ⟨y, hy, he⟩ := List.mem_map.1 hm
  rw [← he, hl]
  exact h.pl y hy
theorem hasL_len {l l' : List Th} (e : hasL l' = hasL l) : l'.length = l.length := by have := congrArg List.length e; simpa [hasL] using this
theorem hasL_at {l l' : List Th} (e : hasL l' = hasL l) (i : Nat) : (thAt l' i).f0 = (thAt l i).f0 := by
  have h_ : (hasL l')[i]? = (hasL l)[i]? := by rw [e]
  unfold thAt
  simp only [hasL, List.getElem?_map, List.getD_eq_getElem?_getD] at h_ ⊢
  cases h1 : l'[i]? <;> cases h2 : l[i]? <;> simp_all
theorem set_same_has {l : List Th} {i : Nat} {x : Th} (hx : x.f0 = (thAt l i).f0) : hasL (l.set i x) = hasL l := by
  unfold hasL
  rw [List.map_set]
  apply List.ext_getElem?
  intro j
  rw [List.getElem?_set]
  split
  · rename_i e
    subst e
    split
    · rename_i h
      have h' : i < l.length := by simpa using h
      rw [hx, thAt_eq h', List.getElem?_map, List.getElem?_eq_getElem h']
      rfl
    · rename_i h
      have h' : ¬ i < l.length := by simpa using h
      rw [List.getElem?_eq_none (by simpa using h')]
  · rfl
theorem setC_has (l : List Th) (i : Nat) (c : Int) : hasL (setC l i c) = hasL l := set_same_has rfl
theorem setH_has (l : List Th) (i : Nat) (c : Bool) : hasL (setH l i c) = hasL l := set_same_has rfl
/-- What things have, and which are held. -/
def graphL (l : List Th) : List (List Int) := l.map (fun x => x.f0.filter posI)
def heldTo (l : List Th) (i : Nat) : List Int := ((List.range i).filter (fun n => (thAt l n).f2)).map Int.ofNat
def heldL (l : List Th) : List Int := heldTo l l.length
theorem heldTo_next (l : List Th) (i : Nat) : heldTo l (i + 1) = heldTo l i ++ (if (thAt l i).f2 = true then [(i : Int)] else []) := by
  unfold heldTo
  rw [List.range_succ, List.filter_append, List.map_append]
  congr 1
  by_cases h : (thAt l i).f2 = true
  · rw [if_pos h]; simp [h]
  · rw [if_neg h]; simp [h]
theorem heldTo_len (l : List Th) (i : Nat) : (heldTo l i).length ≤ i := by
  unfold heldTo
  rw [List.length_map]
  exact Nat.le_trans (List.length_filter_le _ _) (by simp)
theorem graphL_len (l : List Th) : (graphL l).length = l.length := by simp [graphL]
theorem filt_next (fs : List Int) (j : Nat) (h : j < fs.length) : (fs.take (j + 1)).filter posI = (fs.take j).filter posI ++ (if 0 ≤ fs[j] then [fs[j]] else []) := by
  rw [List.take_succ_eq_append_getElem h, List.filter_append]
  congr 1
  by_cases h0 : 0 ≤ fs[j]
  · rw [if_pos h0]; simp [posI, h0]
  · rw [if_neg h0]; simp [posI, h0]
theorem filt_len (fs : List Int) (j : Nat) : ((fs.take j).filter posI).length ≤ fs.length := Nat.le_trans (List.length_filter_le _ _) (by rw [List.length_take]; omega)
end Go.Proofs.Ytnimidkeoocchaa.Gen
/- Package gens: Graph walked. -/
namespace Go.Proofs.Ytnimidkeoocchaa.Gen
open Go.RowKit Go.Proofs.YtnimidkeoocchaaW.PrintWords Go.Proofs.YtnimidkeoocchaaW.PrintLast Go.Proofs.YtnimidkeoocchaaW.PrintMore Go.Proofs.Ytnimidkeoocchaa.PG Go.Proofs.Ytnimidkeoocchaa.Hnd

theorem R_flat {α : Type} {d : Kd α} {e B : Nat} {W W1 : World} {v : Value} {xs : List α} (hE : d.E = []) (h : d.R e W B (fun _ => True) v xs) (hm : ∀ k, v.ownBlock = some k → W1.heap[k]? = W.heap[k]?) : d.R e W1 B (fun _ => True) v xs :=
  Kd.R_mono (Kd.R_step (Kd.R_tight hE h) (fun k hk _ => hm k hk.symm)) (fun _ _ => trivial)
theorem info_sl : (Try.prog.info? 29).map (fun i => (i.zero, i.size, i.bytes)) = some (some (.slice none 0 0), 1, 24) := by kernel_rfl
theorem rdI {l : List Int} {i : Nat} (h : i < l.length) : rd l i = l[i] := by unfold rd; simp [List.getD_eq_getElem?_getD, h]
abbrev KH : Kd (List Int) := Kd.slice 3 (Kd.int .i64)
set_option maxHeartbeats 16000000 in
set_option maxRecDepth 100000 in
theorem graph_calls (w : World) {ok : Nat → Prop} {g : Nat} {nur : Int} {mb cn : Nat} {rm : Int → Bool} {v : Value} {ps : List Value} {l : List Th} (h : GS w ok g nur mb cn rm v ps l) (ho : OkL l) :
    Calls Try.prog 20 #[.pointer (some ⟨g, 0, none⟩)] w fun e w' => ∃ vh vr, e = .returned (.agg #[vh, vr]) ∧ KH.R 29 w' w.heap.size (fun _ => True) vh (graphL l) ∧ (Kd.int .i64).R 3 w' w.heap.size (fun _ => True) vr (heldL l) ∧ Below w.heap.size w w' := by
  have c1 := h.c1
  obtain ⟨AV, cV, ev, hcv⟩ := own_shape h.row
  subst ev
  have HM := Aside0.mk h
  have HO := Aside0.mk ho
  have HZ := Aside0.mk ho.len
  have hgw : g < w.heap.size := blk_lt h.obj
  have c1' : ((w.alloc (Obj.cells #[.slice none 0 0, .slice none 0 0] 38)).alloc (Obj.cells #[.slice none 0 0, .slice none 0 0] 38)).cell? ⟨g, 1, none⟩ = some (.slice AV l.length cV) := pw_cell_below (below_alloc (below_alloc (Below.refl _ _) _) _) c1
  have HB0 : Aside0 (Below w.heap.size w ((w.alloc (Obj.cells #[.slice none 0 0, .slice none 0 0] 38)).alloc (Obj.cells #[.slice none 0 0, .slice none 0 0] 38))) := ⟨below_alloc (below_alloc (Below.refl _ _) _) _⟩
  have HG0 : Aside0 (((w.alloc (Obj.cells #[.slice none 0 0, .slice none 0 0] 38)).alloc (Obj.cells #[.slice none 0 0, .slice none 0 0] 38)).heap[w.heap.size + 1]? = some (.cells #[.slice none 0 0, .slice none 0 0] 38 (0, 0))) := ⟨by have h_ := blk_new (w.alloc (Obj.cells #[.slice none 0 0, .slice none 0 0] 38)) (Obj.cells #[.slice none 0 0, .slice none 0 0] 38); rwa [blk_size] at h_⟩
  have HG1 : Aside0 (((w.alloc (Obj.cells #[.slice none 0 0, .slice none 0 0] 38)).alloc (Obj.cells #[.slice none 0 0, .slice none 0 0] 38)).heap[w.heap.size]? = some (.cells #[.slice none 0 0, .slice none 0 0] 38 (0, 0))) := ⟨blk_alloc (blk_new w _) _⟩
  have HU36 := Try.underlying36
  have HU29 := Try.underlying29
  clear h ho
  go_enter Try.func20, Try.ntmps20
  go_wp2
  go_loopg [14] l.length (fun kq v14 W => ∃ (i : Nat) (vh vr : Value), v14 = .int .i64 (i : Int) ∧ Aside0 (i ≤ l.length ∧ kq = l.length - i) ∧ Aside0 (W.heap[w.heap.size + 1]? = some (.cells #[vh, vr] 38 (0, 0))) ∧ Aside0 (W.heap[w.heap.size]? = some (.cells #[.slice none 0 0, .slice none 0 0] 38 (0, 0))) ∧ Aside0 (KH.R 29 W w.heap.size (fun k => some k ≠ vr.ownBlock) vh (graphL (l.take i))) ∧ Aside0 ((Kd.int .i64).R 3 W w.heap.size (fun _ => True) vr (heldTo l i)) ∧ Aside0 (Below w.heap.size w W))
  case atStart => exact ⟨0, .slice none 0 0, .slice none 0 0, rfl, ⟨Nat.zero_le _, by omega⟩, HG0, HG1, ⟨by simpa [graphL] using Kd.R_nil _ _ _ _ _⟩, ⟨by simpa [heldTo] using Kd.R_nil _ _ _ _ _⟩, HB0⟩
  case round =>
    clear c1 c1' HB0 HG0 HG1
    obtain ⟨i, vh, vr, rfl, HIQ, HG, HG1, HRH, HRR, HB⟩ := hrel
    by_cases hlt : i < l.length
    · obtain ⟨wo, rfl⟩ : ∃ wo, wo = wr := ⟨wr, rfl⟩
      have HMW := Aside0.mk (HM.out.below HB.out)
      obtain ⟨q, cap, A, c, e1, hqo, x0, x1, x2, hpe, hpc, hpC⟩ := HMW.out.at_ i hlt
      injection e1 with e1 e2 e3
      subst e1
      clear e2 e3
      have hi0 : (0 : Int) ≤ (i : Int) := by omega
      have hi1 : (i : Int) < (l.length : Int) := by omega
      have hdec : decide ((i : Int) < (l.length : Int)) = true := decide_eq_true hi1
      have hdec2 : decide (i < l.length) = true := decide_eq_true hlt
      have HLT := Aside0.mk hlt
      have HZL := Aside0.mk ((HO.out.pl _ (List.getElem_mem hlt)).1)
      have HSN : Aside0 (graphL (l.take (i + 1)) = graphL (l.take i) ++ [(l[i].f0).filter posI]) := ⟨by unfold graphL; rw [List.take_succ_eq_append_getElem hlt, List.map_append]; rfl⟩
      have HSR := Aside0.mk (heldTo_next l i)
      rw [thAt_eq hlt] at HSR
      have HPC := Aside0.mk hpc
      have HPCC := Aside0.mk hpC
      generalize l[i].f0 = fs at x0 HZL HSN HPC HPCC
      generalize l[i].f1 = y1 at x1
      generalize l[i].f2 = y2 at x2 HSR
      obtain ⟨xs, hxs⟩ : ∃ xs, xs = graphL (l.take i) := ⟨_, rfl⟩
      have HXL : Aside0 (xs.length ≤ 1000) := ⟨by rw [hxs]; unfold graphL; rw [List.length_map, List.length_take]; have := HZ.out; omega⟩
      rw [← hxs] at HRH HSN
      obtain ⟨rs, hrs⟩ : ∃ rs, rs = heldTo l i := ⟨_, rfl⟩
      have HRL : Aside0 (rs.length ≤ 1000) := ⟨by rw [hrs]; have h1_ := heldTo_len l i; have h2_ := HZ.out; omega⟩
      rw [← hrs] at HRR HSR
      obtain ⟨AH, cH, eH⟩ := Kd.R_slice HRH.out
      subst eH
      obtain ⟨AR, cR, eR⟩ := Kd.R_slice HRR.out
      subst eR
      obtain ⟨W1, hW1⟩ : ∃ W1, W1 = wo.alloc (Obj.cells #[.slice A fs.length c, .int .i64 y1, .bool y2] 69) := ⟨_, rfl⟩
      have hbx : Below wo.heap.size wo W1 := by rw [hW1]; exact below_alloc (Below.refl _ _) _
      have HX1 : Aside0 (W1.heap[wo.heap.size]? = some (.cells #[.slice A fs.length c, .int .i64 y1, .bool y2] 69 (0, 0))) := ⟨by rw [hW1]; exact blk_new _ _⟩
      have HGX := Aside0.mk (blk_below HG.out hbx)
      have HG1X := Aside0.mk (blk_below HG1.out hbx)
      have HHX := Aside0.mk (Kd.R_below HRH.out hbx)
      have HRX := Aside0.mk (Kd.R_below HRR.out hbx)
      have HBX : Aside0 (Below w.heap.size w W1) := ⟨HB.out.trans (below_cut hbx HB.out.size)⟩
      have HCX := Aside0.mk (Kd.C_below HPCC.out hbx)
      have HWS : Aside0 (w.heap.size + 1 < wo.heap.size) := ⟨blk_lt HG.out⟩
      have hx0 : W1.cell? ⟨wo.heap.size, 0, none⟩ = some (.slice A fs.length c) := (blk_cell HX1.out 0).trans rfl
      have HSZ : Aside0 (W1.heap.size = wo.heap.size + 1) := ⟨by rw [hW1]; exact blk_size⟩
      obtain ⟨qs, hqs⟩ : ∃ qs, qs = fs.filter posI := ⟨_, rfl⟩
      rw [← hqs] at HSN
      have HQS := Aside0.mk hqs
      clear hqs hxs hrs hqo hpe hpc hpC hbx HG HG1 HRH HRR HB HMW HPCC
      go_wp2
      simp only [← hW1]
      clear hW1 x0 x1 x2
      go_loopg [6, 22] fs.length (fun kq v6 v22 W => ∃ (j : Nat), v22 = .int .i64 (j : Int) ∧ Aside0 (j ≤ fs.length ∧ kq = fs.length - j) ∧ Aside0 ((Kd.int .i64).R 3 W W1.heap.size (fun _ => True) v6 ((fs.take j).filter posI)) ∧ Aside0 (Below W1.heap.size W1 W))
      case atStart => exact ⟨0, rfl, ⟨Nat.zero_le _, by omega⟩, ⟨by simpa using Kd.R_nil _ _ _ _ _⟩, ⟨Below.refl _ _⟩⟩
      case round =>
        obtain ⟨j, rfl, HJQ, HJR, HJB⟩ := hrel
        by_cases hj : j < fs.length
        · have hj0 : (0 : Int) ≤ (j : Int) := by omega
          have hj1 : (j : Int) < (fs.length : Int) := by omega
          obtain ⟨ad, e, hx⟩ := Kd.at_int (Kd.C_below HCX.out HJB.out) (j : Int) (by omega) (by omega)
          rw [Int.toNat_natCast, rdI hj] at hx
          subst e
          have hjdec : decide ((j : Int) < (fs.length : Int)) = true := decide_eq_true hj1
          have hjdec2 : decide (j < fs.length) = true := decide_eq_true hj
          have HJT := Aside0.mk hj
          have HFN := Aside0.mk (filt_next fs j hj)
          have HFL := Aside0.mk (filt_len fs j)
          generalize fs[j] = y at hx HFN
          have HJ64 : Aside0 (wrap64 ((j : Int) + 1) = ((j + 1 : Nat) : Int)) := ⟨by have := HZL.out; have := HJT.out; unfold wrap64; omega⟩
          obtain ⟨zs, hzs⟩ : ∃ zs, zs = (fs.take j).filter posI := ⟨_, rfl⟩
          rw [← hzs] at HJR HFN HFL
          clear hzs
          obtain ⟨AZ, cZ, eZ⟩ := Kd.R_slice HJR.out
          subst eZ
          by_cases h0 : 0 ≤ y
          · have hd0 : decide (0 ≤ y) = true := decide_eq_true h0
            rw [if_pos h0] at HFN
            clear h0 hj
            go_wp2_with (first | ((with_reducible refine gate_builtin (b := .append) (xs := #[.tmp 28, .tmp 30]) rfl ?_); refine Kd.R_append (Kd.int .i64) (w0 := W1) W1.heap.size rfl (.tmp 28) (.tmp 30) 29 3 (.int .i64 0) 8 rfl HU29 info_i rfl (by decide) (by decide) (.slice AZ zs.length cZ) zs y [.int .i64 y] (fun _ => True) (fun _ => False) rfl rfl rfl (fun _ hk => hk.elim) (fun _ _ => trivial) HJR.out HJB.out ?hbs ?hl ?_; (case hbs => exact HJB.out.size); (case hl => have h_ := HFL.out; have h2_ := HZL.out; omega); intro v3 w3 ho hb hg3 hat; have HR3 := Aside0.mk ho; have HB3 := Aside0.mk hb; clear ho hb hg3 hat))
            go_roundg (fs.length - (j + 1))
            case measure => have := HJQ.out; have := HJT.out; omega
            case rel => exact ⟨j + 1, by first | rfl | rw [HJ64.out], ⟨by have := HJT.out; omega, rfl⟩, ⟨by rw [HFN.out]; exact HR3.out⟩, HB3⟩
          · have hd0 : decide (0 ≤ y) = false := decide_eq_false h0
            rw [if_neg h0, List.append_nil] at HFN
            clear h0 hj
            go_wp2_with fail
            go_roundg (fs.length - (j + 1))
            case measure => have := HJQ.out; have := HJT.out; omega
            case rel => exact ⟨j + 1, by first | rfl | rw [HJ64.out], ⟨by have := HJT.out; omega, rfl⟩, ⟨by rw [HFN.out]; exact HJR.out⟩, HJB⟩
        · have ej : j = fs.length := by have := HJQ.out; omega
          subst ej
          have hjdec : decide ((fs.length : Int) < (fs.length : Int)) = false := decide_eq_false (by omega)
          have hjdec2 : decide (fs.length < fs.length) = false := decide_eq_false hj
          have HO6 := HJR
          rw [List.take_length, ← HQS.out] at HO6
          clear hj HJQ HJR
          have HW6 := HJB
          have hg0 : wr.cell? ⟨w.heap.size + 1, 0, none⟩ = some (.slice AH xs.length cH) := (blk_cell (blk_below HGX.out HW6.out) 0).trans rfl
          obtain ⟨A6, c6, e6⟩ := Kd.R_slice HO6.out
          subst e6
          go_upto_region 13 with (first | ((with_reducible refine gate_builtin (b := .append) (xs := #[.tmp 34, .tmp 36]) rfl ?_); refine Kd.R_append KH (w0 := w) w.heap.size rfl (.tmp 34) (.tmp 36) 36 29 (.slice none 0 0) 24 rfl HU36 info_sl rfl (by decide) (by decide) (.slice AH xs.length cH) xs qs [.slice A6 qs.length c6] (fun k => some k ≠ (Value.slice AR rs.length cR).ownBlock) (fun k => some k = (Value.slice A6 qs.length c6).ownBlock) rfl rfl ?hp7 ?hok7 ?hfr7 (Kd.R_below HHX.out HW6.out) (HBX.out.trans (below_cut HW6.out HBX.out.size)) ?hbs7 ?hl7 ?_; (case hp7 => exact ⟨_, rfl, Kd.R_lower (Kd.R_tight rfl HO6.out) HBX.out.size⟩); (case hok7 => exact fun k hk => ⟨fun e_ => (by have h1_ := ((Kd.own_of_R HO6.out).lt k hk.symm).1; have h2_ := Kd.R_lt HRX.out k e_.symm; omega), fun e_ => (by have h1_ := ((Kd.own_of_R HO6.out).lt k hk.symm).1; have h2_ := Kd.R_lt HHX.out k e_.symm; omega)⟩); (case hfr7 => exact fun k hk e_ => (by have h2_ := Kd.R_lt HRX.out k e_.symm; have h3_ := HW6.out.size; omega)); (case hbs7 => exact Nat.le_trans HBX.out.size HW6.out.size); (case hl7 => have h_ := HXL.out; omega); intro v7 w7 ho7 hb7 hg7 hat7; obtain ⟨A7, c7, e7⟩ := Kd.R_slice ho7; subst e7; have HO7 := Aside0.mk ho7; have HB7 := Aside0.mk hb7; have HG7 := Aside0.mk hg7; have HAT7 := Aside0.mk hat7; have HGB7 := Aside0.mk (blk_grown (blk_below HGX.out HW6.out) hg7 (Kd.R_ne (Kd.R_below HHX.out HW6.out) (blk_below HGX.out HW6.out) (by decide))); clear ho7 hb7 hg7 hat7; have hd7 : w7.cell? ⟨w.heap.size + 1, 0, none⟩ = some (.slice AH xs.length cH) := (blk_cell HGB7.out 0).trans rfl; have hf7 : w7.frozen? ⟨w.heap.size + 1, 0, none⟩ = false := blk_frozen HGB7.out 0))
          generalize hw8 : World.setCell w7 _ _ = w8
          have HGB8 : Aside0 (w8.heap[w.heap.size + 1]? = some (.cells #[.slice A7 (xs ++ [qs]).length c7, .slice AR rs.length cR] 38 (0, 0))) := ⟨by rw [← hw8]; simpa using blk_set HGB7.out 0 (.slice A7 (xs ++ [qs]).length c7)⟩
          have hne7 := Kd.R_ne HO7.out HGB7.out (by decide)
          have hkeep : ∀ k, k < w7.heap.size → k ≠ w.heap.size + 1 → w8.heap[k]? = w7.heap[k]? := fun k _ hk => by rw [← hw8]; exact heap_setCell_other w7 _ k _ hk
          have hB17 : Below w.heap.size w w8 := by rw [← hw8]; exact HB7.out.setCell (p := ⟨w.heap.size + 1, 0, none⟩) (by show w.heap.size ≤ _; simp) _
          have HB8 := Aside0.mk hB17
          have HX7 := blk_grown (blk_below HX1.out HW6.out) HG7.out (Kd.R_ne (Kd.R_below HHX.out HW6.out) (blk_below HX1.out HW6.out) (by decide))
          have HX8 : Aside0 (w8.heap[wo.heap.size]? = some (.cells #[.slice A fs.length c, .int .i64 y1, .bool y2] 69 (0, 0))) := ⟨(hkeep _ (blk_lt HX7) (by have := HWS.out; omega)).trans HX7⟩
          have HX17 := blk_grown (blk_below HG1X.out HW6.out) HG7.out (Kd.R_ne (Kd.R_below HHX.out HW6.out) (blk_below HG1X.out HW6.out) (by decide))
          have HG18 : Aside0 (w8.heap[w.heap.size]? = some (.cells #[.slice none 0 0, .slice none 0 0] 38 (0, 0))) := ⟨(hkeep _ (blk_lt HX17) (by omega)).trans HX17⟩
          have HRR7 : (Kd.int .i64).R 3 w7 w.heap.size (fun _ => True) (.slice AR rs.length cR) rs := R_flat rfl (Kd.R_below HRX.out HW6.out) (fun k hk => HG7.out.block k (Kd.R_lt (Kd.R_below HRX.out HW6.out) k hk) (fun e_ => by
            obtain ⟨cs_, hcs⟩ := Kd.R_typed (Kd.R_below HRX.out HW6.out) k hk
            exact Kd.R_ne (Kd.R_below HHX.out HW6.out) hcs (by decide) e_))
          have HRR8 : Aside0 ((Kd.int .i64).R 3 w8 w.heap.size (fun _ => True) (.slice AR rs.length cR) rs) := ⟨R_flat rfl HRR7 (fun k hk => hkeep k (Kd.R_lt HRR7 k hk) (fun e_ => by subst e_; exact Kd.R_ne HRR7 HGB7.out (by decide) hk.symm))⟩
          have HRH8 : Aside0 (KH.R 29 w8 w.heap.size (fun k => some k ≠ (Value.slice AR rs.length cR).ownBlock) (.slice A7 (xs ++ [qs]).length c7) (xs ++ [qs])) := ⟨by
            have h_ := Kd.R_apart' (v := .slice (some ⟨w.heap.size + 1, 0, none⟩) 0 0) HO7.out (e' := 38) (fun k hk => by simp [Value.ownBlock] at hk; subst hk; exact ⟨_, HGB7.out⟩) (by decide)
            refine Kd.R_mono (Kd.R_step h_ (fun k hk hlt => hkeep k hlt (fun e_ => hk.2 (by rw [e_]; rfl)))) (fun k hk => hk.1)⟩
          have hx2 : w8.cell? ⟨wo.heap.size, 2, none⟩ = some (.bool y2) := (blk_cell HX8.out 2).trans rfl
          have hr1 : w8.cell? ⟨w.heap.size + 1, 1, none⟩ = some (.slice AR rs.length cR) := (blk_cell HGB8.out 1).trans rfl
          have HW64 : Aside0 (wrap64 ((i : Int) + 1) = ((i + 1 : Nat) : Int)) := ⟨by have := HZ.out; unfold wrap64; omega⟩
          clear hw8 hne7 hkeep hB17 HX7 HX17 HRR7 hg0 hd7 hf7
          cases y2 with
          | false =>
            have HE : Aside0 (heldTo l (i + 1) = rs) := ⟨by rw [HSR.out]; simp⟩
            go_wp2_with fail
            go_roundg (l.length - (i + 1))
            case measure => have := HIQ.out; have := HLT.out; omega
            case rel =>
              refine ⟨i + 1, _, _, ?_, ⟨by have := HLT.out; omega, rfl⟩, HGB8, HG18, ⟨?_⟩, ⟨?_⟩, HB8⟩
              · first | rfl | rw [HW64.out]
              · rw [HSN.out]; exact HRH8.out
              · rw [HE.out]; exact HRR8.out
          | true =>
            have HE : Aside0 (heldTo l (i + 1) = rs ++ [(i : Int)]) := ⟨by rw [HSR.out]; simp⟩
            go_wp2_with (first | ((with_reducible refine gate_builtin (b := .append) (xs := #[.tmp 42, .tmp 44]) rfl ?_); refine Kd.R_append (Kd.int .i64) (w0 := w) w.heap.size rfl (.tmp 42) (.tmp 44) 29 3 (.int .i64 0) 8 rfl HU29 info_i rfl (by decide) (by decide) (.slice AR rs.length cR) rs (i : Int) [.int .i64 (i : Int)] (fun _ => True) (fun _ => False) rfl rfl rfl (fun _ hk => hk.elim) (fun _ _ => trivial) HRR8.out HB8.out ?hbs ?hl ?_; (case hbs => exact HB8.out.size); (case hl => have h_ := HRL.out; omega); intro v9 w9 ho9 hb9 hg9 hat9; obtain ⟨A9, c9, e9⟩ := Kd.R_slice ho9; subst e9; have HO9 := Aside0.mk ho9; have HB9 := Aside0.mk hb9; have HG9 := Aside0.mk hg9; have HAT9 := Aside0.mk hat9; have HGB9 := Aside0.mk (blk_grown HGB8.out hg9 (Kd.R_ne HRR8.out HGB8.out (by decide))); have hd9 : w9.cell? ⟨w.heap.size + 1, 1, none⟩ = some (.slice AR rs.length cR) := (blk_cell HGB9.out 1).trans rfl; have hf9 : w9.frozen? ⟨w.heap.size + 1, 1, none⟩ = false := blk_frozen HGB9.out 1; clear ho9 hb9 hg9 hat9))
            have hkeep : ∀ u, ∀ k, k < w9.heap.size → k ≠ w.heap.size + 1 → (w9.setCell ⟨w.heap.size + 1, 1, none⟩ u).heap[k]? = w9.heap[k]? := fun u k _ hk => heap_setCell_other w9 _ k u hk
            have HX19 := blk_grown HG18.out HG9.out (Kd.R_ne HRR8.out HG18.out (by decide))
            have HRH9 : KH.R 29 w9 w.heap.size (fun k => some k ≠ (Value.slice A9 (rs ++ [(i : Int)]).length c9).ownBlock) (.slice A7 (xs ++ [qs]).length c7) (xs ++ [qs]) := by
              refine Kd.R_mono (Kd.R_step (Kd.R_bound HRH8.out) (fun k hk hlt => HG9.out.block k hlt hk.1)) (fun k hk e_ => ?_)
              rcases HAT9.out with h_ | ⟨b_, h_, h2_⟩
              · rw [h_] at e_; exact hk.1 e_
              · rw [h_] at e_; injection e_ with e_; have := hk.2.2; omega
            go_roundg (l.length - (i + 1))
            case measure => have := HIQ.out; have := HLT.out; omega
            case rel =>
              refine ⟨i + 1, .slice A7 (xs ++ [qs]).length c7, .slice A9 (rs ++ [(i : Int)]).length c9, ?_, ⟨by have := HLT.out; omega, rfl⟩, ⟨?_⟩, ⟨?_⟩, ⟨?_⟩, ⟨?_⟩, ⟨?_⟩⟩
              · first | rfl | rw [HW64.out]
              · simpa using blk_set HGB9.out 1 (.slice A9 (rs ++ [(i : Int)]).length c9)
              · exact (hkeep _ _ (blk_lt HX19) (by omega)).trans HX19
              · rw [HSN.out]
                have h_ := Kd.R_apart' (v := .slice (some ⟨w.heap.size + 1, 0, none⟩) 0 0) HRH9 (e' := 38) (fun k hk => by simp [Value.ownBlock] at hk; subst hk; exact ⟨_, HGB9.out⟩) (by decide)
                exact Kd.R_mono (Kd.R_step h_ (fun k hk hlt => hkeep _ k hlt (fun e_ => hk.2 (by rw [e_]; rfl)))) (fun k hk => hk.1)
              · rw [HE.out]
                exact R_flat rfl HO9.out (fun k hk => hkeep _ k (Kd.R_lt HO9.out k hk) (fun e_ => by subst e_; exact Kd.R_ne HO9.out HGB9.out (by decide) hk.symm))
              · exact HB9.out.setCell (p := ⟨w.heap.size + 1, 1, none⟩) (by show w.heap.size ≤ _; simp) _
    · have e_ : i = l.length := by have := HIQ.out; omega
      subst e_
      have hdec : decide ((l.length : Int) < (l.length : Int)) = false := decide_eq_false (by omega)
      have hdec2 : decide (l.length < l.length) = false := decide_eq_false hlt
      have hg0 : wr.cell? ⟨w.heap.size + 1, 0, none⟩ = some vh := (blk_cell HG.out 0).trans rfl
      have hg1 : wr.cell? ⟨w.heap.size + 1, 1, none⟩ = some vr := (blk_cell HG.out 1).trans rfl
      obtain ⟨AH, cH, eH⟩ := Kd.R_slice HRH.out
      subst eH
      obtain ⟨AR, cR, eR⟩ := Kd.R_slice HRR.out
      subst eR
      have hh0 : wr.cell? ⟨w.heap.size, 0, none⟩ = some (.slice none 0 0) := (blk_cell HG1.out 0).trans rfl
      have hh1 : wr.cell? ⟨w.heap.size, 1, none⟩ = some (.slice none 0 0) := (blk_cell HG1.out 1).trans rfl
      have hz0 : wr.frozen? ⟨w.heap.size, 0, none⟩ = false := blk_frozen HG1.out 0
      have hz1 : wr.frozen? ⟨w.heap.size, 1, none⟩ = false := blk_frozen HG1.out 1
      have hT : graphL (l.take l.length) = graphL l := by rw [List.take_length]
      have hT2 : heldTo l l.length = heldL l := rfl
      rw [hT] at HRH
      rw [hT2] at HRR
      simp only [hT, hT2] at hg0 hg1
      have HG1b := Aside0.mk (blk_put HG1.out 0 (.slice AH (graphL l).length cH) (cs' := #[.slice AH (graphL l).length cH, .slice none 0 0]) rfl)
      have HG2b := Aside0.mk (blk_put HG1b.out 1 (.slice AR (heldL l).length cR) (cs' := #[.slice AH (graphL l).length cH, .slice AR (heldL l).length cR]) rfl)
      clear hlt hT hT2
      obtain ⟨gl, hgl⟩ : ∃ gl, gl = graphL l := ⟨_, rfl⟩
      obtain ⟨rl, hrl⟩ : ∃ rl, rl = heldL l := ⟨_, rfl⟩
      rw [← hgl] at hg0 HRH HG1b HG2b
      rw [← hrl] at hg1 HRR HG2b
      have HGL := Aside0.mk hgl
      have HRLL := Aside0.mk hrl
      clear hgl hrl
      go_wp2_with fail
      (try simp only [Exit.inBlock, Exit.then])
      refine bodyPost_ret (results_cell_row rfl _ _ w.heap.size 38 #[.slice AH gl.length cH, .slice AR rl.length cR] (0, 0) _ rfl HG2b.out Try.underlying38 rfl (by kernel_rfl)) rfl ?_
      have hk1 : ∀ u, ∀ k, k ≠ w.heap.size → (wr.setCell ⟨w.heap.size, 0, none⟩ u).heap[k]? = wr.heap[k]? := fun u k hk => heap_setCell_other wr _ k u hk
      have hk2 : ∀ u u', ∀ k, k ≠ w.heap.size → ((wr.setCell ⟨w.heap.size, 0, none⟩ u).setCell ⟨w.heap.size, 1, none⟩ u').heap[k]? = wr.heap[k]? := fun u u' k hk => (heap_setCell_other _ _ k u' hk).trans (hk1 u k hk)
      rw [← HGL.out, ← HRLL.out]
      refine ⟨_, _, rfl, ?_, ?_, (HB.out.setCell (p := ⟨w.heap.size, 0, none⟩) (Nat.le_refl _) _).setCell (p := ⟨w.heap.size, 1, none⟩) (Nat.le_refl _) _⟩
      · have h_ := Kd.R_apart' (v := .slice (some ⟨w.heap.size, 0, none⟩) 0 0) HRH.out (e' := 38) (fun k hk => by simp [Value.ownBlock] at hk; subst hk; exact ⟨_, HG1.out⟩) (by decide)
        exact Kd.R_mono (Kd.R_step h_ (fun k hk hlt => hk2 _ _ k (fun e_ => hk.2 (by rw [e_]; rfl)))) (fun k hk => trivial)
      · exact R_flat rfl HRR.out (fun k hk => hk2 _ _ k (fun e_ => by subst e_; exact Kd.R_ne HRR.out HG1.out (by decide) hk.symm))
end Go.Proofs.Ytnimidkeoocchaa.Gen
