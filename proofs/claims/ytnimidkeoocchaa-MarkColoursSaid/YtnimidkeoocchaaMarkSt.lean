/- Package mark: the marker in memory: its block, its row of things, their rows of places. -/
import Derived.Test.YtnimidkeoocchaaPK0
import Derived.Test.YtnimidkeoocchaaHand
set_option linter.unusedVariables false
set_option linter.unusedSimpArgs false
namespace Go.Proofs.Ytnimidkeoocchaa.Mrk
open Go.RowKit Go.Proofs.YtnimidkeoocchaaW.PrintWords Go.Proofs.YtnimidkeoocchaaW.PrintLast Go.Proofs.YtnimidkeoocchaaW.PrintMore Go.Proofs.Ytnimidkeoocchaa.PK Go.Proofs.Ytnimidkeoocchaa.Hnd

abbrev Th := S78
/-! ### What stays -/
structure Fr (S : Nat → Prop) (w w' : World) : Prop where
  os : w'.os = w.os
  tape : w'.tape = w.tape
  output : w'.output = w.output
  size : w.heap.size ≤ w'.heap.size
  blk : ∀ k, k < w.heap.size → ¬ S k → w'.heap[k]? = w.heap[k]?
theorem Fr.refl (S : Nat → Prop) (w : World) : Fr S w w := ⟨rfl, rfl, rfl, Nat.le_refl _, fun _ _ _ => rfl⟩
theorem Fr.trans {S : Nat → Prop} {a b c : World} (h : Fr S a b) (k : Fr S b c) : Fr S a c :=
  ⟨k.os.trans h.os, k.tape.trans h.tape, k.output.trans h.output, Nat.le_trans h.size k.size, fun i hi hn => (k.blk i (Nat.lt_of_lt_of_le hi h.size) hn).trans (h.blk i hi hn)⟩
theorem Fr.then_ {S S2 : Nat → Prop} {a b c : World} (h : Fr S a b) (k : Fr S2 b c) (hs : ∀ i, S2 i → S i ∨ a.heap.size ≤ i) : Fr S a c :=
  ⟨k.os.trans h.os, k.tape.trans h.tape, k.output.trans h.output, Nat.le_trans h.size k.size, fun i hi hn => (k.blk i (Nat.lt_of_lt_of_le hi h.size) (fun h2 => (hs i h2).elim hn (fun h3 => by omega))).trans (h.blk i hi hn)⟩
theorem Fr.of_below {S : Nat → Prop} {w w' : World} (h : Below w.heap.size w w') : Fr S w w' := ⟨h.os, h.tape, h.output, h.size, fun k hk _ => h.block k hk⟩
theorem Fr.below {S : Nat → Prop} {a b c : World} (h : Fr S a b) (k : Below b.heap.size b c) : Fr S a c := h.trans (Fr.of_below k)
theorem Fr.to_below {S : Nat → Prop} {w w' : World} {B : Nat} (h : Fr S w w') (hB : B ≤ w.heap.size) (hS : ∀ k, S k → B ≤ k) : Below B w w' :=
  ⟨h.os, h.tape, h.output, h.size, fun k hk => h.blk k (by omega) (fun hs => by have := hS k hs; omega)⟩
theorem Fr.alloc {S : Nat → Prop} {a b : World} (h : Fr S a b) (o : Obj) : Fr S a (b.alloc o) := h.below (below_alloc (Below.refl _ _) o)
theorem Fr.drew {S : Nat → Prop} {a b : World} (h : Fr S a b) : Fr S a b.drew := ⟨h.os, h.tape, h.output, h.size, h.blk⟩
theorem Fr.drewN {S : Nat → Prop} {a b : World} (h : Fr S a b) (m : Nat) : Fr S a (b.drewN m) := h.below (by repeat (first | exact Below.refl _ _ | apply pw_below_drewN))
theorem Fr.set {S : Nat → Prop} {a b : World} (h : Fr S a b) {p : Addr} (hp : S p.block ∨ a.heap.size ≤ p.block) (u : Value) : Fr S a (b.setCell p u) :=
  ⟨h.os, h.tape, h.output, Nat.le_trans h.size (by simp), fun k hk hn => (heap_setCell_other b p k u (fun e => by rw [← e] at hp; rcases hp with hp | hp; exact hn hp; omega)).trans (h.blk k hk hn)⟩
theorem Fr.grown {S : Nat → Prop} {a b c : World} {row : Option Nat} (h : Fr S a b) (hg : b.grownBy c row) (hr : ∀ k, row = some k → S k ∨ a.heap.size ≤ k) : Fr S a c :=
  ⟨hg.os.trans h.os, hg.tape.trans h.tape, hg.output.trans h.output, Nat.le_trans h.size hg.size, fun k hk hn => (hg.block k (Nat.lt_of_lt_of_le hk h.size) (fun e => by rcases hr k e.symm with h1 | h1; exact hn h1; omega)).trans (h.blk k hk hn)⟩
theorem Fr.cell {S : Nat → Prop} {a b : World} (h : Fr S a b) {p : Addr} {v : Value} (hc : a.cell? p = some v) (hn : ¬ S p.block) : b.cell? p = some v :=
  (World.cell?_of_block (h.blk _ (World.block_lt_of_cell? a p hc) hn)).trans hc
theorem Fr.obj {S : Nat → Prop} {a b : World} (h : Fr S a b) {k : Nat} {o : Obj} (hc : a.heap[k]? = some o) (hn : ¬ S k) : b.heap[k]? = some o := (h.blk k (blk_lt hc) hn).trans hc
theorem own_same {w w' : World} {base : Nat} {e : TypeId} {size : Nat} {v : Value} {n : Nat} {xs : List Value} (h : w.ownsRow base e size v n xs) (hs : ∀ k, v.ownBlock = some k → w'.heap[k]? = w.heap[k]?) : w'.ownsRow base e size v n xs := by
  refine ⟨h.1, ?_⟩
  rcases h.2 with hn | ⟨g, cap, cur, rfl, hb, hgg, rest⟩
  · exact .inl hn
  · exact .inr ⟨g, cap, cur, rfl, hb, (hs g rfl).trans hgg, rest⟩
theorem own_ty {w : World} {base : Nat} {e : TypeId} {size : Nat} {v : Value} {n : Nat} {xs : List Value} (h : w.ownsRow base e size v n xs) : ∀ k, v.ownBlock = some k → ∃ cur, w.heap[k]? = some (.cells cur e (0, 0)) := by
  intro k hk
  rcases h.2 with ⟨rfl, _⟩ | ⟨g, cap, cur, rfl, hb, hgg, rest⟩
  · simp [Value.ownBlock] at hk
  · simp [Value.ownBlock] at hk
    subst hk
    exact ⟨cur, hgg⟩
theorem own_nth {w : World} {base : Nat} {e : TypeId} {size : Nat} {v : Value} {n : Nat} {xs : List Value} (h : w.ownsRow base e size v n xs) (hn : 0 < n) : ∃ g cap, v = .slice (some ⟨g, 0, none⟩) n cap := by
  rcases h.2 with ⟨_, h0⟩ | ⟨g, cap, cur, rfl, _⟩
  · omega
  · exact ⟨g, cap, rfl⟩
theorem own_shape {w : World} {base : Nat} {e : TypeId} {size : Nat} {v : Value} {n : Nat} {xs : List Value} (h : w.ownsRow base e size v n xs) : ∃ A cap, v = .slice A n cap ∧ n ≤ cap := by
  rcases h.2 with ⟨rfl, rfl⟩ | ⟨g, cap, cur, rfl, _, _, hc, _⟩
  · exact ⟨none, 0, rfl, Nat.le_refl _⟩
  · exact ⟨_, cap, rfl, hc⟩
/-! ### Things in cells -/
def thV (p : Value) (x : Th) : List Value := [p, .int .i64 x.f1, .bool x.f2]
def cellsT : List Value → List Th → List Value
  | p :: ps, x :: l => p :: .int .i64 x.f1 :: .bool x.f2 :: cellsT ps l
  | _, _ => []
theorem cellsT_len : ∀ (ps : List Value) (l : List Th), ps.length = l.length → (cellsT ps l).length = l.length * 3
  | [], [], _ => rfl
  | p :: ps, x :: l, h => by
    have := cellsT_len ps l (by simpa using h)
    simp only [cellsT, List.length_cons, this]; omega
theorem cellsT_get : ∀ (ps : List Value) (l : List Th) (i : Nat) (h : ps.length = l.length) (hi : i < l.length), (cellsT ps l)[i * 3]? = some (ps[i]'(by omega)) ∧ (cellsT ps l)[i * 3 + 1]? = some (.int .i64 l[i].f1) ∧ (cellsT ps l)[i * 3 + 2]? = some (.bool l[i].f2)
  | [], l, _, h, hi => by simp at h; omega
  | p :: ps, [], _, h, hi => by simp at hi
  | p :: ps, x :: l, 0, _, _ => ⟨rfl, rfl, rfl⟩
  | p :: ps, x :: l, i + 1, h, hi => by
    have h_ := cellsT_get ps l i (by simpa using h) (by simpa using hi)
    have e : (i + 1) * 3 = i * 3 + 1 + 1 + 1 := by omega
    have e1 : (i + 1) * 3 + 1 = (i * 3 + 1) + 1 + 1 + 1 := by omega
    have e2 : (i + 1) * 3 + 2 = (i * 3 + 2) + 1 + 1 + 1 := by omega
    rw [e2, e1, e]
    simpa [cellsT] using h_
theorem cellsT_set1 : ∀ (ps : List Value) (l : List Th) (i : Nat) (c : Int) (h : ps.length = l.length) (hi : i < l.length), (cellsT ps l).set (i * 3 + 1) (.int .i64 c) = cellsT ps (l.set i ⟨l[i].f0, c, l[i].f2⟩)
  | [], l, _, _, h, hi => by simp at h; omega
  | p :: ps, [], _, _, h, hi => by simp at hi
  | p :: ps, x :: l, 0, c, _, _ => rfl
  | p :: ps, x :: l, i + 1, c, h, hi => by
    have h_ := cellsT_set1 ps l i c (by simpa using h) (by simpa using hi)
    have e1 : (i + 1) * 3 + 1 = (i * 3 + 1) + 1 + 1 + 1 := by omega
    rw [e1]
    simp [cellsT, h_]
theorem cellsT_set2 : ∀ (ps : List Value) (l : List Th) (i : Nat) (c : Bool) (h : ps.length = l.length) (hi : i < l.length), (cellsT ps l).set (i * 3 + 2) (.bool c) = cellsT ps (l.set i ⟨l[i].f0, l[i].f1, c⟩)
  | [], l, _, _, h, hi => by simp at h; omega
  | p :: ps, [], _, _, h, hi => by simp at hi
  | p :: ps, x :: l, 0, c, _, _ => rfl
  | p :: ps, x :: l, i + 1, c, h, hi => by
    have h_ := cellsT_set2 ps l i c (by simpa using h) (by simpa using hi)
    have e1 : (i + 1) * 3 + 2 = (i * 3 + 2) + 1 + 1 + 1 := by omega
    rw [e1]
    simp [cellsT, h_]
theorem cellsT_set3 : ∀ (ps : List Value) (l : List Th) (i : Nat) (p : Value) (x : Th) (h : ps.length = l.length) (hi : i < l.length), (((cellsT ps l).set (i * 3) p).set (i * 3 + 1) (.int .i64 x.f1)).set (i * 3 + 2) (.bool x.f2) = cellsT (ps.set i p) (l.set i x)
  | [], l, _, _, _, h, hi => by simp at h; omega
  | p :: ps, [], _, _, _, h, hi => by simp at hi
  | p :: ps, x :: l, 0, _, _, _, _ => rfl
  | p :: ps, x :: l, i + 1, p', x', h, hi => by
    have h_ := cellsT_set3 ps l i p' x' (by simpa using h) (by simpa using hi)
    have e : (i + 1) * 3 = i * 3 + 1 + 1 + 1 := by omega
    have e1 : (i + 1) * 3 + 1 = (i * 3 + 1) + 1 + 1 + 1 := by omega
    have e2 : (i + 1) * 3 + 2 = (i * 3 + 2) + 1 + 1 + 1 := by omega
    rw [e2, e1, e]
    simp [cellsT, h_]
theorem cellsT_same : ∀ (ps : List Value) (l : List Th) (i : Nat) (f : List Int) (h : ps.length = l.length) (hi : i < l.length), cellsT ps (l.set i ⟨f, l[i].f1, l[i].f2⟩) = cellsT ps l
  | [], l, _, _, h, hi => by simp at h; omega
  | p :: ps, [], _, _, h, hi => by simp at hi
  | p :: ps, x :: l, 0, f, _, _ => rfl
  | p :: ps, x :: l, i + 1, f, h, hi => by
    have h_ := cellsT_same ps l i f (by simpa using h) (by simpa using hi)
    simp [cellsT, h_]
theorem cellsT_snoc : ∀ (ps : List Value) (l : List Th) (p : Value) (x : Th) (h : ps.length = l.length), cellsT (ps ++ [p]) (l ++ [x]) = cellsT ps l ++ thV p x
  | [], [], _, _, _ => rfl
  | p :: ps, x :: l, p', x', h => by
    have h_ := cellsT_snoc ps l p' x' (by simpa using h)
    simp [cellsT, h_]
def placeRow (W : World) (p : Value) (f : List Int) : Prop := W.ownsRow 0 3 1 p f.length (f.map (Value.int .i64))
/-- No two things' rows of places are one. -/
def Sep (ps : List Value) : Prop := ∀ i j (hi : i < ps.length) (hj : j < ps.length), i ≠ j → ∀ k, ps[i].ownBlock = some k → ps[j].ownBlock ≠ some k
structure MS (W : World) (ok : Nat → Prop) (g : Nat) (kind : Int) (mk : Bool) (v : Value) (ps : List Value) (l : List Th) : Prop where
  gok : ok g
  obj : W.heap[g]? = some (.cells #[.int .i64 kind, .bool mk, v] 76 (0, 0))
  row : W.ownsRow 0 78 3 v l.length (cellsT ps l)
  len : ps.length = l.length
  pl : ∀ i (h : i < l.length), placeRow W (ps[i]'(by omega)) l[i].f0
  vok : ∀ k, v.ownBlock = some k → ok k
  pok : ∀ p ∈ ps, ∀ k, p.ownBlock = some k → ok k
  sep : Sep ps
section
variable {W W' : World} {ok ok' : Nat → Prop} {g : Nat} {kind : Int} {mk : Bool} {v : Value} {ps : List Value} {l : List Th}
theorem MS.mono (h : MS W ok g kind mk v ps l) (hs : ∀ k, ok k → ok' k) : MS W ok' g kind mk v ps l :=
  ⟨hs _ h.gok, h.obj, h.row, h.len, h.pl, fun k hk => hs _ (h.vok k hk), fun p hp k hk => hs _ (h.pok p hp k hk), h.sep⟩
theorem MS.step (h : MS W ok g kind mk v ps l) (hs : ∀ k, k < W.heap.size → ok k → W'.heap[k]? = W.heap[k]?) : MS W' ok g kind mk v ps l :=
  ⟨h.gok, (hs g (blk_lt h.obj) h.gok).trans h.obj, own_same h.row (fun k hk => hs k (h.row.lt k hk).2 (h.vok k hk)), h.len,
    fun i hi => own_same (h.pl i hi) (fun k hk => hs k ((h.pl i hi).lt k hk).2 (h.pok _ (List.getElem_mem _) k hk)), h.vok, h.pok, h.sep⟩
theorem MS.below (h : MS W ok g kind mk v ps l) (hb : Below W.heap.size W W') : MS W' ok g kind mk v ps l := h.step (fun k hk _ => hb.block k hk)
theorem MS.fr {S : Nat → Prop} (h : MS W ok g kind mk v ps l) (hf : Fr S W W') (hn : ∀ k, ok k → ¬ S k) : MS W' ok g kind mk v ps l := h.step (fun k hk ho => hf.blk k hk (hn k ho))
theorem MS.alloc (h : MS W ok g kind mk v ps l) (o : Obj) : MS (W.alloc o) ok g kind mk v ps l := h.below (below_alloc (Below.refl _ _) o)
theorem MS.drew (h : MS W ok g kind mk v ps l) : MS W.drew ok g kind mk v ps l := h.step (fun _ _ _ => rfl)
theorem MS.setFar (h : MS W ok g kind mk v ps l) {p : Addr} (hp : ¬ ok p.block) (u : Value) : MS (W.setCell p u) ok g kind mk v ps l := h.step (fun k _ ho => heap_setCell_other W p k u (fun e => hp (e ▸ ho)))
theorem MS.c0 (h : MS W ok g kind mk v ps l) : W.cell? ⟨g, 0, none⟩ = some (.int .i64 kind) := (blk_cell h.obj 0).trans rfl
theorem MS.c1 (h : MS W ok g kind mk v ps l) : W.cell? ⟨g, 1, none⟩ = some (.bool mk) := (blk_cell h.obj 1).trans rfl
theorem MS.c2 (h : MS W ok g kind mk v ps l) : W.cell? ⟨g, 2, none⟩ = some v := (blk_cell h.obj 2).trans rfl
theorem MS.z (h : MS W ok g kind mk v ps l) (i : Nat) : W.frozen? ⟨g, i, none⟩ = false := blk_frozen h.obj i
theorem MS.v_g (h : MS W ok g kind mk v ps l) : ∀ k, v.ownBlock = some k → k ≠ g := fun k hk => by
  obtain ⟨cur, hc⟩ := own_ty h.row k hk
  exact blk_ne hc h.obj (by decide)
theorem MS.p_g (h : MS W ok g kind mk v ps l) (i : Nat) (hi : i < l.length) : ∀ k, (ps[i]'(by have := h.len; omega)).ownBlock = some k → k ≠ g ∧ v.ownBlock ≠ some k := fun k hk => by
  obtain ⟨cur, hc⟩ := own_ty (h.pl i hi) k hk
  refine ⟨blk_ne hc h.obj (by decide), fun hv => ?_⟩
  obtain ⟨cur', hc'⟩ := own_ty h.row k hv
  exact blk_ne hc hc' (by decide) rfl
/-- The row's form, where there are things. -/
theorem MS.vform (h : MS W ok g kind mk v ps l) (hn : 0 < l.length) : ∃ q cap, v = .slice (some ⟨q, 0, none⟩) l.length cap := own_nth h.row hn
theorem MS.marks (h : MS W ok g kind mk v ps l) (b : Bool) : MS (W.setCell ⟨g, 1, none⟩ (.bool b)) ok g kind b v ps l := by
  have hne : ∀ k, k ≠ g → (W.setCell ⟨g, 1, none⟩ (.bool b)).heap[k]? = W.heap[k]? := fun k hk => heap_setCell_other W _ k _ hk
  exact ⟨h.gok, blk_put h.obj 1 _ rfl, own_same h.row (fun k hk => hne k (h.v_g k hk)), h.len, fun i hi => own_same (h.pl i hi) (fun k hk => hne k (h.p_g i hi k hk).1), h.vok, h.pok, h.sep⟩
theorem MS.rowset {q cap : Nat} {l' : List Th} {W' : World} (h : MS W ok g kind mk (.slice (some ⟨q, 0, none⟩) l.length cap) ps l)
    (hr : W'.ownsRow 0 78 3 (.slice (some ⟨q, 0, none⟩) l.length cap) l.length (cellsT ps l')) (hg : W.grownBy W' (some q)) (hl : l'.length = l.length) (hf : ∀ i (h1 : i < l'.length) (h2 : i < l.length), l'[i].f0 = l[i].f0) :
    MS W' ok g kind mk (.slice (some ⟨q, 0, none⟩) l.length cap) ps l' := by
  refine ⟨h.gok, blk_grown h.obj hg (fun e => h.v_g q rfl (Option.some.inj e).symm), by rw [hl]; exact hr, by rw [h.len, hl], fun i hi => ?_, h.vok, h.pok, h.sep⟩
  have hi' : i < l.length := by omega
  rw [hf i hi hi']
  have hp := h.pl i hi'
  exact own_same hp (fun k hk => hg.block k (hp.lt k hk).2 (fun e => (h.p_g i hi' k hk).2 (e ▸ rfl)))
theorem set_f0 {l : List Th} {i : Nat} {x : Th} (hi : i < l.length) (hx : x.f0 = l[i].f0) : ∀ j (h1 : j < (l.set i x).length) (h2 : j < l.length), (l.set i x)[j].f0 = l[j].f0 := by
  intro j h1 h2
  rw [List.getElem_set]
  split
  · rename_i e; subst e; exact hx
  · rfl
theorem MS.colour {q cap : Nat} (h : MS W ok g kind mk (.slice (some ⟨q, 0, none⟩) l.length cap) ps l) (i : Nat) (hi : i < l.length) (c : Int) :
    MS (W.setCell ⟨q, i * 3 + 1, none⟩ (.int .i64 c)) ok g kind mk (.slice (some ⟨q, 0, none⟩) l.length cap) ps (l.set i ⟨l[i].f0, c, l[i].f2⟩) := by
  obtain ⟨h1, h2⟩ := World.ownsRow.stored h.row (i * 3 + 1) (.int .i64 c)
  rw [cellsT_set1 ps l i c h.len hi] at h1
  exact h.rowset h1 h2 (by simp) (set_f0 hi rfl)
theorem MS.holds {q cap : Nat} (h : MS W ok g kind mk (.slice (some ⟨q, 0, none⟩) l.length cap) ps l) (i : Nat) (hi : i < l.length) (c : Bool) :
    MS (W.setCell ⟨q, i * 3 + 2, none⟩ (.bool c)) ok g kind mk (.slice (some ⟨q, 0, none⟩) l.length cap) ps (l.set i ⟨l[i].f0, l[i].f1, c⟩) := by
  obtain ⟨h1, h2⟩ := World.ownsRow.stored h.row (i * 3 + 2) (.bool c)
  rw [cellsT_set2 ps l i c h.len hi] at h1
  exact h.rowset h1 h2 (by simp) (set_f0 hi rfl)
theorem MS.cells {q cap : Nat} (h : MS W ok g kind mk (.slice (some ⟨q, 0, none⟩) l.length cap) ps l) (i : Nat) (hi : i < l.length) :
    W.cell? ⟨q, i * 3, none⟩ = some (ps[i]'(by have := h.len; omega)) ∧ W.cell? ⟨q, i * 3 + 1, none⟩ = some (.int .i64 l[i].f1) ∧ W.cell? ⟨q, i * 3 + 2, none⟩ = some (.bool l[i].f2) := by
  obtain ⟨h0, h1, h2⟩ := cellsT_get ps l i h.len hi
  exact ⟨(World.ownsRow.cellAt h.row _ (by omega)).trans h0, (World.ownsRow.cellAt h.row _ (by omega)).trans h1, (World.ownsRow.cellAt h.row _ (by omega)).trans h2⟩
theorem MS.vz {q cap : Nat} (h : MS W ok g kind mk (.slice (some ⟨q, 0, none⟩) l.length cap) ps l) (i : Nat) : W.frozen? ⟨q, i, none⟩ = false := World.ownsRow.frozenAt h.row i
/-- A place is set. -/
theorem MS.put (h : MS W ok g kind mk v ps l) (i : Nat) (hi : i < l.length) {b cap : Nat} (hp : ps[i]'(by have := h.len; omega) = .slice (some ⟨b, 0, none⟩) l[i].f0.length cap) (j : Nat) (x : Int) :
    MS (W.setCell ⟨b, j, none⟩ (.int .i64 x)) ok g kind mk v ps (l.set i ⟨l[i].f0.set j x, l[i].f1, l[i].f2⟩) := by
  have hb : (ps[i]'(by have := h.len; omega)).ownBlock = some b := by rw [hp]; rfl
  obtain ⟨n1, n2⟩ := h.p_g i hi b hb
  have hne : ∀ k, k ≠ b → (W.setCell ⟨b, j, none⟩ (.int .i64 x)).heap[k]? = W.heap[k]? := fun k hk => heap_setCell_other W _ k _ hk
  refine ⟨h.gok, (hne g (Ne.symm n1)).trans h.obj, ?_, by rw [List.length_set]; exact h.len, fun m hm => ?_, h.vok, h.pok, h.sep⟩
  · rw [List.length_set, cellsT_same ps l i _ h.len hi]
    exact own_same h.row (fun k hk => hne k (fun e => n2 (e ▸ hk)))
  · have hm' : m < l.length := by simpa using hm
    by_cases e : i = m
    · subst e
      have hr := h.pl i hi
      unfold placeRow at hr ⊢
      rw [List.getElem_set_self, hp]
      rw [hp] at hr
      have h_ := (World.ownsRow.stored hr j (.int .i64 x)).1
      rw [← List.map_set] at h_
      simpa using h_
    · rw [List.getElem_set_ne e]
      exact own_same (h.pl m hm') (fun k hk => hne k (fun e2 => h.sep m i (by have := h.len; omega) (by have := h.len; omega) (Ne.symm e) k hk (e2 ▸ hb)))
theorem MS.placesC (h : MS W ok g kind mk v ps l) (i : Nat) (hi : i < l.length) : ∃ A c, ps[i]'(by have := h.len; omega) = .slice A l[i].f0.length c ∧ l[i].f0.length ≤ c ∧ (Kd.int .i64).C W A l[i].f0.length l[i].f0 := by
  obtain ⟨A, c, e, hc⟩ := own_shape (h.pl i hi)
  have hr := h.pl i hi
  unfold placeRow at hr
  rw [e] at hr
  exact ⟨A, c, e, hc, (Kd.R_reads' (Kd.R_of_own (enc := Value.int .i64) (h1 := fun _ => rfl) (ok := fun _ => True) (xs := l[i].f0) hr (fun _ _ => trivial))).2.2⟩
end
end Go.Proofs.Ytnimidkeoocchaa.Mrk
