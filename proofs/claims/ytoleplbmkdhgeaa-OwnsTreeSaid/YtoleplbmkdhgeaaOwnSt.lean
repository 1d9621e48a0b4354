/- Package owns: the tree in memory: its block, its rows, the rows of its row. -/
import Derived.Test.YtoleplbmkdhgeaaOwnRp
import Derived.Test.YtoleplbmkdhgeaaHand
set_option linter.unusedVariables false
set_option linter.unusedSimpArgs false
namespace Go.Proofs.Ytoleplbmkdhgeaa.Own
open Go.RowKit Go.Proofs.YtoleplbmkdhgeaaW.PrintWords Go.Proofs.YtoleplbmkdhgeaaW.PrintLast Go.Proofs.YtoleplbmkdhgeaaW.PrintMore Go.Proofs.Ytoleplbmkdhgeaa.Hnd

theorem own_same {w w' : World} {base : Nat} {e : TypeId} {size : Nat} {v : Value} {n : Nat} {xs : List Value} (h : w.ownsRow base e size v n xs) (hs : ∀ k, v.ownBlock = some k → w'.heap[k]? = w.heap[k]?) : w'.ownsRow base e size v n xs := by
  refine ⟨h.1, ?_⟩
  rcases h.2 with hn | ⟨g, cap, cur, rfl, hb, hgg, rest⟩
  · exact .inl hn
  · exact .inr ⟨g, cap, cur, rfl, hb, (hs g rfl).trans hgg, rest⟩
theorem own_ty {w : World} {base : Nat} {e : TypeId} {size : Nat} {v : Value} {n : Nat} {xs : List Value} (h : w.ownsRow base e size v n xs) : ∀ k, v.ownBlock = some k → ∃ cur, w.heap[k]? = some (.cells cur e (0, 0)) := by
  intro k hk
  rcases h.2 with ⟨rfl, _⟩ | ⟨g, cap, cur, rfl, hb, hgg, rest⟩
  · simp [Value.ownBlock] at hk
  · simp [Value.ownBlock] at hk
    subst hk
    exact ⟨cur, hgg⟩
theorem own_nth {w : World} {base : Nat} {e : TypeId} {size : Nat} {v : Value} {n : Nat} {xs : List Value} (h : w.ownsRow base e size v n xs) (hn : 0 < n) : ∃ g cap, v = .slice (some ⟨g, 0, none⟩) n cap := by
  rcases h.2 with ⟨_, h0⟩ | ⟨g, cap, cur, rfl, _⟩
  · omega
  · exact ⟨g, cap, rfl⟩
theorem own_shape {w : World} {base : Nat} {e : TypeId} {size : Nat} {v : Value} {n : Nat} {xs : List Value} (h : w.ownsRow base e size v n xs) : ∃ A cap, v = .slice A n cap ∧ n ≤ cap := by
  rcases h.2 with ⟨rfl, rfl⟩ | ⟨g, cap, cur, rfl, _, _, hc, _⟩
  · exact ⟨none, 0, rfl, Nat.le_refl _⟩
  · exact ⟨_, cap, rfl, hc⟩
theorem own_ne {w : World} {base : Nat} {e t : TypeId} {size : Nat} {v : Value} {n : Nat} {xs : List Value} {g : Nat} {cs : Array Value} (h : w.ownsRow base e size v n xs) (hg : w.heap[g]? = some (.cells cs t (0, 0))) (hne : e ≠ t) : v.ownBlock ≠ some g := by
  intro hk
  obtain ⟨cur, hc⟩ := own_ty h g hk
  rw [hg] at hc
  simp only [Option.some.injEq, Obj.cells.injEq] at hc
  exact hne hc.2.1.symm
theorem own_ne2 {w : World} {base base2 : Nat} {e t : TypeId} {size size2 : Nat} {v u : Value} {n m : Nat} {xs ys : List Value} (h : w.ownsRow base e size v n xs) (h2 : w.ownsRow base2 t size2 u m ys) (hne : e ≠ t) : ∀ k, v.ownBlock = some k → u.ownBlock ≠ some k := by
  intro k hk hk2
  obtain ⟨cur, hc⟩ := own_ty h2 k hk2
  exact own_ne h hc hne hk
def nilV : Value := .slice none 0 0
def rowV (ps : List Value) (k : Int) : Value := ps.getD k.toNat nilV
structure OS (W : World) (B g : Nat) (h0 h1 vP vo vF vD : Value) (ps : List Value) (N : Nat) (s : Ds) (D : List Int) : Prop where
  gB : B ≤ g
  obj : W.heap[g]? = some (.cells #[h0, h1, vP, vo, vF, vD] 75 (0, 0))
  rp : W.ownsRow B 3 1 vP N (nums .i64 s.pl)
  rd : W.ownsRow B 3 1 vD N (nums .i64 D)
  rf : W.ownsRow B 23 1 vF N ps
  ro : W.ownsRow B 3 1 vo s.ord.length (nums .i64 s.ord)
  lp : s.pl.length = N
  ld : D.length = N
  lf : s.fr.length = N
  ls : ps.length = N
  rr : ∀ i : Nat, i < N → W.ownsRow B 3 1 (rowV ps (i : Int)) (rowF s.fr (i : Int)).length (nums .i64 (rowF s.fr (i : Int)))
  pd : ∀ k, vP.ownBlock = some k → vD.ownBlock ≠ some k
  po : ∀ k, vP.ownBlock = some k → vo.ownBlock ≠ some k
  do_ : ∀ k, vD.ownBlock = some k → vo.ownBlock ≠ some k
  pr : ∀ i : Nat, i < N → ∀ k, (rowV ps (i : Int)).ownBlock = some k → vP.ownBlock ≠ some k ∧ vD.ownBlock ≠ some k ∧ vo.ownBlock ≠ some k
  rs : ∀ i j : Nat, i < N → j < N → i ≠ j → ∀ k, (rowV ps (i : Int)).ownBlock = some k → (rowV ps (j : Int)).ownBlock ≠ some k
section
variable {W W' : World} {B g N : Nat} {h0 h1 vP vo vF vD : Value} {ps : List Value} {s : Ds} {D : List Int} (h : OS W B g h0 h1 vP vo vF vD ps N s D)
include h
theorem OS.step (hs : ∀ k, k < W.heap.size → B ≤ k → W'.heap[k]? = W.heap[k]?) : OS W' B g h0 h1 vP vo vF vD ps N s D :=
  ⟨h.gB, (hs g (blk_lt h.obj) h.gB).trans h.obj, own_same h.rp (fun k hk => hs k (h.rp.lt k hk).2 (h.rp.lt k hk).1), own_same h.rd (fun k hk => hs k (h.rd.lt k hk).2 (h.rd.lt k hk).1),
    own_same h.rf (fun k hk => hs k (h.rf.lt k hk).2 (h.rf.lt k hk).1), own_same h.ro (fun k hk => hs k (h.ro.lt k hk).2 (h.ro.lt k hk).1), h.lp, h.ld, h.lf, h.ls,
    fun i hi => own_same (h.rr i hi) (fun k hk => hs k ((h.rr i hi).lt k hk).2 ((h.rr i hi).lt k hk).1), h.pd, h.po, h.do_, h.pr, h.rs⟩
theorem OS.below (hb : Below W.heap.size W W') : OS W' B g h0 h1 vP vo vF vD ps N s D := h.step (fun k hk _ => hb.block k hk)
theorem OS.c0 : W.cell? ⟨g, 0, none⟩ = some h0 := (blk_cell h.obj 0).trans rfl
theorem OS.c1 : W.cell? ⟨g, 1, none⟩ = some h1 := (blk_cell h.obj 1).trans rfl
theorem OS.c2 : W.cell? ⟨g, 2, none⟩ = some vP := (blk_cell h.obj 2).trans rfl
theorem OS.c3 : W.cell? ⟨g, 3, none⟩ = some vo := (blk_cell h.obj 3).trans rfl
theorem OS.c4 : W.cell? ⟨g, 4, none⟩ = some vF := (blk_cell h.obj 4).trans rfl
theorem OS.c5 : W.cell? ⟨g, 5, none⟩ = some vD := (blk_cell h.obj 5).trans rfl
theorem OS.sP (hN : 0 < N) : ∃ b c, vP = .slice (some ⟨b, 0, none⟩) N c := own_nth h.rp hN
theorem OS.sD (hN : 0 < N) : ∃ b c, vD = .slice (some ⟨b, 0, none⟩) N c := own_nth h.rd hN
theorem OS.sF (hN : 0 < N) : ∃ b c, vF = .slice (some ⟨b, 0, none⟩) N c := own_nth h.rf hN
theorem OS.cellP {b c : Nat} (e : vP = .slice (some ⟨b, 0, none⟩) N c) {i : Nat} (hi : i < N) : W.cell? ⟨b, i, none⟩ = some (.int .i64 (s.pl.getD i (-2))) := by
  have hr := h.rp
  rw [e] at hr
  rw [hr.cellAt i (by omega)]
  unfold nums
  rw [List.getElem?_map, List.getElem?_eq_getElem (by rw [h.lp]; exact hi), List.getD_eq_getElem?_getD, List.getElem?_eq_getElem (by rw [h.lp]; exact hi)]
  rfl
theorem OS.cellD {b c : Nat} (e : vD = .slice (some ⟨b, 0, none⟩) N c) {i : Nat} (hi : i < N) : W.cell? ⟨b, i, none⟩ = some (.int .i64 (D.getD i (-2))) := by
  have hr := h.rd
  rw [e] at hr
  rw [hr.cellAt i (by omega)]
  unfold nums
  rw [List.getElem?_map, List.getElem?_eq_getElem (by rw [h.ld]; exact hi), List.getD_eq_getElem?_getD, List.getElem?_eq_getElem (by rw [h.ld]; exact hi)]
  rfl
theorem OS.cellF {b c : Nat} (e : vF = .slice (some ⟨b, 0, none⟩) N c) {i : Nat} (hi : i < N) : W.cell? ⟨b, i, none⟩ = some (rowV ps (i : Int)) := by
  have hr := h.rf
  rw [e] at hr
  rw [hr.cellAt i (by omega)]
  unfold rowV
  rw [Int.toNat_natCast, List.getD_eq_getElem?_getD, List.getElem?_eq_getElem (by rw [h.ls]; exact hi)]
  rfl
theorem OS.fzP {b c : Nat} (e : vP = .slice (some ⟨b, 0, none⟩) N c) (i : Nat) : W.frozen? ⟨b, i, none⟩ = false := by have hr := h.rp; rw [e] at hr; exact hr.frozenAt i
theorem OS.fzD {b c : Nat} (e : vD = .slice (some ⟨b, 0, none⟩) N c) (i : Nat) : W.frozen? ⟨b, i, none⟩ = false := by have hr := h.rd; rw [e] at hr; exact hr.frozenAt i
theorem OS.fzF {b c : Nat} (e : vF = .slice (some ⟨b, 0, none⟩) N c) (i : Nat) : W.frozen? ⟨b, i, none⟩ = false := by have hr := h.rf; rw [e] at hr; exact hr.frozenAt i
theorem OS.fz (i : Nat) : W.frozen? ⟨g, i, none⟩ = false := blk_frozen h.obj i
theorem OS.rowC {i : Nat} (hi : i < N) : ∃ A c, rowV ps (i : Int) = .slice A (rowF s.fr (i : Int)).length c ∧ (rowF s.fr (i : Int)).length ≤ c ∧ (Kd.int .i64).C W A (rowF s.fr (i : Int)).length (rowF s.fr (i : Int)) := by
  obtain ⟨A, c, e, hc⟩ := own_shape (h.rr i hi)
  have hr := h.rr i hi
  rw [e] at hr
  exact ⟨A, c, e, hc, (Kd.R_reads' (Kd.R_of_own (enc := Value.int .i64) (h1 := fun _ => rfl) (ok := fun _ => True) (xs := rowF s.fr (i : Int)) hr (fun _ _ => trivial))).2.2⟩
theorem OS.ordC : ∃ A c, vo = .slice A s.ord.length c ∧ s.ord.length ≤ c ∧ (Kd.int .i64).C W A s.ord.length s.ord := by
  obtain ⟨A, c, e, hc⟩ := own_shape h.ro
  have hr := h.ro
  rw [e] at hr
  exact ⟨A, c, e, hc, (Kd.R_reads' (Kd.R_of_own (enc := Value.int .i64) (h1 := fun _ => rfl) (ok := fun _ => True) (xs := s.ord) hr (fun _ _ => trivial))).2.2⟩
/-- A place is set. -/
theorem OS.setP {b c : Nat} (e : vP = .slice (some ⟨b, 0, none⟩) N c) (i : Nat) (v : Int) : OS (W.setCell ⟨b, i, none⟩ (.int .i64 v)) B g h0 h1 vP vo vF vD ps N ⟨s.pl.set i v, s.ord, s.fr⟩ D := by
  have hb : vP.ownBlock = some b := by rw [e]; rfl
  have hne : ∀ k, k ≠ b → (W.setCell ⟨b, i, none⟩ (.int .i64 v)).heap[k]? = W.heap[k]? := fun k hk => heap_setCell_other W _ k _ hk
  refine ⟨h.gB, (hne g (fun q => own_ne h.rp h.obj (by decide) (q ▸ hb))).trans h.obj, ?_, own_same h.rd (fun k hk => hne k (fun q => h.pd b hb (q ▸ hk))), own_same h.rf (fun k hk => hne k (fun q => own_ne2 h.rf h.rp (by decide) k hk (q ▸ hb))),
    own_same h.ro (fun k hk => hne k (fun q => h.po b hb (q ▸ hk))), by simp only [List.length_set]; exact h.lp, h.ld, h.lf, h.ls, fun j hj => own_same (h.rr j hj) (fun k hk => hne k (fun q => (h.pr j hj k hk).1 (q ▸ hb))), h.pd, h.po, h.do_, h.pr, h.rs⟩
  have hr := h.rp
  rw [e] at hr ⊢
  have h_ := (hr.stored i (.int .i64 v)).1
  unfold nums at h_ ⊢
  rw [← List.map_set] at h_
  exact h_
/-- Who keeps a thing is set. -/
theorem OS.setD {b c : Nat} (e : vD = .slice (some ⟨b, 0, none⟩) N c) (i : Nat) (v : Int) : OS (W.setCell ⟨b, i, none⟩ (.int .i64 v)) B g h0 h1 vP vo vF vD ps N s (D.set i v) := by
  have hb : vD.ownBlock = some b := by rw [e]; rfl
  have hne : ∀ k, k ≠ b → (W.setCell ⟨b, i, none⟩ (.int .i64 v)).heap[k]? = W.heap[k]? := fun k hk => heap_setCell_other W _ k _ hk
  refine ⟨h.gB, (hne g (fun q => own_ne h.rd h.obj (by decide) (q ▸ hb))).trans h.obj, own_same h.rp (fun k hk => hne k (fun q => h.pd k hk (q ▸ hb))), ?_, own_same h.rf (fun k hk => hne k (fun q => own_ne2 h.rf h.rd (by decide) k hk (q ▸ hb))),
    own_same h.ro (fun k hk => hne k (fun q => h.do_ b hb (q ▸ hk))), h.lp, by rw [List.length_set]; exact h.ld, h.lf, h.ls, fun j hj => own_same (h.rr j hj) (fun k hk => hne k (fun q => (h.pr j hj k hk).2.1 (q ▸ hb))), h.pd, h.po, h.do_, h.pr, h.rs⟩
  have hr := h.rd
  rw [e] at hr ⊢
  have h_ := (hr.stored i (.int .i64 v)).1
  unfold nums at h_ ⊢
  rw [← List.map_set] at h_
  exact h_
theorem rowV_set {k : Nat} (hk : k < N) (v : Value) (i : Nat) : rowV (ps.set k v) (i : Int) = if k = i then v else rowV ps (i : Int) := by
  unfold rowV
  rw [Int.toNat_natCast, List.getD_eq_getElem?_getD, List.getElem?_set]
  by_cases e : k = i
  · rw [if_pos e, if_pos e, if_pos (by rw [h.ls]; exact hk)]; rfl
  · rw [if_neg e, if_neg e, ← List.getD_eq_getElem?_getD]
theorem rowF_set {k : Nat} (hk : k < N) (l : List Int) (i : Nat) : rowF (s.fr.set k l) (i : Int) = if k = i then l else rowF s.fr (i : Int) := by
  unfold rowF
  rw [Int.toNat_natCast, List.getD_eq_getElem?_getD, List.getElem?_set]
  by_cases e : k = i
  · rw [if_pos e, if_pos e, if_pos (by rw [h.lf]; exact hk)]; rfl
  · rw [if_neg e, if_neg e, ← List.getD_eq_getElem?_getD]
/-- One more in a thing's row. -/
theorem OS.push {W1 : World} {b c : Nat} (e : vF = .slice (some ⟨b, 0, none⟩) N c) {k : Nat} (hk : k < N) {v1 : Value} {y : Int} (ho : W1.ownsRow B 3 1 v1 (rowF s.fr (k : Int) ++ [y]).length (nums .i64 (rowF s.fr (k : Int) ++ [y])))
    (hg : W.grownBy W1 (rowV ps (k : Int)).ownBlock) (hat : v1.ownBlock = (rowV ps (k : Int)).ownBlock ∨ ∃ b, v1.ownBlock = some b ∧ W.heap.size ≤ b) :
    OS (W1.setCell ⟨b, k, none⟩ v1) B g h0 h1 vP vo vF vD (ps.set k v1) N ⟨s.pl, s.ord, s.fr.set k (rowF s.fr (k : Int) ++ [y])⟩ D := by
  have hb : vF.ownBlock = some b := by rw [e]; rfl
  have hold : ∀ {e2 : TypeId} {sz : Nat} {u : Value} {n : Nat} {xs : List Value}, W.ownsRow B e2 sz u n xs → (∀ q, u.ownBlock = some q → q ≠ b ∧ (rowV ps (k : Int)).ownBlock ≠ some q) → (W1.setCell ⟨b, k, none⟩ v1).ownsRow B e2 sz u n xs :=
    fun hu hq => own_same hu (fun q hk2 => (heap_setCell_other W1 _ q _ (hq q hk2).1).trans (hg.block q (hu.lt q hk2).2 (fun e3 => (hq q hk2).2 e3.symm)))
  have hF : W1.ownsRow B 23 1 vF N ps := own_same h.rf (fun q hq => hg.block q (h.rf.lt q hq).2 (fun e3 => own_ne2 h.rf (h.rr k hk) (by decide) q hq e3.symm))
  have hv1 : ∀ q, v1.ownBlock = some q → (q < W.heap.size → (rowV ps (k : Int)).ownBlock = some q) := by
    intro q hq hlt
    rcases hat with hat | ⟨b2, hat, hle⟩
    · rw [← hat]; exact hq
    · rw [hat] at hq
      obtain rfl := Option.some.inj hq
      omega
  refine ⟨h.gB, ?_, hold h.rp (fun q hq => ⟨fun e3 => own_ne2 h.rp h.rf (by decide) q hq (e3 ▸ hb), fun e3 => (h.pr k hk q e3).1 hq⟩), hold h.rd (fun q hq => ⟨fun e3 => own_ne2 h.rd h.rf (by decide) q hq (e3 ▸ hb), fun e3 => (h.pr k hk q e3).2.1 hq⟩), ?_,
    hold h.ro (fun q hq => ⟨fun e3 => own_ne2 h.ro h.rf (by decide) q hq (e3 ▸ hb), fun e3 => (h.pr k hk q e3).2.2 hq⟩), h.lp, h.ld, by rw [List.length_set]; exact h.lf, by rw [List.length_set]; exact h.ls, fun i hi => ?_, h.pd, h.po, h.do_, fun i hi q hq => ?_, fun i j hi hj hij q hq => ?_⟩
  · refine (heap_setCell_other W1 _ g _ (fun e3 => own_ne h.rf h.obj (by decide) (e3 ▸ hb))).trans ((hg.block g (blk_lt h.obj) (fun e3 => own_ne (h.rr k hk) h.obj (by decide) e3.symm)).trans h.obj)
  · have hr := hF
    rw [e] at hr ⊢
    exact (hr.stored k v1).1
  · rw [rowV_set h hk, rowF_set h hk]
    by_cases e3 : k = i
    · rw [if_pos e3, if_pos e3]
      refine own_same ho (fun q hq => heap_setCell_other W1 _ q _ (fun e4 => ?_))
      have e4 : q = b := e4
      subst e4
      have hlt := (h.rf.lt q hb).2
      exact own_ne2 h.rf (h.rr k hk) (by decide) q hb (hv1 q hq hlt)
    · rw [if_neg e3, if_neg e3]
      exact hold (h.rr i hi) (fun q hq => ⟨fun e4 => own_ne2 (h.rr i hi) h.rf (by decide) q hq (e4 ▸ hb), fun e4 => h.rs k i hk hi e3 q e4 hq⟩)
  · rw [rowV_set h hk] at hq
    by_cases e3 : k = i
    · rw [if_pos e3] at hq
      refine ⟨fun e4 => ?_, fun e4 => ?_, fun e4 => ?_⟩
      · exact (h.pr k hk q (hv1 q hq (h.rp.lt q e4).2)).1 e4
      · exact (h.pr k hk q (hv1 q hq (h.rd.lt q e4).2)).2.1 e4
      · exact (h.pr k hk q (hv1 q hq (h.ro.lt q e4).2)).2.2 e4
    · rw [if_neg e3] at hq
      exact h.pr i hi q hq
  · rw [rowV_set h hk] at hq ⊢
    by_cases e3 : k = i
    · rw [if_pos e3] at hq
      rw [if_neg (fun e4 => hij (e3.symm.trans e4))]
      intro e4
      exact h.rs k j hk hj (fun e5 => hij (e3.symm.trans e5)) q (hv1 q hq ((h.rr j hj).lt q e4).2) e4
    · rw [if_neg e3] at hq
      by_cases e4 : k = j
      · rw [if_pos e4]
        intro e5
        exact h.rs i k hi hk (fun e6 => e3 e6.symm) q hq (hv1 q e5 ((h.rr i hi).lt q hq).2)
      · rw [if_neg e4]
        exact h.rs i j hi hj hij q hq
/-- One more in the order. -/
theorem OS.pushO {W1 : World} {v1 : Value} {y : Int} (ho : W1.ownsRow B 3 1 v1 (s.ord ++ [y]).length (nums .i64 (s.ord ++ [y])))
    (hg : W.grownBy W1 vo.ownBlock) (hat : v1.ownBlock = vo.ownBlock ∨ ∃ b, v1.ownBlock = some b ∧ W.heap.size ≤ b) :
    OS (W1.setCell ⟨g, 3, none⟩ v1) B g h0 h1 vP v1 vF vD ps N ⟨s.pl, s.ord ++ [y], s.fr⟩ D := by
  have hold : ∀ {e2 : TypeId} {sz : Nat} {u : Value} {n : Nat} {xs : List Value}, W.ownsRow B e2 sz u n xs → (∀ q, u.ownBlock = some q → q ≠ g ∧ vo.ownBlock ≠ some q) → (W1.setCell ⟨g, 3, none⟩ v1).ownsRow B e2 sz u n xs :=
    fun hu hq => own_same hu (fun q hk2 => (heap_setCell_other W1 _ q _ (hq q hk2).1).trans (hg.block q (hu.lt q hk2).2 (fun e3 => (hq q hk2).2 e3.symm)))
  have hgo : W1.heap[g]? = some (.cells #[h0, h1, vP, vo, vF, vD] 75 (0, 0)) := (hg.block g (blk_lt h.obj) (fun e3 => own_ne h.ro h.obj (by decide) e3.symm)).trans h.obj
  have hv1 : ∀ q, v1.ownBlock = some q → (q < W.heap.size → vo.ownBlock = some q) := by
    intro q hq hlt
    rcases hat with hat | ⟨b2, hat, hle⟩
    · rw [← hat]; exact hq
    · rw [hat] at hq
      obtain rfl := Option.some.inj hq
      omega
  refine ⟨h.gB, blk_put hgo 3 v1 rfl, hold h.rp (fun q hq => ⟨fun e3 => own_ne h.rp h.obj (by decide) (e3 ▸ hq), h.po q hq⟩), hold h.rd (fun q hq => ⟨fun e3 => own_ne h.rd h.obj (by decide) (e3 ▸ hq), h.do_ q hq⟩), hold h.rf (fun q hq => ⟨fun e3 => own_ne h.rf h.obj (by decide) (e3 ▸ hq), own_ne2 h.rf h.ro (by decide) q hq⟩),
    own_same ho (fun q hq => heap_setCell_other W1 _ q _ (fun e3 => own_ne ho hgo (by decide) ((show q = g from e3) ▸ hq))), h.lp, h.ld, h.lf, h.ls, fun i hi => hold (h.rr i hi) (fun q hq => ⟨fun e3 => own_ne (h.rr i hi) h.obj (by decide) (e3 ▸ hq), (h.pr i hi q hq).2.2⟩), h.pd, fun q hq e3 => h.po q hq (hv1 q e3 (h.rp.lt q hq).2), fun q hq e3 => h.do_ q hq (hv1 q e3 (h.rd.lt q hq).2),
    fun i hi q hq => ⟨(h.pr i hi q hq).1, (h.pr i hi q hq).2.1, fun e3 => (h.pr i hi q hq).2.2 (hv1 q e3 ((h.rr i hi).lt q hq).2)⟩, h.rs⟩
end
end Go.Proofs.Ytoleplbmkdhgeaa.Own
