/- Package owns walked: sizes. -/
import Derived.Test.YtoleplbmkdhgeaaOwnBk
set_option linter.unusedVariables false
set_option linter.unusedSimpArgs false
namespace Go.Proofs.Ytoleplbmkdhgeaa.Own
open Go.RowKit Go.Shelf Go.Proofs.YtoleplbmkdhgeaaW.PrintWords Go.Proofs.YtoleplbmkdhgeaaW.PrintLast Go.Proofs.YtoleplbmkdhgeaaW.PrintMore Go.Proofs.Ytoleplbmkdhgeaa.PN Go.Proofs.Ytoleplbmkdhgeaa.Hnd Go.Lib Go.Proofs.Ytoleplbmkdhgeaa.Chk
attribute [local go_sem] Oper.semAt_some

def cellsO (o : List Int) : List Value := o.map (Value.int .i64)
theorem made_O (n : Nat) : madeCells #[.int .i64 0] n = (cellsO (List.replicate n 0)).toArray := by
  rw [made_K]
  unfold cellsO cellK rowK
  simp
/-- One thing's size is told, and told to its keeper. -/
def incZ (o : List Int) (n : Int) : List Int := o.set n.toNat (wrap64 (o.getD n.toNat 0 + 1))
def stepZ (D : List Int) (o : List Int) (n : Int) : List Int :=
  if 0 ≤ fnD D n then (incZ o n).set (fnD D n).toNat (wrap64 ((incZ o n).getD (fnD D n).toNat 0 + (incZ o n).getD n.toNat 0)) else incZ o n
theorem stepZ_len (D o : List Int) (n : Int) : (stepZ D o n).length = o.length := by unfold stepZ incZ; split <;> simp
def elB (l : List Int) (j : Fin l.length) : Int := l[l.length - 1 - j.1]'(by have := j.2; omega)
def preZ (D l : List Int) (N : Nat) (pre : List (Fin l.length)) : List Int := (pre.map (elB l)).foldl (stepZ D) (List.replicate N 0)
theorem preZ_len (D l : List Int) (N : Nat) (pre : List (Fin l.length)) : (preZ D l N pre).length = N := by
  unfold preZ
  have key : ∀ (q o : List Int), (q.foldl (stepZ D) o).length = o.length := by
    intro q
    induction q with
    | nil => intro o; rfl
    | cons x q ih => intro o; rw [List.foldl_cons, ih, stepZ_len]
  rw [key]; simp
theorem preZ_snoc (D l : List Int) (N : Nat) (pre : List (Fin l.length)) (x : Fin l.length) : preZ D l N (pre ++ [x]) = stepZ D (preZ D l N pre) (elB l x) := by unfold preZ; rw [List.map_append, List.foldl_append]; rfl
theorem elB_mem (l : List Int) (x : Fin l.length) : elB l x ∈ l := List.getElem_mem _
theorem zblk_at {W : World} {b : Nat} {o : List Int} (h : W.heap[b]? = some (.cells (cellsO o).toArray 3 (0, 0))) {i : Nat} (hi : i < o.length) : W.cell? ⟨b, i, none⟩ = some (.int .i64 (o.getD i 0)) := by
  rw [blk_cell h]
  simp [cellsO, List.getD_eq_getElem?_getD, List.getElem?_eq_getElem hi]
theorem zblk_set {W : World} {b : Nat} {o : List Int} (h : W.heap[b]? = some (.cells (cellsO o).toArray 3 (0, 0))) (i : Nat) (v : Int) : (W.setCell ⟨b, i, none⟩ (.int .i64 v)).heap[b]? = some (.cells (cellsO (o.set i v)).toArray 3 (0, 0)) := by
  have h_ := blk_set h i (.int .i64 v)
  rw [h_]
  simp [cellsO, List.map_set]
theorem cells_turn {B k : Nat} {W W' : World} {row : Option Nat} {c : Array Value} {e : TypeId} {p : Nat × Nat} (h : W.heap[k]? = some (.cells c e p)) (hg : W.grownBy W' row) (hr : ∀ r, row = some r → B ≤ r ∧ ∃ o : Obj, W.heap[r]? = some o ∧ o.isCells = false) : W'.heap[k]? = some (.cells c e p) :=
  (hg.block k (blk_lt h) (fun e_ => by
    obtain ⟨_, o, ho, hc⟩ := hr k e_.symm
    rw [h] at ho
    cases ho
    simp [Obj.isCells] at hc)).trans h
set_option maxHeartbeats 16000000 in
set_option maxRecDepth 100000 in
theorem sizes_calls (w : World) {B g N : Nat} {h0 h1 vP vo vF vD : Value} {ps : List Value} {s : Ds} {D : List Int} (h : OS w B g h0 h1 vP vo vF vD ps N s D) (hN : N ≤ 100) (hl : s.ord.length ≤ 100) (hin : ∀ x ∈ s.ord, 0 ≤ x ∧ x < (N : Int) ∧ fnD D x < (N : Int)) :
    Calls Try.prog 41 #[.pointer (some ⟨g, 0, none⟩)] w fun e w' => ∃ b, e = .returned (.slice (some ⟨b, 0, none⟩) N N) ∧ w.heap.size ≤ b ∧ w'.heap[b]? = some (.cells (cellsO (preZ D s.ord N (List.finRange s.ord.length))).toArray 3 (0, 0)) ∧ Below w.heap.size w w' := by
  refine (callsIn_wide (n := 6)).1 ?_
  obtain ⟨Ao, co, eo, hco, hCo⟩ := h.ordC
  obtain ⟨AD, cD, eD, hcD⟩ := own_shape h.rd
  have HCD : Aside0 ((Kd.int .i64).C w AD D.length D) := ⟨(Kd.R_reads' (Kd.R_of_own (enc := Value.int .i64) (h1 := fun _ => rfl) (ok := fun _ => True) (xs := D) (by have h_ := h.rd; rw [eD, ← h.ld] at h_; exact h_) (fun _ _ => trivial))).2.2⟩
  have hld := h.ld
  have hobj := h.obj
  rw [eo, eD] at hobj
  have hmk : ∀ W : World, (Instr.makeSlice 23 (.int .i64 (N : Int)) (.int .i64 (N : Int))).run Try.prog W = .ok (.slice (some ⟨W.heap.size, 0, none⟩) N N) (W.alloc (.cells (madeCells #[.int .i64 0] N) 3)) := by
    intro W
    exact run_make_row' 23 3 (.int .i64 0) 8 Try.underlying23 (by kernel_rfl) rfl .i64 .i64 N (by omega) (by omega) W
  refine callsIn_of_wp_marks Try.func41 rfl trivial ?_ rfl
  simp only [Try.ntmps41, List.size_toArray, List.length_cons, List.length_nil, Nat.reduceAdd, Nat.reduceSub, Array.replicate_succ, Array.replicate_zero, List.push_toArray, List.append_toArray, List.nil_append, List.cons_append]
  have q3 : w.cell? ⟨g, 3, none⟩ = some (.slice Ao s.ord.length co) := (blk_cell hobj 3).trans rfl
  have q5 : w.cell? ⟨g, 5, none⟩ = some (.slice AD N cD) := (blk_cell hobj 5).trans rfl
  have hgw := blk_lt hobj
  have q3' : (((w.alloc (Obj.cells #[Value.pointer (some ⟨g, 0, none⟩)] 76)).alloc (Obj.cells (madeCells #[Value.int .i64 0] N) 3)).alloc (Obj.cells #[Value.slice (some ⟨w.heap.size + 1, 0, none⟩) N N] 23)).cell? ⟨g, 3, none⟩ = some (.slice Ao s.ord.length co) := pw_cell_below (below_alloc (below_alloc (below_alloc (Below.refl _ _) _) _) _) q3
  gi_wp2
  refine ⟨trivial, ?_⟩
  clear hmk
  have HB3 : Aside0 (Below w.heap.size w (((w.alloc (Obj.cells #[Value.pointer (some ⟨g, 0, none⟩)] 76)).alloc (Obj.cells (madeCells #[Value.int .i64 0] N) 3)).alloc (Obj.cells #[Value.slice (some ⟨w.heap.size + 1, 0, none⟩) N N] 23))) := ⟨below_alloc (below_alloc (below_alloc (Below.refl _ _) _) _) _⟩
  have s1 : (w.alloc (Obj.cells #[Value.pointer (some ⟨g, 0, none⟩)] 76)).heap.size = w.heap.size + 1 := by simp
  have s2 : ((w.alloc (Obj.cells #[Value.pointer (some ⟨g, 0, none⟩)] 76)).alloc (Obj.cells (madeCells #[Value.int .i64 0] N) 3)).heap.size = w.heap.size + 1 + 1 := by simp
  have H1 : Aside0 ((((w.alloc (Obj.cells #[Value.pointer (some ⟨g, 0, none⟩)] 76)).alloc (Obj.cells (madeCells #[Value.int .i64 0] N) 3)).alloc (Obj.cells #[Value.slice (some ⟨w.heap.size + 1, 0, none⟩) N N] 23)).heap[w.heap.size]? = some (.cells #[.pointer (some ⟨g, 0, none⟩)] 76 (0, 0))) := ⟨blk_alloc (blk_alloc (blk_new w _) _) _⟩
  have H2 : Aside0 ((((w.alloc (Obj.cells #[Value.pointer (some ⟨g, 0, none⟩)] 76)).alloc (Obj.cells (madeCells #[Value.int .i64 0] N) 3)).alloc (Obj.cells #[Value.slice (some ⟨w.heap.size + 1, 0, none⟩) N N] 23)).heap[w.heap.size + 1]? = some (.cells (cellsO (preZ D s.ord N [])).toArray 3 (0, 0))) := ⟨blk_alloc (by have h_ := blk_new (w.alloc (Obj.cells #[Value.pointer (some ⟨g, 0, none⟩)] 76)) (Obj.cells (madeCells #[Value.int .i64 0] N) 3); rw [s1] at h_; rw [h_, made_O]; rfl) _⟩
  have H3 : Aside0 ((((w.alloc (Obj.cells #[Value.pointer (some ⟨g, 0, none⟩)] 76)).alloc (Obj.cells (madeCells #[Value.int .i64 0] N) 3)).alloc (Obj.cells #[Value.slice (some ⟨w.heap.size + 1, 0, none⟩) N N] 23)).heap[w.heap.size + 1 + 1]? = some (.cells #[.slice (some ⟨w.heap.size + 1, 0, none⟩) N N] 23 (0, 0))) := ⟨by have h_ := blk_new ((w.alloc (Obj.cells #[Value.pointer (some ⟨g, 0, none⟩)] 76)).alloc (Obj.cells (madeCells #[Value.int .i64 0] N) 3)) (Obj.cells #[Value.slice (some ⟨w.heap.size + 1, 0, none⟩) N N] 23); rw [s2] at h_; exact h_⟩
  clear q3' s1 s2
  generalize (((w.alloc (Obj.cells #[Value.pointer (some ⟨g, 0, none⟩)] 76)).alloc (Obj.cells (madeCells #[Value.int .i64 0] N) 3)).alloc (Obj.cells #[Value.slice (some ⟨w.heap.size + 1, 0, none⟩) N N] 23)) = w3 at HB3 H1 H2 H3 ⊢
  refine (back_in Fence.wide _ trivial rfl _ _ _ _).mono ?_
  rintro e w4 ⟨rfl, hw4⟩
  have hb4 : Below w3.heap.size w3 w4 := by rw [hw4]; exact below_alloc (Below.refl _ _) _
  have HX4 : w4.heap[w3.heap.size]? = some (.cells #[.slice Ao s.ord.length co] 23 (0, 0)) := by rw [hw4]; exact blk_new _ _
  have HS4 : w3.heap.size < w4.heap.size := blk_lt HX4
  have HB4 : Below w.heap.size w w4 := below_step HB3.out hb4
  have H14 := blk_below H1.out hb4
  have H24 := blk_below H2.out hb4
  have H34 := blk_below H3.out hb4
  have HSW : w.heap.size + 1 + 1 < w3.heap.size := blk_lt H3.out
  clear hw4 HB3 H1 H2 H3 hb4
  generalize w3.heap.size = Bs at HX4 HS4 HSW ⊢
  gi_wp2
  refine wpIn_rangeFunc_ownF (n := 6) rfl (by decide) (gf := 66) (lb := #[.pointer (some ⟨Bs, 0, none⟩)]) rfl trivial (enters_of Try.func66 (by kernel_rfl) rfl)
    (back_stops Fence.wide 5 trivial rfl (by decide) Bs w w4 Ao co s.ord hCo (by omega) HB4 HX4) (fun h k => bKp_t h k) (bKp_b HB4.size HS4) (Below.refl _ _) (fun _ => rfl)
    (fun pre W => W.heap[w.heap.size]? = some (.cells #[.pointer (some ⟨g, 0, none⟩)] 76 (0, 0)) ∧ W.heap[w.heap.size + 1]? = some (.cells (cellsO (preZ D s.ord N pre)).toArray 3 (0, 0)) ∧ W.heap[w.heap.size + 1 + 1]? = some (.cells #[.slice (some ⟨w.heap.size + 1, 0, none⟩) N N] 23 (0, 0)) ∧ Below w.heap.size w W)
    (fun _ _ _ => False)
    (fun q W W' row hs hg hr => ⟨cells_turn hs.1 hg hr, cells_turn hs.2.1 hg hr, cells_turn hs.2.2.1 hg hr, hs.2.2.2.grown hg hs.2.2.2.size (fun k e => Nat.le_trans HB4.size (hr k e).1)⟩)
    (fun _ _ _ _ _ hs _ _ => hs)
    ⟨H14, H24, H34, HB4⟩
    (fun x => { tmps := #[.pointer (some ⟨g, 0, none⟩), .pointer (some ⟨w.heap.size, 0, none⟩), .slice none 0 0, .pointer (some ⟨w.heap.size + 1 + 1, 0, none⟩), undef, .int .i64 (elB s.ord x), .pointer (some ⟨g, 0, none⟩), .pointer (some ⟨g, 0, none⟩), .pointer (some ⟨g, 5, none⟩), .slice AD N cD, .int .i64 (N : Int), .slice (some ⟨w.heap.size + 1, 0, none⟩) N N, .pointer (some ⟨g, 0, none⟩), .pointer (some ⟨g, 0, none⟩), .pointer (some ⟨g, 3, none⟩), .slice Ao s.ord.length co, .func (.func 66) #[] #[.pointer (some ⟨Bs, 0, none⟩)], .int .i64 ((s.ord.length : Int) - 1 - (x.1 : Int)), .int .i64 (elB s.ord x), undef, undef, undef, undef, undef, undef, undef, undef, undef, undef, undef, undef, undef, undef, undef, undef, undef, undef, undef, undef, undef, undef, undef, undef, undef, undef, undef, undef, undef, undef, undef], defers := [] }) ?assign ?body ?done ?stop
  case assign =>
    intro l x W K hK
    unfold bEnc
    gi_wp2
    exact hK
  case body =>
    rintro l pre x W ⟨hI1, hI2, hI3, hIB⟩ hlt
    obtain ⟨v0, v1, dv1⟩ := hin _ (elB_mem s.ord x)
    have hps := preZ_snoc D s.ord N pre x
    have hol := preZ_len D s.ord N pre
    generalize elB s.ord x = v at v0 v1 dv1 hps ⊢
    generalize preZ D s.ord N pre = o at hI2 hps hol
    have y1 : W.cell? ⟨w.heap.size, 0, none⟩ = some (.pointer (some ⟨g, 0, none⟩)) := (blk_cell hI1 0).trans rfl
    have y3 : W.cell? ⟨w.heap.size + 1 + 1, 0, none⟩ = some (.slice (some ⟨w.heap.size + 1, 0, none⟩) N N) := (blk_cell hI3 0).trans rfl
    obtain ⟨q, hq⟩ : ∃ q, q = o.getD v.toNat 0 := ⟨_, rfl⟩
    have z0 : W.cell? ⟨w.heap.size + 1, v.toNat, none⟩ = some (.int .i64 q) := by rw [hq]; exact zblk_at hI2 (by omega)
    have f0 : W.frozen? ⟨w.heap.size + 1, v.toNat, none⟩ = false := blk_frozen hI2 _
    have hJ2 : (W.setCell ⟨w.heap.size + 1, v.toNat, none⟩ (.int .i64 (wrap64 (q + 1)))).heap[w.heap.size + 1]? = some (.cells (cellsO (incZ o v)).toArray 3 (0, 0)) := by rw [hq]; exact zblk_set hI2 _ _
    have hJ1 : (W.setCell ⟨w.heap.size + 1, v.toNat, none⟩ (.int .i64 (wrap64 (q + 1)))).heap[w.heap.size]? = some (.cells #[.pointer (some ⟨g, 0, none⟩)] 76 (0, 0)) := (heap_setCell_other W _ _ _ (by show w.heap.size ≠ w.heap.size + 1; omega)).trans hI1
    have hJ3 : (W.setCell ⟨w.heap.size + 1, v.toNat, none⟩ (.int .i64 (wrap64 (q + 1)))).heap[w.heap.size + 1 + 1]? = some (.cells #[.slice (some ⟨w.heap.size + 1, 0, none⟩) N N] 23 (0, 0)) := (heap_setCell_other W _ _ _ (by show w.heap.size + 1 + 1 ≠ w.heap.size + 1; omega)).trans hI3
    have hJB : Below w.heap.size w (W.setCell ⟨w.heap.size + 1, v.toNat, none⟩ (.int .i64 (wrap64 (q + 1)))) := hIB.setCell (p := ⟨w.heap.size + 1, v.toNat, none⟩) (by show w.heap.size ≤ w.heap.size + 1; omega) _
    have hKO : KeepsOthers W (W.setCell ⟨w.heap.size + 1, v.toNat, none⟩ (.int .i64 (wrap64 (q + 1)))) := KeepsOthers.setCell _ _ _
    have hKp : bKp w.heap.size Bs W (W.setCell ⟨w.heap.size + 1, v.toNat, none⟩ (.int .i64 (wrap64 (q + 1)))) := ⟨heap_setCell_other W _ _ _ (by show Bs ≠ w.heap.size + 1; omega), (Below.refl _ _).setCell (p := ⟨w.heap.size + 1, v.toNat, none⟩) (by show w.heap.size ≤ w.heap.size + 1; omega) _⟩
    have u1 : (W.setCell ⟨w.heap.size + 1, v.toNat, none⟩ (.int .i64 (wrap64 (q + 1)))).cell? ⟨w.heap.size, 0, none⟩ = some (.pointer (some ⟨g, 0, none⟩)) := (blk_cell hJ1 0).trans rfl
    have u5 : (W.setCell ⟨w.heap.size + 1, v.toNat, none⟩ (.int .i64 (wrap64 (q + 1)))).cell? ⟨g, 5, none⟩ = some (.slice AD N cD) := pw_cell_below hJB q5
    obtain ⟨adD, eAD, hx⟩ := at_doms (Kd.C_below HCD.out hJB) v0 (by rw [hld]; exact v1)
    obtain ⟨adD2, eAD2, hxW⟩ := at_doms (Kd.C_below HCD.out hIB) v0 (by rw [hld]; exact v1)
    have eA3 : adD2 = adD := Option.some.inj (eAD2.symm.trans eAD)
    rw [eA3] at hxW
    clear eAD2 eA3 hq
    subst eAD
    have g5 : W.cell? ⟨g, 5, none⟩ = some (.slice (some adD) N cD) := pw_cell_below hIB q5
    by_cases hd : 0 ≤ fnD D v
    · have hd0 : decide (fnD D v ≥ 0) = true := decide_eq_true hd
      have hd1 : decide (0 ≤ fnD D v) = true := hd0
      gi_wp2
      clear y1 y3 z0 f0 g5 hxW hd0 hd1 hI1 hI2 hI3 hIB
      generalize W.setCell ⟨w.heap.size + 1, v.toNat, none⟩ (.int .i64 (wrap64 (q + 1))) = W1 at hJ1 hJ2 hJ3 hJB hKO hKp u1 u5 hx ⊢
      have hst : stepZ D o v = (incZ o v).set (fnD D v).toNat (wrap64 ((incZ o v).getD (fnD D v).toNat 0 + (incZ o v).getD v.toNat 0)) := by unfold stepZ; rw [if_pos hd]
      have hil : (incZ o v).length = N := by unfold incZ; rw [List.length_set]; exact hol
      rw [← hps] at hst
      generalize incZ o v = io at hJ2 hst hil
      generalize fnD D v = d at hd dv1 hx hst
      have u3 : W1.cell? ⟨w.heap.size + 1 + 1, 0, none⟩ = some (.slice (some ⟨w.heap.size + 1, 0, none⟩) N N) := (blk_cell hJ3 0).trans rfl
      have zd : W1.cell? ⟨w.heap.size + 1, d.toNat, none⟩ = some (.int .i64 (io.getD d.toNat 0)) := zblk_at hJ2 (by omega)
      have zv : W1.cell? ⟨w.heap.size + 1, v.toNat, none⟩ = some (.int .i64 (io.getD v.toNat 0)) := zblk_at hJ2 (by omega)
      generalize io.getD d.toNat 0 = p at zd hst
      generalize io.getD v.toNat 0 = r at zv hst
      have hLO : ¬ LetsOut (Exit.inBlock 1 (ownPostK (bKp w.heap.size Bs) (fun pre W => W.heap[w.heap.size]? = some (.cells #[.pointer (some ⟨g, 0, none⟩)] 76 (0, 0)) ∧ W.heap[w.heap.size + 1]? = some (.cells (cellsO (preZ D s.ord N pre)).toArray 3 (0, 0)) ∧ W.heap[w.heap.size + 1 + 1]? = some (.cells #[.slice (some ⟨w.heap.size + 1, 0, none⟩) N N] 23 (0, 0)) ∧ Below w.heap.size w W) (fun _ _ _ => False) (pre ++ [x]) W)) := by rintro ⟨_, _, h_⟩; exact h_
      have fz : W1.drew.frozen? ⟨w.heap.size + 1, d.toNat, none⟩ = false := blk_frozen (w := W1.drew) hJ2 d.toNat
      have kd : W1.drew.cell? ⟨w.heap.size + 1, d.toNat, none⟩ = some (.int .i64 p) := zd
      refine start_in (by kernel_rfl) hLO (n := 17) (S := fun w' => w'.cell? ⟨w.heap.size, 0, none⟩ = some (.pointer (some ⟨g, 0, none⟩)) ∧ w'.cell? ⟨g, 5, none⟩ = some (.slice (some adD) N cD) ∧ w'.cell? ⟨w.heap.size + 1 + 1, 0, none⟩ = some (.slice (some ⟨w.heap.size + 1, 0, none⟩) N N) ∧ w'.cell? (adD.add v.toNat) = some (.int .i64 d) ∧ w'.cell? ⟨w.heap.size + 1, d.toNat, none⟩ = some (.int .i64 p) ∧ w'.cell? ⟨w.heap.size + 1, v.toNat, none⟩ = some (.int .i64 r)) (ds := [16]) #[false, false, false, false, false, false, false, false, false, false, false, false, false, false, false, false, false] (by kernel_rfl) rfl rfl ⟨u1, u5, u3, hx, zd, zv⟩ (fun hHeld => ?_)
      refine pure_ (i := 5) (N := some 38) (v := ?_) (a' := ?_) #[false, false, false, false, false, true, false, false, false, false, false, false, false, false, false, false, false] rfl rfl (by kernel_rfl) (fun _ _ _ h => h) (Or.inl ⟨by rfl, ?_⟩) ?_ ?_
      rotate_left
      · intro w'
        go_simp
        with_reducible rfl
      rotate_left
      · simp only [Act.put, List.setIfInBounds_toArray, List.set_cons_zero, List.set_cons_succ, i64_w, i32_w]
        rfl
      refine pure_ (i := 11) (N := some 44) (v := ?_) (a' := ?_) #[false, false, false, false, false, true, false, false, false, false, false, true, false, false, false, false, false] rfl rfl (by kernel_rfl) (fun _ _ _ h => h) (Or.inl ⟨by rfl, ?_⟩) ?_ ?_
      rotate_left
      · intro w'
        go_simp
        with_reducible rfl
      rotate_left
      · simp only [Act.put, List.setIfInBounds_toArray, List.set_cons_zero, List.set_cons_succ, i64_w, i32_w]
        rfl
      refine take_ (i := 0) (N := some 33) (v := ?_) (a' := ?_) #[true, false, false, false, false, true, false, false, false, false, false, true, false, false, false, false, false] rfl rfl (by kernel_rfl) (fun _ _ _ h => h) (Or.inl ⟨by rfl, ?_⟩) hHeld ?_ ?_
      rotate_left
      · rintro w' ⟨s0, s1, s2, s3, s4, s5⟩
        go_simp
        with_reducible rfl
      rotate_left
      · simp only [Act.put, List.setIfInBounds_toArray, List.set_cons_zero, List.set_cons_succ, i64_w, i32_w]
        rfl
      refine take_ (i := 1) (N := some 34) (v := ?_) (a' := ?_) #[true, true, false, false, false, true, false, false, false, false, false, true, false, false, false, false, false] rfl rfl (by kernel_rfl) (fun _ _ _ h => h) (Or.inl ⟨by rfl, ?_⟩) hHeld ?_ ?_
      rotate_left
      · rintro w' ⟨s0, s1, s2, s3, s4, s5⟩
        go_simp
        with_reducible rfl
      rotate_left
      · simp only [Act.put, List.setIfInBounds_toArray, List.set_cons_zero, List.set_cons_succ, i64_w, i32_w]
        rfl
      refine pure_ (i := 2) (N := some 35) (v := ?_) (a' := ?_) #[true, true, true, false, false, true, false, false, false, false, false, true, false, false, false, false, false] rfl rfl (by kernel_rfl) (fun _ _ _ h => h) (Or.inl ⟨by rfl, ?_⟩) ?_ ?_
      rotate_left
      · intro w'
        go_simp
        with_reducible rfl
      rotate_left
      · simp only [Act.put, List.setIfInBounds_toArray, List.set_cons_zero, List.set_cons_succ, i64_w, i32_w]
        rfl
      refine pure_ (i := 3) (N := some 36) (v := ?_) (a' := ?_) #[true, true, true, true, false, true, false, false, false, false, false, true, false, false, false, false, false] rfl rfl (by kernel_rfl) (fun _ _ _ h => h) (Or.inl ⟨by rfl, ?_⟩) ?_ ?_
      rotate_left
      · intro w'
        go_simp
        with_reducible rfl
      rotate_left
      · simp only [Act.put, List.setIfInBounds_toArray, List.set_cons_zero, List.set_cons_succ, i64_w, i32_w]
        rfl
      refine take_ (i := 4) (N := some 37) (v := ?_) (a' := ?_) #[true, true, true, true, true, true, false, false, false, false, false, true, false, false, false, false, false] rfl rfl (by kernel_rfl) (fun _ _ _ h => h) (Or.inl ⟨by rfl, ?_⟩) hHeld ?_ ?_
      rotate_left
      · rintro w' ⟨s0, s1, s2, s3, s4, s5⟩
        go_simp
        with_reducible rfl
      rotate_left
      · simp only [Act.put, List.setIfInBounds_toArray, List.set_cons_zero, List.set_cons_succ, i64_w, i32_w]
        rfl
      refine pure_ (i := 6) (N := some 39) (v := ?_) (a' := ?_) #[true, true, true, true, true, true, true, false, false, false, false, true, false, false, false, false, false] rfl rfl (by kernel_rfl) (fun _ _ _ h => h) (Or.inl ⟨by rfl, ?_⟩) ?_ ?_
      rotate_left
      · intro w'
        go_simp
        with_reducible rfl
      rotate_left
      · simp only [Act.put, List.setIfInBounds_toArray, List.set_cons_zero, List.set_cons_succ, i64_w, i32_w]
        rfl
      refine take_ (i := 7) (N := some 40) (v := ?_) (a' := ?_) #[true, true, true, true, true, true, true, true, false, false, false, true, false, false, false, false, false] rfl rfl (by kernel_rfl) (fun _ _ _ h => h) (Or.inl ⟨by rfl, ?_⟩) hHeld ?_ ?_
      rotate_left
      · rintro w' ⟨s0, s1, s2, s3, s4, s5⟩
        go_simp
        with_reducible rfl
      rotate_left
      · simp only [Act.put, List.setIfInBounds_toArray, List.set_cons_zero, List.set_cons_succ, i64_w, i32_w]
        rfl
      refine pure_ (i := 8) (N := some 41) (v := ?_) (a' := ?_) #[true, true, true, true, true, true, true, true, true, false, false, true, false, false, false, false, false] rfl rfl (by kernel_rfl) (fun _ _ _ h => h) (Or.inl ⟨by rfl, ?_⟩) ?_ ?_
      rotate_left
      · intro w'
        go_simp
        with_reducible rfl
      rotate_left
      · simp only [Act.put, List.setIfInBounds_toArray, List.set_cons_zero, List.set_cons_succ, i64_w, i32_w]
        rfl
      refine take_ (i := 9) (N := some 42) (v := ?_) (a' := ?_) #[true, true, true, true, true, true, true, true, true, true, false, true, false, false, false, false, false] rfl rfl (by kernel_rfl) (fun _ _ _ h => h) (Or.inl ⟨by rfl, ?_⟩) hHeld ?_ ?_
      rotate_left
      · rintro w' ⟨s0, s1, s2, s3, s4, s5⟩
        go_simp
        with_reducible rfl
      rotate_left
      · simp only [Act.put, List.setIfInBounds_toArray, List.set_cons_zero, List.set_cons_succ, i64_w, i32_w]
        rfl
      refine take_ (i := 10) (N := some 43) (v := ?_) (a' := ?_) #[true, true, true, true, true, true, true, true, true, true, true, true, false, false, false, false, false] rfl rfl (by kernel_rfl) (fun _ _ _ h => h) (Or.inl ⟨by rfl, ?_⟩) hHeld ?_ ?_
      rotate_left
      · rintro w' ⟨s0, s1, s2, s3, s4, s5⟩
        go_simp
        with_reducible rfl
      rotate_left
      · simp only [Act.put, List.setIfInBounds_toArray, List.set_cons_zero, List.set_cons_succ, i64_w, i32_w]
        rfl
      refine pure_ (i := 12) (N := some 45) (v := ?_) (a' := ?_) #[true, true, true, true, true, true, true, true, true, true, true, true, true, false, false, false, false] rfl rfl (by kernel_rfl) (fun _ _ _ h => h) (Or.inl ⟨by rfl, ?_⟩) ?_ ?_
      rotate_left
      · intro w'
        go_simp
        with_reducible rfl
      rotate_left
      · simp only [Act.put, List.setIfInBounds_toArray, List.set_cons_zero, List.set_cons_succ, i64_w, i32_w]
        rfl
      refine take_ (i := 13) (N := some 46) (v := ?_) (a' := ?_) #[true, true, true, true, true, true, true, true, true, true, true, true, true, true, false, false, false] rfl rfl (by kernel_rfl) (fun _ _ _ h => h) (Or.inl ⟨by rfl, ?_⟩) hHeld ?_ ?_
      rotate_left
      · rintro w' ⟨s0, s1, s2, s3, s4, s5⟩
        go_simp
        with_reducible rfl
      rotate_left
      · simp only [Act.put, List.setIfInBounds_toArray, List.set_cons_zero, List.set_cons_succ, i64_w, i32_w]
        rfl
      refine pure_ (i := 14) (N := some 47) (v := ?_) (a' := ?_) #[true, true, true, true, true, true, true, true, true, true, true, true, true, true, true, false, false] rfl rfl (by kernel_rfl) (fun _ _ _ h => h) (Or.inl ⟨by rfl, ?_⟩) ?_ ?_
      rotate_left
      · intro w'
        go_simp
        with_reducible rfl
      rotate_left
      · simp only [Act.put, List.setIfInBounds_toArray, List.set_cons_zero, List.set_cons_succ, i64_w, i32_w]
        rfl
      refine pure_ (i := 15) (N := some 48) (v := ?_) (a' := ?_) #[true, true, true, true, true, true, true, true, true, true, true, true, true, true, true, true, false] rfl rfl (by kernel_rfl) (fun _ _ _ h => h) (Or.inl ⟨by rfl, ?_⟩) ?_ ?_
      rotate_left
      · intro w'
        go_simp
        with_reducible rfl
      rotate_left
      · simp only [Act.put, List.setIfInBounds_toArray, List.set_cons_zero, List.set_cons_succ, i64_w, i32_w]
        rfl
      refine last_ (i := 16) (N := none) #[true, true, true, true, true, true, true, true, true, true, true, true, true, true, true, true, true] rfl rfl (by kernel_rfl) (by decide) (fun K hK => ?_)
      refine skip_ (w1 := ?_) (by rfl) rfl ?_ ?_
      rotate_left
      · go_simp
        rfl
      refine hK.out _ _ ?_
      clear hK K
      refine done_ (by kernel_rfl) ?_
      have ne1 : ∀ u : Value, ∀ k, k ≠ w.heap.size + 1 → (W1.setCell ⟨w.heap.size + 1, d.toNat, none⟩ u).heap[k]? = W1.heap[k]? := fun u k hk => heap_setCell_other W1 _ k u hk
      have hset := zblk_set hJ2 d.toNat (wrap64 (p + r))
      rw [← hst] at hset
      exact ⟨(hKO.trans (KeepsOthers.setCell _ _ _)).trans (KeepsOthers.drew _), ⟨(ne1 _ Bs (by omega)).trans hKp.1, hKp.2.trans (below_drew ((Below.refl _ _).setCell (p := ⟨w.heap.size + 1, d.toNat, none⟩) (by show w.heap.size ≤ w.heap.size + 1; omega) _))⟩, (ne1 _ _ (by omega)).trans hJ1, hset, (ne1 _ _ (by omega)).trans hJ3, below_drew (hJB.setCell (p := ⟨w.heap.size + 1, d.toNat, none⟩) (by show w.heap.size ≤ w.heap.size + 1; omega) _)⟩
    · have hd0 : decide (fnD D v ≥ 0) = false := decide_eq_false hd
      have hd1 : decide (0 ≤ fnD D v) = false := hd0
      have hst : stepZ D o v = incZ o v := by unfold stepZ; rw [if_neg hd]
      rw [← hps] at hst
      gi_wp2
      exact ⟨hKO, hKp, hJ1, by rw [hst]; exact hJ2, hJ3, hJB⟩
  case done =>
    rintro D' xs W hD hxs ⟨hI1, hI2, hI3, hIB⟩ hK
    have y3 := (blk_cell hI3 0).trans rfl
    subst hxs
    gi_wp2
    refine ⟨by simp, .inl ⟨_, _, rfl, run_takeDeferred hK, ?_⟩⟩
    refine ⟨_, results_tmp rfl _ _ _, w.heap.size + 1, rfl, by omega, ?_, ?_⟩
    · exact cells_turn hI2 (grownBy_putObj' W D' _) (B := 0) (fun r e => by cases e; exact ⟨Nat.zero_le _, _, hK, rfl⟩)
    · exact hIB.trans (belowK_b (w := w) (Nat.le_refl _) W D' _ _ (Nat.le_trans HB4.size hD) hK rfl rfl)
  case stop =>
    rintro D c pre W _ _ h _
    exact h.elim
end Go.Proofs.Ytoleplbmkdhgeaa.Own
/- Package owns walked: Sizes. -/
namespace Go.Proofs.Ytoleplbmkdhgeaa.Own
open Go.RowKit Go.Proofs.YtoleplbmkdhgeaaW.PrintWords Go.Proofs.YtoleplbmkdhgeaaW.PrintLast Go.Proofs.YtoleplbmkdhgeaaW.PrintMore Go.Proofs.Ytoleplbmkdhgeaa.PN Go.Proofs.Ytoleplbmkdhgeaa.Hnd Go.Lib Go.Proofs.Ytoleplbmkdhgeaa.Chk

/-- The sizes that a tree's order and keepers tell. -/
def sizeL (has : List (List Int)) (roots D : List Int) : List Int := preZ D (rpoL has roots) has.length (List.finRange (rpoL has roots).length)
set_option maxHeartbeats 8000000 in
set_option maxRecDepth 100000 in
theorem Sizes_calls (W : World) (has : List (List Int)) (roots : List Int) (AH : Option Addr) (cH : Nat) (AR : Option Addr) (cR : Nat) (hH : Kd.C (Kd.slice 3 (Kd.int .i64)) W AH has.length has) (hcH : has.length ≤ cH) (hR : Kd.C (Kd.int .i64) W AR roots.length roots) (hcR : roots.length ≤ cR) :
    Calls Try.prog 25 #[.agg #[.slice AH has.length cH, .slice AR roots.length cR]] W fun e w' => ∃ v, e = .returned (.tuple #[v, .int .i64 (checkE has roots)]) ∧ (checkE has roots ≠ 0 → v = .slice none 0 0) ∧ (checkE has roots = 0 → ∃ D b, DoneG has roots D ∧ D.length = has.length ∧ v = .slice (some ⟨b, 0, none⟩) has.length has.length ∧ w'.heap[b]? = some (.cells (cellsO (sizeL has roots D)).toArray 3 (0, 0))) ∧ Below W.heap.size W w' := by
  obtain ⟨o1, ho1⟩ : ∃ ob, ob = Obj.cells #[.slice AH has.length cH, .slice AR roots.length cR] 25 := ⟨_, rfl⟩
  have hal := below_alloc (Below.refl W.heap.size W) o1
  have HB := Aside0.mk hal
  have HC : Aside0 ((W.alloc o1).heap[W.heap.size]? = some (.cells #[.slice AH has.length cH, .slice AR roots.length cR] 25 (0, 0))) := ⟨by rw [ho1]; exact blk_new W _⟩
  have HH := Aside0.mk (And.intro hH hcH)
  have HR := Aside0.mk (And.intro hR hcR)
  obtain ⟨ck, hck⟩ : ∃ ck, ck = checkE has roots := ⟨_, rfl⟩
  rw [← hck]
  have HCK := Aside0.mk hck
  clear hal hH hcH hR hcR hck
  go_enter Try.func25, Try.ntmps25
  go_upto_region 1 with fail
  rw [← ho1]
  clear ho1
  generalize W.alloc o1 = w1 at HB HC ⊢
  have y0 := (blk_cell HC.out 0).trans rfl
  have y1 := (blk_cell HC.out 1).trans rfl
  go_wp2_with fail
  refine (check_calls w1 has roots AH cH AR cR (Kd.C_below HH.out.1 HB.out) HH.out.2 (Kd.C_below HR.out.1 HB.out) HR.out.2).mono ?_
  rintro e w2 ⟨rfl, hb2⟩
  rw [← HCK.out]
  have HB2 := Aside0.mk (below_step HB.out hb2)
  have HC2 := Aside0.mk (blk_below HC.out hb2)
  clear hb2 HB HC y0 y1
  by_cases h0 : ck = 0
  case neg =>
    have hed : (ck != 0) = true := bne_iff_ne.mpr h0
    have H0 := Aside0.mk h0
    clear h0
    go_wp2_with fail
    go_ret2
    exact ⟨_, rfl, fun _ => rfl, fun h => absurd h H0.out, HB2.out⟩
  have hed : (ck != 0) = false := by rw [h0]; decide
  have H0 := Aside0.mk h0
  clear h0
  have y0 := (blk_cell HC2.out 0).trans rfl
  have y1 := (blk_cell HC2.out 1).trans rfl
  obtain ⟨g1, g2, g3, g4⟩ := gr_of (HCK.out.symm.trans H0.out)
  have HG := Aside0.mk (And.intro g1 g2)
  have hcall := doms_calls w2 AH cH AR cR (Kd.C_below HH.out.1 HB2.out) (Kd.C_below HR.out.1 HB2.out) g1 g2 g3 g4
  have HCALL := Aside0.mk hcall
  clear hcall g1 g2 g3 g4
  go_wp2_with fail
  refine HCALL.out.mono ?_
  rintro e w3 ⟨g, vP, vo, vF, vD, ps, D, rfl, hO, hD, hb3⟩
  have HO := Aside0.mk hO
  have HD := Aside0.mk hD
  have HB3 := Aside0.mk (below_step HB2.out hb3)
  have HSC := Aside0.mk (sizes_calls w3 hO HG.out.2 (Nat.le_trans (rpo_le HG.out.1) HG.out.2) (fun x hx => by
    obtain ⟨q0, q1⟩ := rpo_in HG.out.1 x hx
    refine ⟨q0, q1, ?_⟩
    rcases (ok_dm (rp_ok HG.out.1) hD.wf hx (hD.told x hx)).1 with q2 | q2
    · rw [q2]; omega
    · exact (rpo_in HG.out.1 _ q2.1).2))
  clear hO hD hb3 HCALL y0 y1 HC2
  go_wp2_with fail
  refine HSC.out.mono ?_
  rintro e w4 ⟨b, rfl, hbb, hbk, hb4⟩
  have HB4 := Aside0.mk (below_step HB3.out hb4)
  have HBK := Aside0.mk hbk
  clear hbk hb4 HSC
  go_wp2_with fail
  go_ret2
  rw [H0.out]
  exact ⟨_, rfl, fun h => absurd rfl h, fun _ => ⟨D, b, HD.out, HO.out.ld, rfl, HBK.out⟩, HB4.out⟩
end Go.Proofs.Ytoleplbmkdhgeaa.Own
/- Package owns: sizes up the tree, in plain words. -/
namespace Go.Proofs.Ytoleplbmkdhgeaa.Own
open Go.RowKit Go.Proofs.YtoleplbmkdhgeaaW.PrintWords Go.Proofs.YtoleplbmkdhgeaaW.PrintLast Go.Proofs.YtoleplbmkdhgeaaW.PrintMore Go.Proofs.Ytoleplbmkdhgeaa.PN Go.Proofs.Ytoleplbmkdhgeaa.Hnd Go.Lib Go.Proofs.Ytoleplbmkdhgeaa.Chk

theorem el_rev (l : List Int) : (List.finRange l.length).map (elB l) = l.reverse := by
  apply List.ext_getElem
  · simp
  · intro i h1 h2
    simp [elB]
def atO (o : List Int) (x : Int) : Int := o.getD x.toNat 0
theorem atO_set {o : List Int} {x : Int} (v : Int) {y : Int} (hx : 0 ≤ x ∧ x < (o.length : Int)) (hy : 0 ≤ y) : atO (o.set x.toNat v) y = if y = x then v else atO o y := by
  unfold atO
  rw [List.getD_eq_getElem?_getD, List.getD_eq_getElem?_getD]
  by_cases h : y = x
  · rw [if_pos h, h, List.getElem?_set_self (by omega)]; rfl
  · rw [if_neg h, List.getElem?_set_ne (by omega)]
def sumK (dm : Int → Int) (o : List Int) (P : List Int) (x : Int) : Int := ((P.filter (fun c => decide (dm c = x))).map (atO o)).sum
theorem sumK_snoc (dm : Int → Int) (o P : List Int) (n x : Int) : sumK dm o (P ++ [n]) x = sumK dm o P x + (if dm n = x then atO o n else 0) := by
  unfold sumK
  rw [List.filter_append, List.map_append, List.sum_append]
  by_cases h : dm n = x
  · simp [h]
  · simp [h]
theorem sumK_congr {dm : Int → Int} {o o' P : List Int} {x : Int} (h : ∀ c ∈ P, atO o c = atO o' c) : sumK dm o P x = sumK dm o' P x := by
  unfold sumK
  congr 1
  exact List.map_congr_left fun c hc => h c (List.mem_filter.1 hc).1
theorem sum_perm {l m : List Int} (h : l.Perm m) : l.sum = m.sum := by
  induction h with
  | nil => rfl
  | cons x _ ih => simp [ih]
  | swap x y l => simp; omega
  | trans _ _ h1 h2 => exact h1.trans h2
theorem stepZ_at {D o : List Int} {n : Int} {N : Nat} (hl : o.length = N) (hn : 0 ≤ n ∧ n < (N : Int)) (hd : fnD D n < (N : Int)) (hne : fnD D n ≠ n) {y : Int} (hy : 0 ≤ y) :
    atO (stepZ D o n) y = if y = n then wrap64 (atO o n + 1) else if y = fnD D n then wrap64 (atO o y + wrap64 (atO o n + 1)) else atO o y := by
  unfold stepZ
  have e1 : ∀ z : Int, 0 ≤ z → atO (incZ o n) z = if z = n then wrap64 (atO o n + 1) else atO o z := fun z hz => atO_set _ (by rw [hl]; exact hn) hz
  by_cases h : 0 ≤ fnD D n
  · rw [if_pos h, atO_set _ (by unfold incZ; rw [List.length_set, hl]; exact ⟨h, hd⟩) hy]
    have e2 : (incZ o n).getD (fnD D n).toNat 0 = atO o (fnD D n) := by
      have := e1 (fnD D n) h
      rw [if_neg hne] at this
      exact this
    have e3 : (incZ o n).getD n.toNat 0 = wrap64 (atO o n + 1) := by
      have := e1 n hn.1
      rw [if_pos rfl] at this
      exact this
    rw [e2, e3, e1 y hy]
    by_cases h2 : y = fnD D n
    · rw [if_pos h2, if_neg (by rw [h2]; exact hne), if_pos h2, h2]
    · rw [if_neg h2]
      by_cases h3 : y = n
      · rw [if_pos h3, if_pos h3]
      · rw [if_neg h3, if_neg h3, if_neg h2]
  · rw [if_neg h, e1 y hy]
    by_cases h3 : y = n
    · rw [if_pos h3, if_pos h3]
    · rw [if_neg h3, if_neg h3, if_neg (by omega)]
theorem fold_sizes {D : List Int} {N : Nat} : ∀ (Q P : List Int), (∀ x ∈ P ++ Q, 0 ≤ x ∧ x < (N : Int)) → (∀ x ∈ P ++ Q, fnD D x < (N : Int)) → (P ++ Q).Nodup → (∀ (A B : List Int) (n : Int), P ++ Q = A ++ n :: B → 0 ≤ fnD D n → fnD D n ∉ A ++ [n]) →
    ∀ o : List Int, o.length = N → (∀ x, 0 ≤ x → x < (N : Int) → atO o x = wrap64 ((if x ∈ P then 1 else 0) + sumK (fnD D) o P x)) →
    ∀ x, 0 ≤ x → x < (N : Int) → atO (Q.foldl (stepZ D) o) x = wrap64 ((if x ∈ P ++ Q then 1 else 0) + sumK (fnD D) (Q.foldl (stepZ D) o) (P ++ Q) x) := by
  intro Q
  induction Q with
  | nil => intro P _ _ _ _ o _ h; rw [List.append_nil]; exact h
  | cons n Q ih =>
    intro P h1 h2 h3 h4 o hl h
    have e : P ++ n :: Q = (P ++ [n]) ++ Q := by simp
    rw [e] at h1 h2 h3 ⊢
    have hn := h1 n (by simp)
    have hd := h2 n (by simp)
    have hnP : n ∉ P := by
      rw [List.append_assoc, List.nodup_append] at h3
      intro q
      exact h3.2.2 n q n (by simp) rfl
    have h5 := h4 P Q n rfl
    have hne : fnD D n ≠ n := by
      intro q
      rw [q] at h5
      exact h5 hn.1 (by simp)
    have hst := fun (y : Int) (hy : 0 ≤ y) => stepZ_at (D := D) (o := o) hl hn hd hne hy
    refine ih (P ++ [n]) h1 h2 h3 (fun A B m hm => h4 A B m (by rw [e]; exact hm)) (stepZ D o n) (by rw [stepZ_len]; exact hl) (fun x hx0 hx1 => ?_)
    have hc : ∀ c ∈ P, atO (stepZ D o n) c = atO o c := by
      intro c hcP
      have c0 := (h1 c (by simp [hcP])).1
      rw [hst c c0, if_neg (show ¬ c = n from fun q => hnP (q ▸ hcP)), if_neg (show ¬ c = fnD D n from fun q => h5 (by omega) (by rw [← q]; simp [hcP]))]
    rw [sumK_snoc, sumK_congr (o' := o) hc, hst x hx0, hst n hn.1, if_pos rfl]
    have hx := h x hx0 hx1
    by_cases a1 : x = n
    · subst a1
      rw [if_pos rfl, if_pos (by simp), if_neg hne, hx, if_neg hnP]
      unfold wrap64
      omega
    · rw [if_neg a1]
      have a2 : (x ∈ P ++ [n]) ↔ x ∈ P := by simp [a1]
      by_cases a3 : x = fnD D n
      · have a4 : x ∉ P := fun q => h5 (by omega) (by rw [← a3]; simp [q])
        rw [if_pos a3, if_neg (show ¬ x ∈ P ++ [n] from fun q => a4 (a2.1 q)), if_pos (show fnD D n = x from a3.symm), hx, if_neg a4]
        unfold wrap64
        omega
      · rw [if_neg a3, if_neg (show ¬ fnD D n = x from fun q => a3 q.symm), hx]
        by_cases a4 : x ∈ P
        · rw [if_pos a4, if_pos (a2.2 a4)]; simp
        · rw [if_neg a4, if_neg (show ¬ x ∈ P ++ [n] from fun q => a4 (a2.1 q))]; simp
def stepS (D sz : List Int) (o : List Int) (c : Nat) : List Int := if 0 ≤ fnD D (c : Int) then o.set (fnD D (c : Int)).toNat (wrap64 (atO o (fnD D (c : Int)) + atO sz (c : Int))) else o
def sumTo (D sz : List Int) (N i : Nat) : List Int := (List.range i).foldl (stepS D sz) (List.replicate N 0)
theorem sumTo_succ (D sz : List Int) (N i : Nat) : sumTo D sz N (i + 1) = stepS D sz (sumTo D sz N i) i := by unfold sumTo; rw [List.range_succ, List.foldl_append]; rfl
theorem sumTo_len (D sz : List Int) (N i : Nat) : (sumTo D sz N i).length = N := by
  induction i with
  | zero => simp [sumTo]
  | succ i ih => rw [sumTo_succ]; unfold stepS; split <;> simp [ih]
theorem sumTo_at {D sz : List Int} {N : Nat} (hd : ∀ c : Nat, fnD D (c : Int) < (N : Int)) (i : Nat) {x : Int} (hx : 0 ≤ x) : atO (sumTo D sz N i) x = wrap64 (sumK (fnD D) sz ((List.range i).map (fun c : Nat => (c : Int))) x) := by
  induction i with
  | zero =>
    unfold sumTo sumK atO
    simp [List.getD_eq_getElem?_getD, wrap64]
    by_cases h : x.toNat < N <;> simp [h]
  | succ i ih =>
    rw [sumTo_succ, List.range_succ, List.map_append, List.map_cons, List.map_nil, sumK_snoc]
    unfold stepS
    by_cases h : 0 ≤ fnD D (i : Int)
    · rw [if_pos h, atO_set _ (by rw [sumTo_len]; exact ⟨h, hd i⟩) hx]
      by_cases h2 : x = fnD D (i : Int)
      · rw [if_pos h2, if_pos h2.symm, ← h2, ih]
        unfold wrap64
        omega
      · rw [if_neg h2, if_neg (fun q => h2 q.symm), ih, Int.add_zero]
    · rw [if_neg h, if_neg (by omega), ih, Int.add_zero]
section
variable {has : List (List Int)} {roots : List Int} {D : List Int} (G : Gr has roots) (hD : DoneG has roots D) (hl : D.length = has.length)
include G hD
theorem dm_lt (c : Int) : fnD D c < (has.length : Int) := by
  by_cases h : c ∈ rpoL has roots
  · rcases (ok_dm (rp_ok G) hD.wf h (hD.told c h)).1 with q | q
    · rw [q]; omega
    · exact (rpo_in G _ q.1).2
  · rw [hD.out c h]; omega
theorem size_at {x : Int} (h0 : 0 ≤ x) (h1 : x < (has.length : Int)) : atO (sizeL has roots D) x = wrap64 ((if x ∈ rpoL has roots then 1 else 0) + sumK (fnD D) (sizeL has roots D) (rpoL has roots).reverse x) := by
  have R := rp_ok G
  have e : sizeL has roots D = (rpoL has roots).reverse.foldl (stepZ D) (List.replicate has.length 0) := by unfold sizeL preZ; rw [el_rev]
  have key := fold_sizes (D := D) (N := has.length) (rpoL has roots).reverse [] (fun x hx => rpo_in G x (by simpa using hx)) (fun x _ => dm_lt G hD x) (by rw [List.nil_append]; exact (List.reverse_perm _).symm.nodup R.nod) (by
    intro A B n hm hd hmem
    rw [List.nil_append] at hm
    have hnr : n ∈ rpoL has roots := by
      have : n ∈ (rpoL has roots).reverse := by rw [hm]; simp
      simpa using this
    obtain ⟨q1, q2⟩ := ok_dm R hD.wf hnr (hD.told n hnr)
    have hpos := q2 (by omega)
    have hlen : (rpoL has roots).length = A.length + 1 + B.length := by
      have := congrArg List.length hm
      rw [List.length_reverse, List.length_append, List.length_cons] at this
      omega
    have hidx : ∀ (j : Nat) (hj : j < (A ++ n :: B).length), posF (placeL has roots) ((A ++ n :: B)[j]) = ((rpoL has roots).length - 1 - j : Nat) := by
      intro j hj
      have hj2 : j < (rpoL has roots).reverse.length := by rw [hm]; exact hj
      have e1 : (A ++ n :: B)[j] = (rpoL has roots).reverse[j] := by simp only [hm]
      rw [e1, List.getElem_reverse]
      exact R.at_ _ _
    have hpn := hidx A.length (by simp)
    rw [List.getElem_append_right (Nat.le_refl _)] at hpn
    simp only [Nat.sub_self, List.getElem_cons_zero] at hpn
    rcases List.mem_append.1 hmem with hA | hA
    · obtain ⟨j, hj, ej⟩ := List.getElem_of_mem hA
      have hpd := hidx j (by rw [List.length_append]; omega)
      rw [List.getElem_append_left hj, ej] at hpd
      rw [hpd, hpn] at hpos
      omega
    · rw [List.mem_singleton] at hA
      rw [hA] at hpos
      omega) (List.replicate has.length 0) (by simp) (by
    intro x hx0 hx1
    unfold sumK atO
    simp [List.getD_eq_getElem?_getD, wrap64]
    by_cases h : x.toNat < has.length <;> simp [h]) x h0 h1
  rw [← e] at key
  rw [key]
  simp
theorem size_sum {x : Int} (h0 : 0 ≤ x) (h1 : x < (has.length : Int)) : atO (sizeL has roots D) x = if fnD D x = -2 then 0 else wrap64 (1 + atO (sumTo D (sizeL has roots D) has.length has.length) x) := by
  have R := rp_ok G
  rw [sumTo_at (fun c => dm_lt G hD _) _ h0]
  have hperm : ((((List.range has.length).map (fun c : Nat => (c : Int))).filter (fun c => decide (fnD D c = x)))).Perm ((rpoL has roots).reverse.filter (fun c => decide (fnD D c = x))) := by
    rw [List.perm_ext_iff_of_nodup]
    · intro a
      rw [List.mem_filter, List.mem_filter, List.mem_map, List.mem_reverse, decide_eq_true_eq]
      constructor
      · rintro ⟨_, h⟩
        refine ⟨Classical.byContradiction fun q => ?_, h⟩
        rw [hD.out a q] at h
        omega
      · rintro ⟨h, h2⟩
        obtain ⟨q0, q1⟩ := rpo_in G a h
        exact ⟨⟨a.toNat, List.mem_range.2 (by omega), by omega⟩, h2⟩
    · exact List.Pairwise.filter _ (List.Pairwise.map _ (fun a b h q => h (by omega)) List.nodup_range)
    · exact List.Pairwise.filter _ ((List.reverse_perm _).symm.nodup R.nod)
  have hs : sumK (fnD D) (sizeL has roots D) ((List.range has.length).map (fun c : Nat => (c : Int))) x = sumK (fnD D) (sizeL has roots D) (rpoL has roots).reverse x := by
    unfold sumK
    exact sum_perm (hperm.map _)
  rw [hs, size_at G hD h0 h1]
  by_cases h : x ∈ rpoL has roots
  · rw [if_pos h, if_neg (hD.told x h)]
    unfold wrap64
    omega
  · rw [if_neg h, if_pos (hD.out x h)]
    have : (rpoL has roots).reverse.filter (fun c => decide (fnD D c = x)) = [] := by
      rw [List.filter_eq_nil_iff]
      intro c hc q
      rw [decide_eq_true_eq] at q
      have hcr : c ∈ rpoL has roots := by simpa using hc
      rcases (ok_dm R hD.wf hcr (hD.told c hcr)).1 with q1 | q1
      · omega
      · exact h (q ▸ q1.1)
    unfold sumK
    rw [this]
    simp [wrap64]
end
end Go.Proofs.Ytoleplbmkdhgeaa.Own
