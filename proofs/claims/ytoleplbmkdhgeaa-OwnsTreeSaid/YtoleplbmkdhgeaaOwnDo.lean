/- Package owns walked: doms. -/
import Derived.Test.YtoleplbmkdhgeaaOwnRv
set_option linter.unusedVariables false
set_option linter.unusedSimpArgs false
namespace Go.Proofs.Ytoleplbmkdhgeaa.Own
open Go.RowKit Go.Proofs.YtoleplbmkdhgeaaW.PrintWords Go.Proofs.YtoleplbmkdhgeaaW.PrintLast Go.Proofs.YtoleplbmkdhgeaaW.PrintMore Go.Proofs.Ytoleplbmkdhgeaa.PN Go.Proofs.Ytoleplbmkdhgeaa.Hnd Go.Lib

theorem own_lower {w : World} {base base' : Nat} {e : TypeId} {size : Nat} {v : Value} {n : Nat} {xs : List Value} (h : w.ownsRow base e size v n xs) (hb : base' ≤ base) : w.ownsRow base' e size v n xs := by
  refine ⟨h.1, ?_⟩
  rcases h.2 with hn | ⟨g, cap, cur, e1, hg, rest⟩
  · exact .inl hn
  · exact .inr ⟨g, cap, cur, e1, Nat.le_trans hb hg, rest⟩
theorem own_made_nil (W : World) (base : Nat) (e : TypeId) (m : Nat) (hb : base ≤ W.heap.size) (hm : m ≤ 9223372036854775807) :
    (W.alloc (.cells (madeCells #[.slice none 0 0] m) e)).ownsRow base e 1 (.slice (some ⟨W.heap.size, 0, none⟩) m m) m (List.replicate m nilV) := by
  refine ⟨by simp, .inr ⟨W.heap.size, m, madeCells #[.slice none 0 0] m, rfl, hb, heap_alloc_new W _, Nat.le_refl _, by unfold maxLen; omega, by simp [madeCells], ?_⟩⟩
  apply List.ext_getElem
  · simp [madeCells]
  · intro i h1 h2
    simp [madeCells, Nat.mod_one, nilV]
theorem getD_rep {α : Type} (N : Nat) (x d : α) (i : Nat) (h : i < N) : (List.replicate N x).getD i d = x := by rw [List.getD_eq_getElem?_getD, List.getElem?_replicate, if_pos h]; rfl
/-- The tree as it is made. -/
theorem os_start {W : World} {B g N : Nat} {h0 h1 vP vF vD : Value} (gB : B ≤ g) (ho : W.heap[g]? = some (.cells #[h0, h1, vP, nilV, vF, vD] 75 (0, 0)))
    (hp : W.ownsRow B 3 1 vP N ((List.replicate N (-2 : Int)).map (Value.int .i64))) (hd : W.ownsRow B 3 1 vD N ((List.replicate N (-2 : Int)).map (Value.int .i64))) (hf : W.ownsRow B 23 1 vF N (List.replicate N nilV)) (hpd : ∀ k, vP.ownBlock = some k → vD.ownBlock ≠ some k) :
    OS W B g h0 h1 vP nilV vF vD (List.replicate N nilV) N (start N) (List.replicate N (-2)) := by
  have hrv : ∀ i : Nat, rowV (List.replicate N nilV) (i : Int) = nilV := fun i => by
    unfold rowV
    rw [List.getD_eq_getElem?_getD, List.getElem?_replicate]
    split <;> rfl
  refine ⟨gB, ho, hp, hd, hf, ⟨by simp [start, nums], .inl ⟨rfl, rfl⟩⟩, by simp [start], by simp, by simp [start], by simp, fun i hi => ?_, hpd, fun k _ h => by simp [nilV, Value.ownBlock] at h, fun k _ h => by simp [nilV, Value.ownBlock] at h, fun i hi k h => by rw [hrv] at h; simp [nilV, Value.ownBlock] at h, fun i j hi hj hij k h => by rw [hrv] at h; simp [nilV, Value.ownBlock] at h⟩
  have e : rowF (start N).fr (i : Int) = [] := rowF_rep N _
  rw [hrv, e]
  exact ⟨by simp [nums], .inl ⟨rfl, rfl⟩⟩
/-- The order is turned round. -/
theorem OS.turned {W W1 : World} {B g N : Nat} {h0 h1 vP vo vF vD : Value} {ps : List Value} {s : Ds} {D : List Int} (h : OS W B g h0 h1 vP vo vF vD ps N s D) {m : List Int} (hm : m.length = s.ord.length)
    (ho : W1.ownsRow B 3 1 vo s.ord.length (nums .i64 m)) (hg : W.grownBy W1 vo.ownBlock) : OS W1 B g h0 h1 vP vo vF vD ps N ⟨s.pl, m, s.fr⟩ D := by
  have hold : ∀ {e2 : TypeId} {sz : Nat} {u : Value} {n : Nat} {xs : List Value}, W.ownsRow B e2 sz u n xs → (∀ q, u.ownBlock = some q → vo.ownBlock ≠ some q) → W1.ownsRow B e2 sz u n xs :=
    fun hu hq => own_same hu (fun q hk2 => hg.block q (hu.lt q hk2).2 (fun e3 => hq q hk2 e3.symm))
  exact ⟨h.gB, (hg.block g (blk_lt h.obj) (fun e3 => own_ne h.ro h.obj (by decide) e3.symm)).trans h.obj, hold h.rp h.po, hold h.rd h.do_, hold h.rf (fun q hq => own_ne2 h.rf h.ro (by decide) q hq), by show W1.ownsRow B 3 1 vo m.length _; rw [hm]; exact ho, h.lp, h.ld, h.lf, h.ls, fun i hi => hold (h.rr i hi) (fun q hq => (h.pr i hi q hq).2.2), h.pd, h.po, h.do_, h.pr, h.rs⟩
theorem unv_start (N : Nat) : unv (start N) = N := by unfold unv start; simp
theorem tot_start (N : Nat) : tot (start N).fr = 0 := by unfold tot start; induction N with | zero => rfl | succ N ih => simp [List.replicate_succ] at ih ⊢
theorem pot_start (M N : Nat) : pot M (start N) = (M + 1) * N := by unfold pot; rw [unv_start, tot_start]; simp [start]
theorem rows_le {has : List (List Int)} {M : Nat} (h : ∀ l ∈ has, l.length ≤ M) (n : Int) : (rowF has n).length ≤ M := by
  unfold rowF
  rw [List.getD_eq_getElem?_getD]
  cases e : has[n.toNat]? with
  | none => simp
  | some l => exact h l (List.mem_of_getElem? e)
theorem roots_pot {has : List (List Int)} {roots : List Int} (G : Gr has roots) {M : Nat} (hM : ∀ n, (rowF has n).length ≤ M) : ∀ (l : List Int) (s : Ds), (∀ n ∈ l, n ∈ roots) → s.pl.length = has.length → unv (kids (walkP has has.length) (-1) l s) ≤ unv s ∧ pot M (kids (walkP has has.length) (-1) l s) ≤ pot M s + l.length := by
  intro l
  induction l with
  | nil => intro s _ _; exact ⟨Nat.le_refl _, Nat.le_refl _⟩
  | cons n l ih =>
    intro s hl hs
    obtain ⟨a1, a2, a3⟩ := walk_pot hM G.h has.length s n hs (G.r n (hl n (List.mem_cons_self ..)))
    obtain ⟨d1, d2⟩ := ih (kid1 (walkP has has.length) (-1) s n) (fun x hx => hl x (List.mem_cons_of_mem _ hx)) a3
    have c : pot M (kid1 (walkP has has.length) (-1) s n) ≤ pot M (walkP has has.length n s) + 1 := by
      have := tot_set (walkP has has.length n s).fr n.toNat (-1)
      have e2 : tot (kid1 (walkP has has.length) (-1) s n).fr ≤ tot (walkP has has.length n s).fr + 1 := this
      unfold pot
      show tot (kid1 (walkP has has.length) (-1) s n).fr + (walkP has has.length n s).ord.length + _ * unv (walkP has has.length n s) ≤ _
      omega
    have b : unv (kid1 (walkP has has.length) (-1) s n) = unv (walkP has has.length n s) := rfl
    unfold kids at d1 d2 ⊢
    rw [List.foldl_cons, List.length_cons]
    exact ⟨by omega, by omega⟩
set_option maxHeartbeats 64000000 in
set_option maxRecDepth 100000 in
theorem doms_calls (W : World) {has : List (List Int)} {roots : List Int} (AH : Option Addr) (cH : Nat) (AR : Option Addr) (cR : Nat) (hH : Kd.C (Kd.slice 3 (Kd.int .i64)) W AH has.length has) (hR : Kd.C (Kd.int .i64) W AR roots.length roots) (G : Gr has roots) (hN : has.length ≤ 100) (hN2 : roots.length ≤ 100) (hM : ∀ l ∈ has, l.length ≤ 10) :
    Calls Try.prog 40 #[.agg #[.slice AH has.length cH, .slice AR roots.length cR]] W fun e w' => ∃ g vP vo vF vD ps D, e = .returned (.pointer (some ⟨g, 0, none⟩)) ∧ OS w' W.heap.size g (.slice AH has.length cH) (.slice AR roots.length cR) vP vo vF vD ps has.length (sR has roots) D ∧ Done (rootR roots) (edgeR has) (rpoL has roots) (posF (placeL has roots)) (fnD D) ∧ Below W.heap.size W w' := by
  obtain ⟨o1, ho1⟩ : ∃ ob, ob = Obj.cells #[.slice AH has.length cH, .slice AR roots.length cR] 25 := ⟨_, rfl⟩
  have hal := below_alloc (Below.refl W.heap.size W) o1
  have HB2 := Aside0.mk hal
  have HC2 : Aside0 ((W.alloc o1).heap[W.heap.size]? = some (.cells #[.slice AH has.length cH, .slice AR roots.length cR] 25 (0, 0))) := ⟨by rw [ho1]; exact blk_new W _⟩
  have HH := Aside0.mk hH
  have HR := Aside0.mk hR
  have HG := Aside0.mk G
  have HN := Aside0.mk (And.intro hN hN2)
  have HM := Aside0.mk (rows_le hM)
  clear hal hH hR G hN hN2 hM
  go_enter Try.func40, Try.ntmps40
  go_upto_region 1 with fail
  rw [← ho1]
  clear ho1
  generalize W.alloc o1 = w2 at HB2 HC2 ⊢
  have y0 := (blk_cell HC2.out 0).trans rfl
  have y1 := (blk_cell HC2.out 1).trans rfl
  go_upto_region 2 with fail
  have hmk : ∀ W : World, (Instr.makeSlice 22 (.int .i64 (has.length : Int)) (.int .i64 (has.length : Int))).run Try.prog W = .ok (.slice (some ⟨W.heap.size, 0, none⟩) has.length has.length) (W.alloc (.cells (madeCells #[.slice none 0 0] has.length) 23)) := by
    intro W
    exact run_make_row' 22 23 (.slice none 0 0) 24 Try.underlying22 (by kernel_rfl) rfl .i64 .i64 has.length (by have := HN.out; omega) (by have := HN.out; omega) W
  have hN64 : has.length ≤ 9223372036854775807 := by have := HN.out; omega
  refine start_ (n := 12) (S := fun w' => Below w2.heap.size w2 w' ∧ w'.cell? ⟨W.heap.size, 0, none⟩ = some (.slice AH has.length cH) ∧ w'.cell? ⟨W.heap.size, 1, none⟩ = some (.slice AR roots.length cR)) (ds := []) #[false, false, false, false, false, false, false, false, false, false, false, false] (by kernel_rfl) rfl rfl ⟨(below_drew (Below.refl _ _)), y0, y1⟩ (fun hHeld => ?_)
  generalize w2.drew = wd at hHeld ⊢
  refine pure_ (i := 2) (N := some 14) (v := ?_) (a' := ?_) #[false, false, true, false, false, false, false, false, false, false, false, false] rfl rfl (by kernel_rfl) (fun _ _ _ h => h) (Or.inl ⟨by rfl, ?_⟩) ?_ ?_
  rotate_left
  · intro w'
    go_simp
    with_reducible rfl
  rotate_left
  · simp only [Act.put, List.setIfInBounds_toArray, List.set_cons_zero, List.set_cons_succ, i64_w, i32_w]
    rfl
  refine pure_ (i := 4) (N := some 16) (v := ?_) (a' := ?_) #[false, false, true, false, true, false, false, false, false, false, false, false] rfl rfl (by kernel_rfl) (fun _ _ _ h => h) (Or.inl ⟨by rfl, ?_⟩) ?_ ?_
  rotate_left
  · intro w'
    go_simp
    with_reducible rfl
  rotate_left
  · simp only [Act.put, List.setIfInBounds_toArray, List.set_cons_zero, List.set_cons_succ, i64_w, i32_w]
    rfl
  refine pure_ (i := 7) (N := some 19) (v := ?_) (a' := ?_) #[false, false, true, false, true, false, false, true, false, false, false, false] rfl rfl (by kernel_rfl) (fun _ _ _ h => h) (Or.inl ⟨by rfl, ?_⟩) ?_ ?_
  rotate_left
  · intro w'
    go_simp
    with_reducible rfl
  rotate_left
  · simp only [Act.put, List.setIfInBounds_toArray, List.set_cons_zero, List.set_cons_succ, i64_w, i32_w]
    rfl
  refine take_ (i := 0) (N := some 12) (v := ?_) (a' := ?_) #[true, false, true, false, true, false, false, true, false, false, false, false] rfl rfl (by kernel_rfl) (fun _ _ _ h => h) (Or.inl ⟨by rfl, ?_⟩) hHeld ?_ ?_
  rotate_left
  · rintro w' ⟨s0, s1, s2⟩
    go_simp
    with_reducible rfl
  rotate_left
  · simp only [Act.put, List.setIfInBounds_toArray, List.set_cons_zero, List.set_cons_succ, i64_w, i32_w]
    rfl
  refine join_ (σ := (Option Addr × Nat) × (Option Addr × Nat) × Nat × Nat × Nat) 3 #[true, true, true, true, true, true, true, true, true, false, false, false] (fun s => [(13, .slice (some ⟨s.2.2.1, 0, none⟩) 1 1), (15, .slice s.1.1 has.length s.1.2), (17, .slice (some ⟨s.2.2.2.2, 0, none⟩) has.length has.length), (18, .slice (some ⟨s.2.2.2.1, 0, none⟩) 1 1), (20, .slice s.2.1.1 has.length s.2.1.2)]) (fun s w' => (Below w2.heap.size w2 w' ∧ w'.cell? ⟨W.heap.size, 0, none⟩ = some (.slice AH has.length cH) ∧ w'.cell? ⟨W.heap.size, 1, none⟩ = some (.slice AR roots.length cR)) ∧ w'.ownsRow w2.heap.size 3 1 (.slice s.1.1 has.length s.1.2) has.length ((List.replicate has.length (-2 : Int)).map (Value.int .i64)) ∧ w'.ownsRow w2.heap.size 3 1 (.slice s.2.1.1 has.length s.2.1.2) has.length ((List.replicate has.length (-2 : Int)).map (Value.int .i64)) ∧ w'.ownsRow w2.heap.size 23 1 (.slice (some ⟨s.2.2.2.2, 0, none⟩) has.length has.length) has.length (List.replicate has.length nilV) ∧ ∀ k, (Value.slice s.1.1 has.length s.1.2).ownBlock = some k → (Value.slice s.2.1.1 has.length s.2.1.2).ownBlock ≠ some k) ?_ ?_
  rotate_left
  · intro hCont
    refine three_ (i := 1) (j := 5) (k := 6) (Ni := some 13) (Nj := some 17) (Nk := some 18) #[true, true, true, false, true, false, false, true, false, false, false, false] #[true, false, true, false, true, true, false, true, false, false, false, false] #[true, false, true, false, true, false, true, true, false, false, false, false] rfl rfl rfl rfl rfl rfl (by kernel_rfl) (by decide) (by decide) (by decide) (fun K hK => ?_) (fun K hK => ?_) (fun K hK => ?_)
    · skip
      have hbA := below_alloc (Below.refl (wd).heap.size wd) (.cells #[.int .i64 (-2)] 3)
      have hb1 := blk_new wd (.cells #[.int .i64 (-2)] 3)
      refine value_ (w1 := ?_) (v := ?_) (by rfl) rfl ?_ ?_
      rotate_left 2
      · go_simp
        constructor
        · rfl
        · rfl
      refine hK.out _ _ ⟨below_step hHeld.1 hbA, pw_cell_below hbA hHeld.2.1, pw_cell_below hbA hHeld.2.2⟩ (fun hHeld => ?_)
      clear hK K
      refine norm_ (a' := ?_) ?_ ?_
      rotate_left
      · show Act.put _ (some 13) _ = _
        simp only [Act.put, List.setIfInBounds_toArray, List.set_cons_zero, List.set_cons_succ, i64_w, i32_w]
        rfl
      refine three_ (i := 3) (j := 5) (k := 6) (Ni := some 15) (Nj := some 17) (Nk := some 18) #[true, true, true, true, true, false, false, true, false, false, false, false] #[true, true, true, false, true, true, false, true, false, false, false, false] #[true, true, true, false, true, false, true, true, false, false, false, false] rfl rfl rfl rfl rfl rfl (by kernel_rfl) (by decide) (by decide) (by decide) (fun K hK => ?_) (fun K hK => ?_) (fun K hK => ?_)
      · skip
        refine goes_ Try.func55 (by kernel_rfl) rfl #[.slice (some ⟨wd.heap.size, 0, none⟩) 1 1, .int .i64 (has.length : Int)] (by rfl) rfl rfl (by simp only [List.map_toArray, List.map_cons, List.map_nil]; rfl) ?_
        with_reducible refine (repeat_calls (wd.alloc (.cells #[.int .i64 (-2)] 3)) (wd.heap.size) has.length hb1 HN.out.1).mono ?_
        rintro e w3 ⟨v3, rfl, hr3, hbA⟩
        refine ⟨_, rfl, ?_⟩
        obtain ⟨A3, c3, e3_, _⟩ := own_shape hr3
        subst e3_
        have hr3 := own_lower hr3 hHeld.1.size
        have hb1 := blk_below hb1 hbA
        refine hK.out _ _ ⟨below_step hHeld.1 hbA, pw_cell_below hbA hHeld.2.1, pw_cell_below hbA hHeld.2.2⟩ (fun hHeld => ?_)
        clear hK K
        refine norm_ (a' := ?_) ?_ ?_
        rotate_left
        · show Act.put _ (some 15) _ = _
          simp only [Act.put, List.setIfInBounds_toArray, List.set_cons_zero, List.set_cons_succ, i64_w, i32_w]
          rfl
        refine two_ (i := 5) (j := 6) (Ni := some 17) (Nj := some 18) #[true, true, true, true, true, true, false, true, false, false, false, false] #[true, true, true, true, true, false, true, true, false, false, false, false] rfl rfl rfl rfl (by kernel_rfl) (by decide) (by decide) (fun K hK => ?_) (fun K hK => ?_)
        · skip
          have hbA := below_alloc (Below.refl (w3).heap.size w3) (.cells (madeCells #[.slice none 0 0] has.length) 23)
          have hr3 := own_same hr3 (fun k hk => Below.block hbA k (World.ownsRow.lt hr3 k hk).2)
          have hm5 := own_made_nil w3 w2.heap.size 23 has.length hHeld.1.size hN64
          refine value_ (w1 := ?_) (v := ?_) (by rfl) rfl ?_ ?_
          rotate_left 2
          · go_simp
            constructor
            · rfl
            · rfl
          refine hK.out _ _ ⟨below_step hHeld.1 hbA, pw_cell_below hbA hHeld.2.1, pw_cell_below hbA hHeld.2.2⟩ (fun hHeld => ?_)
          clear hK K
          refine norm_ (a' := ?_) ?_ ?_
          rotate_left
          · show Act.put _ (some 17) _ = _
            simp only [Act.put, List.setIfInBounds_toArray, List.set_cons_zero, List.set_cons_succ, i64_w, i32_w]
            rfl
          refine one_ (i := 6) (N := some 18) #[true, true, true, true, true, true, true, true, false, false, false, false] rfl rfl (by kernel_rfl) (by decide) (fun K hK => ?_)
          have hbA := below_alloc (Below.refl ((w3.alloc (.cells (madeCells #[.slice none 0 0] has.length) 23))).heap.size (w3.alloc (.cells (madeCells #[.slice none 0 0] has.length) 23))) (.cells #[.int .i64 (-2)] 3)
          have hr3 := own_same hr3 (fun k hk => Below.block hbA k (World.ownsRow.lt hr3 k hk).2)
          have hm5 := own_same hm5 (fun k hk => Below.block hbA k (World.ownsRow.lt hm5 k hk).2)
          have hb6 := blk_new (w3.alloc (.cells (madeCells #[.slice none 0 0] has.length) 23)) (.cells #[.int .i64 (-2)] 3)
          have hz_ : ((w3.alloc (.cells (madeCells #[.slice none 0 0] has.length) 23))).heap.size = w3.heap.size + 1 := by simp
          rw [hz_] at hb6
          refine value_ (w1 := ?_) (v := ?_) (by rfl) rfl ?_ ?_
          rotate_left 2
          · go_simp
            constructor
            · rfl
            · rfl
          refine hK.out _ _ ⟨below_step hHeld.1 hbA, pw_cell_below hbA hHeld.2.1, pw_cell_below hbA hHeld.2.2⟩ (fun hHeld => ?_)
          clear hK K
          refine norm_ (a' := ?_) ?_ ?_
          rotate_left
          · show Act.put _ (some 18) _ = _
            simp only [Act.put, List.setIfInBounds_toArray, List.set_cons_zero, List.set_cons_succ, i64_w, i32_w]
            rfl
          refine one_ (i := 8) (N := some 20) #[true, true, true, true, true, true, true, true, true, false, false, false] rfl rfl (by kernel_rfl) (by decide) (fun K hK => ?_)
          refine goes_ Try.func55 (by kernel_rfl) rfl #[.slice (some ⟨w3.heap.size + 1, 0, none⟩) 1 1, .int .i64 (has.length : Int)] (by rfl) rfl rfl (by simp only [List.map_toArray, List.map_cons, List.map_nil]; rfl) ?_
          with_reducible refine (repeat_calls ((w3.alloc (.cells (madeCells #[.slice none 0 0] has.length) 23)).alloc (.cells #[.int .i64 (-2)] 3)) (w3.heap.size + 1) has.length hb6 HN.out.1).mono ?_
          rintro e w8 ⟨v8, rfl, hr8, hbA⟩
          refine ⟨_, rfl, ?_⟩
          obtain ⟨A8, c8, e8_, _⟩ := own_shape hr8
          subst e8_
          have hd38 : ∀ k, (Value.slice A3 has.length c3).ownBlock = some k → (Value.slice A8 has.length c8).ownBlock ≠ some k := fun k h1 h2 => by have a_ := (World.ownsRow.lt hr3 k h1).2; have b_ := (World.ownsRow.lt hr8 k h2).1; omega
          have hr8 := own_lower hr8 hHeld.1.size
          have hb6 := blk_below hb6 hbA
          have hr3 := own_same hr3 (fun k hk => Below.block hbA k (World.ownsRow.lt hr3 k hk).2)
          have hm5 := own_same hm5 (fun k hk => Below.block hbA k (World.ownsRow.lt hm5 k hk).2)
          refine hK.out _ _ ⟨below_step hHeld.1 hbA, pw_cell_below hbA hHeld.2.1, pw_cell_below hbA hHeld.2.2⟩ (fun hHeld => ?_)
          clear hK K
          refine norm_ (a' := ?_) ?_ ?_
          rotate_left
          · show Act.put _ (some 20) _ = _
            simp only [Act.put, List.setIfInBounds_toArray, List.set_cons_zero, List.set_cons_succ, i64_w, i32_w]
            rfl
          exact norm_ (by simp only [putAll, Act.put, List.setIfInBounds_toArray, List.set_cons_zero, List.set_cons_succ]) (hCont ((A3, c3), (A8, c8), wd.heap.size, w3.heap.size + 1, w3.heap.size) _ ⟨hHeld, hr3, hr8, hm5, hd38⟩)
        · skip
          have hbA := below_alloc (Below.refl (w3).heap.size w3) (.cells #[.int .i64 (-2)] 3)
          have hr3 := own_same hr3 (fun k hk => Below.block hbA k (World.ownsRow.lt hr3 k hk).2)
          have hb6 := blk_new w3 (.cells #[.int .i64 (-2)] 3)
          refine value_ (w1 := ?_) (v := ?_) (by rfl) rfl ?_ ?_
          rotate_left 2
          · go_simp
            constructor
            · rfl
            · rfl
          refine hK.out _ _ ⟨below_step hHeld.1 hbA, pw_cell_below hbA hHeld.2.1, pw_cell_below hbA hHeld.2.2⟩ (fun hHeld => ?_)
          clear hK K
          refine norm_ (a' := ?_) ?_ ?_
          rotate_left
          · show Act.put _ (some 18) _ = _
            simp only [Act.put, List.setIfInBounds_toArray, List.set_cons_zero, List.set_cons_succ, i64_w, i32_w]
            rfl
          refine two_ (i := 5) (j := 8) (Ni := some 17) (Nj := some 20) #[true, true, true, true, true, true, true, true, false, false, false, false] #[true, true, true, true, true, false, true, true, true, false, false, false] rfl rfl rfl rfl (by kernel_rfl) (by decide) (by decide) (fun K hK => ?_) (fun K hK => ?_)
          · skip
            have hbA := below_alloc (Below.refl ((w3.alloc (.cells #[.int .i64 (-2)] 3))).heap.size (w3.alloc (.cells #[.int .i64 (-2)] 3))) (.cells (madeCells #[.slice none 0 0] has.length) 23)
            have hb6 := blk_below hb6 hbA
            have hr3 := own_same hr3 (fun k hk => Below.block hbA k (World.ownsRow.lt hr3 k hk).2)
            have hm5 := own_made_nil (w3.alloc (.cells #[.int .i64 (-2)] 3)) w2.heap.size 23 has.length hHeld.1.size hN64
            have hz_ : ((w3.alloc (.cells #[.int .i64 (-2)] 3))).heap.size = w3.heap.size + 1 := by simp
            rw [hz_] at hm5
            refine value_ (w1 := ?_) (v := ?_) (by rfl) rfl ?_ ?_
            rotate_left 2
            · go_simp
              constructor
              · rfl
              · rfl
            refine hK.out _ _ ⟨below_step hHeld.1 hbA, pw_cell_below hbA hHeld.2.1, pw_cell_below hbA hHeld.2.2⟩ (fun hHeld => ?_)
            clear hK K
            refine norm_ (a' := ?_) ?_ ?_
            rotate_left
            · show Act.put _ (some 17) _ = _
              simp only [Act.put, List.setIfInBounds_toArray, List.set_cons_zero, List.set_cons_succ, i64_w, i32_w]
              rfl
            refine one_ (i := 8) (N := some 20) #[true, true, true, true, true, true, true, true, true, false, false, false] rfl rfl (by kernel_rfl) (by decide) (fun K hK => ?_)
            refine goes_ Try.func55 (by kernel_rfl) rfl #[.slice (some ⟨w3.heap.size, 0, none⟩) 1 1, .int .i64 (has.length : Int)] (by rfl) rfl rfl (by simp only [List.map_toArray, List.map_cons, List.map_nil]; rfl) ?_
            with_reducible refine (repeat_calls ((w3.alloc (.cells #[.int .i64 (-2)] 3)).alloc (.cells (madeCells #[.slice none 0 0] has.length) 23)) (w3.heap.size) has.length hb6 HN.out.1).mono ?_
            rintro e w8 ⟨v8, rfl, hr8, hbA⟩
            refine ⟨_, rfl, ?_⟩
            obtain ⟨A8, c8, e8_, _⟩ := own_shape hr8
            subst e8_
            have hd38 : ∀ k, (Value.slice A3 has.length c3).ownBlock = some k → (Value.slice A8 has.length c8).ownBlock ≠ some k := fun k h1 h2 => by have a_ := (World.ownsRow.lt hr3 k h1).2; have b_ := (World.ownsRow.lt hr8 k h2).1; omega
            have hr8 := own_lower hr8 hHeld.1.size
            have hb6 := blk_below hb6 hbA
            have hr3 := own_same hr3 (fun k hk => Below.block hbA k (World.ownsRow.lt hr3 k hk).2)
            have hm5 := own_same hm5 (fun k hk => Below.block hbA k (World.ownsRow.lt hm5 k hk).2)
            refine hK.out _ _ ⟨below_step hHeld.1 hbA, pw_cell_below hbA hHeld.2.1, pw_cell_below hbA hHeld.2.2⟩ (fun hHeld => ?_)
            clear hK K
            refine norm_ (a' := ?_) ?_ ?_
            rotate_left
            · show Act.put _ (some 20) _ = _
              simp only [Act.put, List.setIfInBounds_toArray, List.set_cons_zero, List.set_cons_succ, i64_w, i32_w]
              rfl
            exact norm_ (by simp only [putAll, Act.put, List.setIfInBounds_toArray, List.set_cons_zero, List.set_cons_succ]) (hCont ((A3, c3), (A8, c8), wd.heap.size, w3.heap.size, w3.heap.size + 1) _ ⟨hHeld, hr3, hr8, hm5, hd38⟩)
          · skip
            refine goes_ Try.func55 (by kernel_rfl) rfl #[.slice (some ⟨w3.heap.size, 0, none⟩) 1 1, .int .i64 (has.length : Int)] (by rfl) rfl rfl (by simp only [List.map_toArray, List.map_cons, List.map_nil]; rfl) ?_
            with_reducible refine (repeat_calls (w3.alloc (.cells #[.int .i64 (-2)] 3)) (w3.heap.size) has.length hb6 HN.out.1).mono ?_
            rintro e w8 ⟨v8, rfl, hr8, hbA⟩
            refine ⟨_, rfl, ?_⟩
            obtain ⟨A8, c8, e8_, _⟩ := own_shape hr8
            subst e8_
            have hd38 : ∀ k, (Value.slice A3 has.length c3).ownBlock = some k → (Value.slice A8 has.length c8).ownBlock ≠ some k := fun k h1 h2 => by have a_ := (World.ownsRow.lt hr3 k h1).2; have b_ := (World.ownsRow.lt hr8 k h2).1; omega
            have hr8 := own_lower hr8 hHeld.1.size
            have hb6 := blk_below hb6 hbA
            have hr3 := own_same hr3 (fun k hk => Below.block hbA k (World.ownsRow.lt hr3 k hk).2)
            refine hK.out _ _ ⟨below_step hHeld.1 hbA, pw_cell_below hbA hHeld.2.1, pw_cell_below hbA hHeld.2.2⟩ (fun hHeld => ?_)
            clear hK K
            refine norm_ (a' := ?_) ?_ ?_
            rotate_left
            · show Act.put _ (some 20) _ = _
              simp only [Act.put, List.setIfInBounds_toArray, List.set_cons_zero, List.set_cons_succ, i64_w, i32_w]
              rfl
            refine one_ (i := 5) (N := some 17) #[true, true, true, true, true, true, true, true, true, false, false, false] rfl rfl (by kernel_rfl) (by decide) (fun K hK => ?_)
            have hbA := below_alloc (Below.refl (w8).heap.size w8) (.cells (madeCells #[.slice none 0 0] has.length) 23)
            have hr3 := own_same hr3 (fun k hk => Below.block hbA k (World.ownsRow.lt hr3 k hk).2)
            have hr8 := own_same hr8 (fun k hk => Below.block hbA k (World.ownsRow.lt hr8 k hk).2)
            have hm5 := own_made_nil w8 w2.heap.size 23 has.length hHeld.1.size hN64
            refine value_ (w1 := ?_) (v := ?_) (by rfl) rfl ?_ ?_
            rotate_left 2
            · go_simp
              constructor
              · rfl
              · rfl
            refine hK.out _ _ ⟨below_step hHeld.1 hbA, pw_cell_below hbA hHeld.2.1, pw_cell_below hbA hHeld.2.2⟩ (fun hHeld => ?_)
            clear hK K
            refine norm_ (a' := ?_) ?_ ?_
            rotate_left
            · show Act.put _ (some 17) _ = _
              simp only [Act.put, List.setIfInBounds_toArray, List.set_cons_zero, List.set_cons_succ, i64_w, i32_w]
              rfl
            exact norm_ (by simp only [putAll, Act.put, List.setIfInBounds_toArray, List.set_cons_zero, List.set_cons_succ]) (hCont ((A3, c3), (A8, c8), wd.heap.size, w3.heap.size, w8.heap.size) _ ⟨hHeld, hr3, hr8, hm5, hd38⟩)
      · skip
        have hbA := below_alloc (Below.refl ((wd.alloc (.cells #[.int .i64 (-2)] 3))).heap.size (wd.alloc (.cells #[.int .i64 (-2)] 3))) (.cells (madeCells #[.slice none 0 0] has.length) 23)
        have hb1 := blk_below hb1 hbA
        have hm5 := own_made_nil (wd.alloc (.cells #[.int .i64 (-2)] 3)) w2.heap.size 23 has.length hHeld.1.size hN64
        have hz_ : ((wd.alloc (.cells #[.int .i64 (-2)] 3))).heap.size = wd.heap.size + 1 := by simp
        rw [hz_] at hm5
        refine value_ (w1 := ?_) (v := ?_) (by rfl) rfl ?_ ?_
        rotate_left 2
        · go_simp
          constructor
          · rfl
          · rfl
        refine hK.out _ _ ⟨below_step hHeld.1 hbA, pw_cell_below hbA hHeld.2.1, pw_cell_below hbA hHeld.2.2⟩ (fun hHeld => ?_)
        clear hK K
        refine norm_ (a' := ?_) ?_ ?_
        rotate_left
        · show Act.put _ (some 17) _ = _
          simp only [Act.put, List.setIfInBounds_toArray, List.set_cons_zero, List.set_cons_succ, i64_w, i32_w]
          rfl
        refine two_ (i := 3) (j := 6) (Ni := some 15) (Nj := some 18) #[true, true, true, true, true, true, false, true, false, false, false, false] #[true, true, true, false, true, true, true, true, false, false, false, false] rfl rfl rfl rfl (by kernel_rfl) (by decide) (by decide) (fun K hK => ?_) (fun K hK => ?_)
        · skip
          refine goes_ Try.func55 (by kernel_rfl) rfl #[.slice (some ⟨wd.heap.size, 0, none⟩) 1 1, .int .i64 (has.length : Int)] (by rfl) rfl rfl (by simp only [List.map_toArray, List.map_cons, List.map_nil]; rfl) ?_
          with_reducible refine (repeat_calls ((wd.alloc (.cells #[.int .i64 (-2)] 3)).alloc (.cells (madeCells #[.slice none 0 0] has.length) 23)) (wd.heap.size) has.length hb1 HN.out.1).mono ?_
          rintro e w3 ⟨v3, rfl, hr3, hbA⟩
          refine ⟨_, rfl, ?_⟩
          obtain ⟨A3, c3, e3_, _⟩ := own_shape hr3
          subst e3_
          have hr3 := own_lower hr3 hHeld.1.size
          have hb1 := blk_below hb1 hbA
          have hm5 := own_same hm5 (fun k hk => Below.block hbA k (World.ownsRow.lt hm5 k hk).2)
          refine hK.out _ _ ⟨below_step hHeld.1 hbA, pw_cell_below hbA hHeld.2.1, pw_cell_below hbA hHeld.2.2⟩ (fun hHeld => ?_)
          clear hK K
          refine norm_ (a' := ?_) ?_ ?_
          rotate_left
          · show Act.put _ (some 15) _ = _
            simp only [Act.put, List.setIfInBounds_toArray, List.set_cons_zero, List.set_cons_succ, i64_w, i32_w]
            rfl
          refine one_ (i := 6) (N := some 18) #[true, true, true, true, true, true, true, true, false, false, false, false] rfl rfl (by kernel_rfl) (by decide) (fun K hK => ?_)
          have hbA := below_alloc (Below.refl (w3).heap.size w3) (.cells #[.int .i64 (-2)] 3)
          have hr3 := own_same hr3 (fun k hk => Below.block hbA k (World.ownsRow.lt hr3 k hk).2)
          have hm5 := own_same hm5 (fun k hk => Below.block hbA k (World.ownsRow.lt hm5 k hk).2)
          have hb6 := blk_new w3 (.cells #[.int .i64 (-2)] 3)
          refine value_ (w1 := ?_) (v := ?_) (by rfl) rfl ?_ ?_
          rotate_left 2
          · go_simp
            constructor
            · rfl
            · rfl
          refine hK.out _ _ ⟨below_step hHeld.1 hbA, pw_cell_below hbA hHeld.2.1, pw_cell_below hbA hHeld.2.2⟩ (fun hHeld => ?_)
          clear hK K
          refine norm_ (a' := ?_) ?_ ?_
          rotate_left
          · show Act.put _ (some 18) _ = _
            simp only [Act.put, List.setIfInBounds_toArray, List.set_cons_zero, List.set_cons_succ, i64_w, i32_w]
            rfl
          refine one_ (i := 8) (N := some 20) #[true, true, true, true, true, true, true, true, true, false, false, false] rfl rfl (by kernel_rfl) (by decide) (fun K hK => ?_)
          refine goes_ Try.func55 (by kernel_rfl) rfl #[.slice (some ⟨w3.heap.size, 0, none⟩) 1 1, .int .i64 (has.length : Int)] (by rfl) rfl rfl (by simp only [List.map_toArray, List.map_cons, List.map_nil]; rfl) ?_
          with_reducible refine (repeat_calls (w3.alloc (.cells #[.int .i64 (-2)] 3)) (w3.heap.size) has.length hb6 HN.out.1).mono ?_
          rintro e w8 ⟨v8, rfl, hr8, hbA⟩
          refine ⟨_, rfl, ?_⟩
          obtain ⟨A8, c8, e8_, _⟩ := own_shape hr8
          subst e8_
          have hd38 : ∀ k, (Value.slice A3 has.length c3).ownBlock = some k → (Value.slice A8 has.length c8).ownBlock ≠ some k := fun k h1 h2 => by have a_ := (World.ownsRow.lt hr3 k h1).2; have b_ := (World.ownsRow.lt hr8 k h2).1; omega
          have hr8 := own_lower hr8 hHeld.1.size
          have hb6 := blk_below hb6 hbA
          have hr3 := own_same hr3 (fun k hk => Below.block hbA k (World.ownsRow.lt hr3 k hk).2)
          have hm5 := own_same hm5 (fun k hk => Below.block hbA k (World.ownsRow.lt hm5 k hk).2)
          refine hK.out _ _ ⟨below_step hHeld.1 hbA, pw_cell_below hbA hHeld.2.1, pw_cell_below hbA hHeld.2.2⟩ (fun hHeld => ?_)
          clear hK K
          refine norm_ (a' := ?_) ?_ ?_
          rotate_left
          · show Act.put _ (some 20) _ = _
            simp only [Act.put, List.setIfInBounds_toArray, List.set_cons_zero, List.set_cons_succ, i64_w, i32_w]
            rfl
          exact norm_ (by simp only [putAll, Act.put, List.setIfInBounds_toArray, List.set_cons_zero, List.set_cons_succ]) (hCont ((A3, c3), (A8, c8), wd.heap.size, w3.heap.size, wd.heap.size + 1) _ ⟨hHeld, hr3, hr8, hm5, hd38⟩)
        · skip
          have hbA := below_alloc (Below.refl (((wd.alloc (.cells #[.int .i64 (-2)] 3)).alloc (.cells (madeCells #[.slice none 0 0] has.length) 23))).heap.size ((wd.alloc (.cells #[.int .i64 (-2)] 3)).alloc (.cells (madeCells #[.slice none 0 0] has.length) 23))) (.cells #[.int .i64 (-2)] 3)
          have hb1 := blk_below hb1 hbA
          have hm5 := own_same hm5 (fun k hk => Below.block hbA k (World.ownsRow.lt hm5 k hk).2)
          have hb6 := blk_new ((wd.alloc (.cells #[.int .i64 (-2)] 3)).alloc (.cells (madeCells #[.slice none 0 0] has.length) 23)) (.cells #[.int .i64 (-2)] 3)
          have hz_ : (((wd.alloc (.cells #[.int .i64 (-2)] 3)).alloc (.cells (madeCells #[.slice none 0 0] has.length) 23))).heap.size = wd.heap.size + 2 := by simp
          rw [hz_] at hb6
          refine value_ (w1 := ?_) (v := ?_) (by rfl) rfl ?_ ?_
          rotate_left 2
          · go_simp
            constructor
            · rfl
            · rfl
          refine hK.out _ _ ⟨below_step hHeld.1 hbA, pw_cell_below hbA hHeld.2.1, pw_cell_below hbA hHeld.2.2⟩ (fun hHeld => ?_)
          clear hK K
          refine norm_ (a' := ?_) ?_ ?_
          rotate_left
          · show Act.put _ (some 18) _ = _
            simp only [Act.put, List.setIfInBounds_toArray, List.set_cons_zero, List.set_cons_succ, i64_w, i32_w]
            rfl
          refine one_ (i := 3) (N := some 15) #[true, true, true, true, true, true, true, true, false, false, false, false] rfl rfl (by kernel_rfl) (by decide) (fun K hK => ?_)
          refine goes_ Try.func55 (by kernel_rfl) rfl #[.slice (some ⟨wd.heap.size, 0, none⟩) 1 1, .int .i64 (has.length : Int)] (by rfl) rfl rfl (by simp only [List.map_toArray, List.map_cons, List.map_nil]; rfl) ?_
          with_reducible refine (repeat_calls (((wd.alloc (.cells #[.int .i64 (-2)] 3)).alloc (.cells (madeCells #[.slice none 0 0] has.length) 23)).alloc (.cells #[.int .i64 (-2)] 3)) (wd.heap.size) has.length hb1 HN.out.1).mono ?_
          rintro e w3 ⟨v3, rfl, hr3, hbA⟩
          refine ⟨_, rfl, ?_⟩
          obtain ⟨A3, c3, e3_, _⟩ := own_shape hr3
          subst e3_
          have hr3 := own_lower hr3 hHeld.1.size
          have hb1 := blk_below hb1 hbA
          have hb6 := blk_below hb6 hbA
          have hm5 := own_same hm5 (fun k hk => Below.block hbA k (World.ownsRow.lt hm5 k hk).2)
          refine hK.out _ _ ⟨below_step hHeld.1 hbA, pw_cell_below hbA hHeld.2.1, pw_cell_below hbA hHeld.2.2⟩ (fun hHeld => ?_)
          clear hK K
          refine norm_ (a' := ?_) ?_ ?_
          rotate_left
          · show Act.put _ (some 15) _ = _
            simp only [Act.put, List.setIfInBounds_toArray, List.set_cons_zero, List.set_cons_succ, i64_w, i32_w]
            rfl
          refine one_ (i := 8) (N := some 20) #[true, true, true, true, true, true, true, true, true, false, false, false] rfl rfl (by kernel_rfl) (by decide) (fun K hK => ?_)
          refine goes_ Try.func55 (by kernel_rfl) rfl #[.slice (some ⟨wd.heap.size + 2, 0, none⟩) 1 1, .int .i64 (has.length : Int)] (by rfl) rfl rfl (by simp only [List.map_toArray, List.map_cons, List.map_nil]; rfl) ?_
          with_reducible refine (repeat_calls w3 (wd.heap.size + 2) has.length hb6 HN.out.1).mono ?_
          rintro e w8 ⟨v8, rfl, hr8, hbA⟩
          refine ⟨_, rfl, ?_⟩
          obtain ⟨A8, c8, e8_, _⟩ := own_shape hr8
          subst e8_
          have hd38 : ∀ k, (Value.slice A3 has.length c3).ownBlock = some k → (Value.slice A8 has.length c8).ownBlock ≠ some k := fun k h1 h2 => by have a_ := (World.ownsRow.lt hr3 k h1).2; have b_ := (World.ownsRow.lt hr8 k h2).1; omega
          have hr8 := own_lower hr8 hHeld.1.size
          have hb6 := blk_below hb6 hbA
          have hr3 := own_same hr3 (fun k hk => Below.block hbA k (World.ownsRow.lt hr3 k hk).2)
          have hm5 := own_same hm5 (fun k hk => Below.block hbA k (World.ownsRow.lt hm5 k hk).2)
          refine hK.out _ _ ⟨below_step hHeld.1 hbA, pw_cell_below hbA hHeld.2.1, pw_cell_below hbA hHeld.2.2⟩ (fun hHeld => ?_)
          clear hK K
          refine norm_ (a' := ?_) ?_ ?_
          rotate_left
          · show Act.put _ (some 20) _ = _
            simp only [Act.put, List.setIfInBounds_toArray, List.set_cons_zero, List.set_cons_succ, i64_w, i32_w]
            rfl
          exact norm_ (by simp only [putAll, Act.put, List.setIfInBounds_toArray, List.set_cons_zero, List.set_cons_succ]) (hCont ((A3, c3), (A8, c8), wd.heap.size, wd.heap.size + 2, wd.heap.size + 1) _ ⟨hHeld, hr3, hr8, hm5, hd38⟩)
      · skip
        have hbA := below_alloc (Below.refl ((wd.alloc (.cells #[.int .i64 (-2)] 3))).heap.size (wd.alloc (.cells #[.int .i64 (-2)] 3))) (.cells #[.int .i64 (-2)] 3)
        have hb1 := blk_below hb1 hbA
        have hb6 := blk_new (wd.alloc (.cells #[.int .i64 (-2)] 3)) (.cells #[.int .i64 (-2)] 3)
        have hz_ : ((wd.alloc (.cells #[.int .i64 (-2)] 3))).heap.size = wd.heap.size + 1 := by simp
        rw [hz_] at hb6
        refine value_ (w1 := ?_) (v := ?_) (by rfl) rfl ?_ ?_
        rotate_left 2
        · go_simp
          constructor
          · rfl
          · rfl
        refine hK.out _ _ ⟨below_step hHeld.1 hbA, pw_cell_below hbA hHeld.2.1, pw_cell_below hbA hHeld.2.2⟩ (fun hHeld => ?_)
        clear hK K
        refine norm_ (a' := ?_) ?_ ?_
        rotate_left
        · show Act.put _ (some 18) _ = _
          simp only [Act.put, List.setIfInBounds_toArray, List.set_cons_zero, List.set_cons_succ, i64_w, i32_w]
          rfl
        refine two_ (i := 3) (j := 5) (Ni := some 15) (Nj := some 17) #[true, true, true, true, true, false, true, true, false, false, false, false] #[true, true, true, false, true, true, true, true, false, false, false, false] rfl rfl rfl rfl (by kernel_rfl) (by decide) (by decide) (fun K hK => ?_) (fun K hK => ?_)
        · skip
          refine goes_ Try.func55 (by kernel_rfl) rfl #[.slice (some ⟨wd.heap.size, 0, none⟩) 1 1, .int .i64 (has.length : Int)] (by rfl) rfl rfl (by simp only [List.map_toArray, List.map_cons, List.map_nil]; rfl) ?_
          with_reducible refine (repeat_calls ((wd.alloc (.cells #[.int .i64 (-2)] 3)).alloc (.cells #[.int .i64 (-2)] 3)) (wd.heap.size) has.length hb1 HN.out.1).mono ?_
          rintro e w3 ⟨v3, rfl, hr3, hbA⟩
          refine ⟨_, rfl, ?_⟩
          obtain ⟨A3, c3, e3_, _⟩ := own_shape hr3
          subst e3_
          have hr3 := own_lower hr3 hHeld.1.size
          have hb1 := blk_below hb1 hbA
          have hb6 := blk_below hb6 hbA
          refine hK.out _ _ ⟨below_step hHeld.1 hbA, pw_cell_below hbA hHeld.2.1, pw_cell_below hbA hHeld.2.2⟩ (fun hHeld => ?_)
          clear hK K
          refine norm_ (a' := ?_) ?_ ?_
          rotate_left
          · show Act.put _ (some 15) _ = _
            simp only [Act.put, List.setIfInBounds_toArray, List.set_cons_zero, List.set_cons_succ, i64_w, i32_w]
            rfl
          refine two_ (i := 5) (j := 8) (Ni := some 17) (Nj := some 20) #[true, true, true, true, true, true, true, true, false, false, false, false] #[true, true, true, true, true, false, true, true, true, false, false, false] rfl rfl rfl rfl (by kernel_rfl) (by decide) (by decide) (fun K hK => ?_) (fun K hK => ?_)
          · skip
            have hbA := below_alloc (Below.refl (w3).heap.size w3) (.cells (madeCells #[.slice none 0 0] has.length) 23)
            have hb6 := blk_below hb6 hbA
            have hr3 := own_same hr3 (fun k hk => Below.block hbA k (World.ownsRow.lt hr3 k hk).2)
            have hm5 := own_made_nil w3 w2.heap.size 23 has.length hHeld.1.size hN64
            refine value_ (w1 := ?_) (v := ?_) (by rfl) rfl ?_ ?_
            rotate_left 2
            · go_simp
              constructor
              · rfl
              · rfl
            refine hK.out _ _ ⟨below_step hHeld.1 hbA, pw_cell_below hbA hHeld.2.1, pw_cell_below hbA hHeld.2.2⟩ (fun hHeld => ?_)
            clear hK K
            refine norm_ (a' := ?_) ?_ ?_
            rotate_left
            · show Act.put _ (some 17) _ = _
              simp only [Act.put, List.setIfInBounds_toArray, List.set_cons_zero, List.set_cons_succ, i64_w, i32_w]
              rfl
            refine one_ (i := 8) (N := some 20) #[true, true, true, true, true, true, true, true, true, false, false, false] rfl rfl (by kernel_rfl) (by decide) (fun K hK => ?_)
            refine goes_ Try.func55 (by kernel_rfl) rfl #[.slice (some ⟨wd.heap.size + 1, 0, none⟩) 1 1, .int .i64 (has.length : Int)] (by rfl) rfl rfl (by simp only [List.map_toArray, List.map_cons, List.map_nil]; rfl) ?_
            with_reducible refine (repeat_calls (w3.alloc (.cells (madeCells #[.slice none 0 0] has.length) 23)) (wd.heap.size + 1) has.length hb6 HN.out.1).mono ?_
            rintro e w8 ⟨v8, rfl, hr8, hbA⟩
            refine ⟨_, rfl, ?_⟩
            obtain ⟨A8, c8, e8_, _⟩ := own_shape hr8
            subst e8_
            have hd38 : ∀ k, (Value.slice A3 has.length c3).ownBlock = some k → (Value.slice A8 has.length c8).ownBlock ≠ some k := fun k h1 h2 => by have a_ := (World.ownsRow.lt hr3 k h1).2; have b_ := (World.ownsRow.lt hr8 k h2).1; omega
            have hr8 := own_lower hr8 hHeld.1.size
            have hb6 := blk_below hb6 hbA
            have hr3 := own_same hr3 (fun k hk => Below.block hbA k (World.ownsRow.lt hr3 k hk).2)
            have hm5 := own_same hm5 (fun k hk => Below.block hbA k (World.ownsRow.lt hm5 k hk).2)
            refine hK.out _ _ ⟨below_step hHeld.1 hbA, pw_cell_below hbA hHeld.2.1, pw_cell_below hbA hHeld.2.2⟩ (fun hHeld => ?_)
            clear hK K
            refine norm_ (a' := ?_) ?_ ?_
            rotate_left
            · show Act.put _ (some 20) _ = _
              simp only [Act.put, List.setIfInBounds_toArray, List.set_cons_zero, List.set_cons_succ, i64_w, i32_w]
              rfl
            exact norm_ (by simp only [putAll, Act.put, List.setIfInBounds_toArray, List.set_cons_zero, List.set_cons_succ]) (hCont ((A3, c3), (A8, c8), wd.heap.size, wd.heap.size + 1, w3.heap.size) _ ⟨hHeld, hr3, hr8, hm5, hd38⟩)
          · skip
            refine goes_ Try.func55 (by kernel_rfl) rfl #[.slice (some ⟨wd.heap.size + 1, 0, none⟩) 1 1, .int .i64 (has.length : Int)] (by rfl) rfl rfl (by simp only [List.map_toArray, List.map_cons, List.map_nil]; rfl) ?_
            with_reducible refine (repeat_calls w3 (wd.heap.size + 1) has.length hb6 HN.out.1).mono ?_
            rintro e w8 ⟨v8, rfl, hr8, hbA⟩
            refine ⟨_, rfl, ?_⟩
            obtain ⟨A8, c8, e8_, _⟩ := own_shape hr8
            subst e8_
            have hd38 : ∀ k, (Value.slice A3 has.length c3).ownBlock = some k → (Value.slice A8 has.length c8).ownBlock ≠ some k := fun k h1 h2 => by have a_ := (World.ownsRow.lt hr3 k h1).2; have b_ := (World.ownsRow.lt hr8 k h2).1; omega
            have hr8 := own_lower hr8 hHeld.1.size
            have hb6 := blk_below hb6 hbA
            have hr3 := own_same hr3 (fun k hk => Below.block hbA k (World.ownsRow.lt hr3 k hk).2)
            refine hK.out _ _ ⟨below_step hHeld.1 hbA, pw_cell_below hbA hHeld.2.1, pw_cell_below hbA hHeld.2.2⟩ (fun hHeld => ?_)
            clear hK K
            refine norm_ (a' := ?_) ?_ ?_
            rotate_left
            · show Act.put _ (some 20) _ = _
              simp only [Act.put, List.setIfInBounds_toArray, List.set_cons_zero, List.set_cons_succ, i64_w, i32_w]
              rfl
            refine one_ (i := 5) (N := some 17) #[true, true, true, true, true, true, true, true, true, false, false, false] rfl rfl (by kernel_rfl) (by decide) (fun K hK => ?_)
            have hbA := below_alloc (Below.refl (w8).heap.size w8) (.cells (madeCells #[.slice none 0 0] has.length) 23)
            have hr3 := own_same hr3 (fun k hk => Below.block hbA k (World.ownsRow.lt hr3 k hk).2)
            have hr8 := own_same hr8 (fun k hk => Below.block hbA k (World.ownsRow.lt hr8 k hk).2)
            have hm5 := own_made_nil w8 w2.heap.size 23 has.length hHeld.1.size hN64
            refine value_ (w1 := ?_) (v := ?_) (by rfl) rfl ?_ ?_
            rotate_left 2
            · go_simp
              constructor
              · rfl
              · rfl
            refine hK.out _ _ ⟨below_step hHeld.1 hbA, pw_cell_below hbA hHeld.2.1, pw_cell_below hbA hHeld.2.2⟩ (fun hHeld => ?_)
            clear hK K
            refine norm_ (a' := ?_) ?_ ?_
            rotate_left
            · show Act.put _ (some 17) _ = _
              simp only [Act.put, List.setIfInBounds_toArray, List.set_cons_zero, List.set_cons_succ, i64_w, i32_w]
              rfl
            exact norm_ (by simp only [putAll, Act.put, List.setIfInBounds_toArray, List.set_cons_zero, List.set_cons_succ]) (hCont ((A3, c3), (A8, c8), wd.heap.size, wd.heap.size + 1, w8.heap.size) _ ⟨hHeld, hr3, hr8, hm5, hd38⟩)
        · skip
          have hbA := below_alloc (Below.refl (((wd.alloc (.cells #[.int .i64 (-2)] 3)).alloc (.cells #[.int .i64 (-2)] 3))).heap.size ((wd.alloc (.cells #[.int .i64 (-2)] 3)).alloc (.cells #[.int .i64 (-2)] 3))) (.cells (madeCells #[.slice none 0 0] has.length) 23)
          have hb1 := blk_below hb1 hbA
          have hb6 := blk_below hb6 hbA
          have hm5 := own_made_nil ((wd.alloc (.cells #[.int .i64 (-2)] 3)).alloc (.cells #[.int .i64 (-2)] 3)) w2.heap.size 23 has.length hHeld.1.size hN64
          have hz_ : (((wd.alloc (.cells #[.int .i64 (-2)] 3)).alloc (.cells #[.int .i64 (-2)] 3))).heap.size = wd.heap.size + 2 := by simp
          rw [hz_] at hm5
          refine value_ (w1 := ?_) (v := ?_) (by rfl) rfl ?_ ?_
          rotate_left 2
          · go_simp
            constructor
            · rfl
            · rfl
          refine hK.out _ _ ⟨below_step hHeld.1 hbA, pw_cell_below hbA hHeld.2.1, pw_cell_below hbA hHeld.2.2⟩ (fun hHeld => ?_)
          clear hK K
          refine norm_ (a' := ?_) ?_ ?_
          rotate_left
          · show Act.put _ (some 17) _ = _
            simp only [Act.put, List.setIfInBounds_toArray, List.set_cons_zero, List.set_cons_succ, i64_w, i32_w]
            rfl
          refine one_ (i := 3) (N := some 15) #[true, true, true, true, true, true, true, true, false, false, false, false] rfl rfl (by kernel_rfl) (by decide) (fun K hK => ?_)
          refine goes_ Try.func55 (by kernel_rfl) rfl #[.slice (some ⟨wd.heap.size, 0, none⟩) 1 1, .int .i64 (has.length : Int)] (by rfl) rfl rfl (by simp only [List.map_toArray, List.map_cons, List.map_nil]; rfl) ?_
          with_reducible refine (repeat_calls (((wd.alloc (.cells #[.int .i64 (-2)] 3)).alloc (.cells #[.int .i64 (-2)] 3)).alloc (.cells (madeCells #[.slice none 0 0] has.length) 23)) (wd.heap.size) has.length hb1 HN.out.1).mono ?_
          rintro e w3 ⟨v3, rfl, hr3, hbA⟩
          refine ⟨_, rfl, ?_⟩
          obtain ⟨A3, c3, e3_, _⟩ := own_shape hr3
          subst e3_
          have hr3 := own_lower hr3 hHeld.1.size
          have hb1 := blk_below hb1 hbA
          have hb6 := blk_below hb6 hbA
          have hm5 := own_same hm5 (fun k hk => Below.block hbA k (World.ownsRow.lt hm5 k hk).2)
          refine hK.out _ _ ⟨below_step hHeld.1 hbA, pw_cell_below hbA hHeld.2.1, pw_cell_below hbA hHeld.2.2⟩ (fun hHeld => ?_)
          clear hK K
          refine norm_ (a' := ?_) ?_ ?_
          rotate_left
          · show Act.put _ (some 15) _ = _
            simp only [Act.put, List.setIfInBounds_toArray, List.set_cons_zero, List.set_cons_succ, i64_w, i32_w]
            rfl
          refine one_ (i := 8) (N := some 20) #[true, true, true, true, true, true, true, true, true, false, false, false] rfl rfl (by kernel_rfl) (by decide) (fun K hK => ?_)
          refine goes_ Try.func55 (by kernel_rfl) rfl #[.slice (some ⟨wd.heap.size + 1, 0, none⟩) 1 1, .int .i64 (has.length : Int)] (by rfl) rfl rfl (by simp only [List.map_toArray, List.map_cons, List.map_nil]; rfl) ?_
          with_reducible refine (repeat_calls w3 (wd.heap.size + 1) has.length hb6 HN.out.1).mono ?_
          rintro e w8 ⟨v8, rfl, hr8, hbA⟩
          refine ⟨_, rfl, ?_⟩
          obtain ⟨A8, c8, e8_, _⟩ := own_shape hr8
          subst e8_
          have hd38 : ∀ k, (Value.slice A3 has.length c3).ownBlock = some k → (Value.slice A8 has.length c8).ownBlock ≠ some k := fun k h1 h2 => by have a_ := (World.ownsRow.lt hr3 k h1).2; have b_ := (World.ownsRow.lt hr8 k h2).1; omega
          have hr8 := own_lower hr8 hHeld.1.size
          have hb6 := blk_below hb6 hbA
          have hr3 := own_same hr3 (fun k hk => Below.block hbA k (World.ownsRow.lt hr3 k hk).2)
          have hm5 := own_same hm5 (fun k hk => Below.block hbA k (World.ownsRow.lt hm5 k hk).2)
          refine hK.out _ _ ⟨below_step hHeld.1 hbA, pw_cell_below hbA hHeld.2.1, pw_cell_below hbA hHeld.2.2⟩ (fun hHeld => ?_)
          clear hK K
          refine norm_ (a' := ?_) ?_ ?_
          rotate_left
          · show Act.put _ (some 20) _ = _
            simp only [Act.put, List.setIfInBounds_toArray, List.set_cons_zero, List.set_cons_succ, i64_w, i32_w]
            rfl
          exact norm_ (by simp only [putAll, Act.put, List.setIfInBounds_toArray, List.set_cons_zero, List.set_cons_succ]) (hCont ((A3, c3), (A8, c8), wd.heap.size, wd.heap.size + 1, wd.heap.size + 2) _ ⟨hHeld, hr3, hr8, hm5, hd38⟩)
    · skip
      have hbA := below_alloc (Below.refl (wd).heap.size wd) (.cells (madeCells #[.slice none 0 0] has.length) 23)
      have hm5 := own_made_nil wd w2.heap.size 23 has.length hHeld.1.size hN64
      refine value_ (w1 := ?_) (v := ?_) (by rfl) rfl ?_ ?_
      rotate_left 2
      · go_simp
        constructor
        · rfl
        · rfl
      refine hK.out _ _ ⟨below_step hHeld.1 hbA, pw_cell_below hbA hHeld.2.1, pw_cell_below hbA hHeld.2.2⟩ (fun hHeld => ?_)
      clear hK K
      refine norm_ (a' := ?_) ?_ ?_
      rotate_left
      · show Act.put _ (some 17) _ = _
        simp only [Act.put, List.setIfInBounds_toArray, List.set_cons_zero, List.set_cons_succ, i64_w, i32_w]
        rfl
      refine two_ (i := 1) (j := 6) (Ni := some 13) (Nj := some 18) #[true, true, true, false, true, true, false, true, false, false, false, false] #[true, false, true, false, true, true, true, true, false, false, false, false] rfl rfl rfl rfl (by kernel_rfl) (by decide) (by decide) (fun K hK => ?_) (fun K hK => ?_)
      · skip
        have hbA := below_alloc (Below.refl ((wd.alloc (.cells (madeCells #[.slice none 0 0] has.length) 23))).heap.size (wd.alloc (.cells (madeCells #[.slice none 0 0] has.length) 23))) (.cells #[.int .i64 (-2)] 3)
        have hm5 := own_same hm5 (fun k hk => Below.block hbA k (World.ownsRow.lt hm5 k hk).2)
        have hb1 := blk_new (wd.alloc (.cells (madeCells #[.slice none 0 0] has.length) 23)) (.cells #[.int .i64 (-2)] 3)
        have hz_ : ((wd.alloc (.cells (madeCells #[.slice none 0 0] has.length) 23))).heap.size = wd.heap.size + 1 := by simp
        rw [hz_] at hb1
        refine value_ (w1 := ?_) (v := ?_) (by rfl) rfl ?_ ?_
        rotate_left 2
        · go_simp
          constructor
          · rfl
          · rfl
        refine hK.out _ _ ⟨below_step hHeld.1 hbA, pw_cell_below hbA hHeld.2.1, pw_cell_below hbA hHeld.2.2⟩ (fun hHeld => ?_)
        clear hK K
        refine norm_ (a' := ?_) ?_ ?_
        rotate_left
        · show Act.put _ (some 13) _ = _
          simp only [Act.put, List.setIfInBounds_toArray, List.set_cons_zero, List.set_cons_succ, i64_w, i32_w]
          rfl
        refine two_ (i := 3) (j := 6) (Ni := some 15) (Nj := some 18) #[true, true, true, true, true, true, false, true, false, false, false, false] #[true, true, true, false, true, true, true, true, false, false, false, false] rfl rfl rfl rfl (by kernel_rfl) (by decide) (by decide) (fun K hK => ?_) (fun K hK => ?_)
        · skip
          refine goes_ Try.func55 (by kernel_rfl) rfl #[.slice (some ⟨wd.heap.size + 1, 0, none⟩) 1 1, .int .i64 (has.length : Int)] (by rfl) rfl rfl (by simp only [List.map_toArray, List.map_cons, List.map_nil]; rfl) ?_
          with_reducible refine (repeat_calls ((wd.alloc (.cells (madeCells #[.slice none 0 0] has.length) 23)).alloc (.cells #[.int .i64 (-2)] 3)) (wd.heap.size + 1) has.length hb1 HN.out.1).mono ?_
          rintro e w3 ⟨v3, rfl, hr3, hbA⟩
          refine ⟨_, rfl, ?_⟩
          obtain ⟨A3, c3, e3_, _⟩ := own_shape hr3
          subst e3_
          have hr3 := own_lower hr3 hHeld.1.size
          have hb1 := blk_below hb1 hbA
          have hm5 := own_same hm5 (fun k hk => Below.block hbA k (World.ownsRow.lt hm5 k hk).2)
          refine hK.out _ _ ⟨below_step hHeld.1 hbA, pw_cell_below hbA hHeld.2.1, pw_cell_below hbA hHeld.2.2⟩ (fun hHeld => ?_)
          clear hK K
          refine norm_ (a' := ?_) ?_ ?_
          rotate_left
          · show Act.put _ (some 15) _ = _
            simp only [Act.put, List.setIfInBounds_toArray, List.set_cons_zero, List.set_cons_succ, i64_w, i32_w]
            rfl
          refine one_ (i := 6) (N := some 18) #[true, true, true, true, true, true, true, true, false, false, false, false] rfl rfl (by kernel_rfl) (by decide) (fun K hK => ?_)
          have hbA := below_alloc (Below.refl (w3).heap.size w3) (.cells #[.int .i64 (-2)] 3)
          have hr3 := own_same hr3 (fun k hk => Below.block hbA k (World.ownsRow.lt hr3 k hk).2)
          have hm5 := own_same hm5 (fun k hk => Below.block hbA k (World.ownsRow.lt hm5 k hk).2)
          have hb6 := blk_new w3 (.cells #[.int .i64 (-2)] 3)
          refine value_ (w1 := ?_) (v := ?_) (by rfl) rfl ?_ ?_
          rotate_left 2
          · go_simp
            constructor
            · rfl
            · rfl
          refine hK.out _ _ ⟨below_step hHeld.1 hbA, pw_cell_below hbA hHeld.2.1, pw_cell_below hbA hHeld.2.2⟩ (fun hHeld => ?_)
          clear hK K
          refine norm_ (a' := ?_) ?_ ?_
          rotate_left
          · show Act.put _ (some 18) _ = _
            simp only [Act.put, List.setIfInBounds_toArray, List.set_cons_zero, List.set_cons_succ, i64_w, i32_w]
            rfl
          refine one_ (i := 8) (N := some 20) #[true, true, true, true, true, true, true, true, true, false, false, false] rfl rfl (by kernel_rfl) (by decide) (fun K hK => ?_)
          refine goes_ Try.func55 (by kernel_rfl) rfl #[.slice (some ⟨w3.heap.size, 0, none⟩) 1 1, .int .i64 (has.length : Int)] (by rfl) rfl rfl (by simp only [List.map_toArray, List.map_cons, List.map_nil]; rfl) ?_
          with_reducible refine (repeat_calls (w3.alloc (.cells #[.int .i64 (-2)] 3)) (w3.heap.size) has.length hb6 HN.out.1).mono ?_
          rintro e w8 ⟨v8, rfl, hr8, hbA⟩
          refine ⟨_, rfl, ?_⟩
          obtain ⟨A8, c8, e8_, _⟩ := own_shape hr8
          subst e8_
          have hd38 : ∀ k, (Value.slice A3 has.length c3).ownBlock = some k → (Value.slice A8 has.length c8).ownBlock ≠ some k := fun k h1 h2 => by have a_ := (World.ownsRow.lt hr3 k h1).2; have b_ := (World.ownsRow.lt hr8 k h2).1; omega
          have hr8 := own_lower hr8 hHeld.1.size
          have hb6 := blk_below hb6 hbA
          have hr3 := own_same hr3 (fun k hk => Below.block hbA k (World.ownsRow.lt hr3 k hk).2)
          have hm5 := own_same hm5 (fun k hk => Below.block hbA k (World.ownsRow.lt hm5 k hk).2)
          refine hK.out _ _ ⟨below_step hHeld.1 hbA, pw_cell_below hbA hHeld.2.1, pw_cell_below hbA hHeld.2.2⟩ (fun hHeld => ?_)
          clear hK K
          refine norm_ (a' := ?_) ?_ ?_
          rotate_left
          · show Act.put _ (some 20) _ = _
            simp only [Act.put, List.setIfInBounds_toArray, List.set_cons_zero, List.set_cons_succ, i64_w, i32_w]
            rfl
          exact norm_ (by simp only [putAll, Act.put, List.setIfInBounds_toArray, List.set_cons_zero, List.set_cons_succ]) (hCont ((A3, c3), (A8, c8), wd.heap.size + 1, w3.heap.size, wd.heap.size) _ ⟨hHeld, hr3, hr8, hm5, hd38⟩)
        · skip
          have hbA := below_alloc (Below.refl (((wd.alloc (.cells (madeCells #[.slice none 0 0] has.length) 23)).alloc (.cells #[.int .i64 (-2)] 3))).heap.size ((wd.alloc (.cells (madeCells #[.slice none 0 0] has.length) 23)).alloc (.cells #[.int .i64 (-2)] 3))) (.cells #[.int .i64 (-2)] 3)
          have hb1 := blk_below hb1 hbA
          have hm5 := own_same hm5 (fun k hk => Below.block hbA k (World.ownsRow.lt hm5 k hk).2)
          have hb6 := blk_new ((wd.alloc (.cells (madeCells #[.slice none 0 0] has.length) 23)).alloc (.cells #[.int .i64 (-2)] 3)) (.cells #[.int .i64 (-2)] 3)
          have hz_ : (((wd.alloc (.cells (madeCells #[.slice none 0 0] has.length) 23)).alloc (.cells #[.int .i64 (-2)] 3))).heap.size = wd.heap.size + 2 := by simp
          rw [hz_] at hb6
          refine value_ (w1 := ?_) (v := ?_) (by rfl) rfl ?_ ?_
          rotate_left 2
          · go_simp
            constructor
            · rfl
            · rfl
          refine hK.out _ _ ⟨below_step hHeld.1 hbA, pw_cell_below hbA hHeld.2.1, pw_cell_below hbA hHeld.2.2⟩ (fun hHeld => ?_)
          clear hK K
          refine norm_ (a' := ?_) ?_ ?_
          rotate_left
          · show Act.put _ (some 18) _ = _
            simp only [Act.put, List.setIfInBounds_toArray, List.set_cons_zero, List.set_cons_succ, i64_w, i32_w]
            rfl
          refine one_ (i := 3) (N := some 15) #[true, true, true, true, true, true, true, true, false, false, false, false] rfl rfl (by kernel_rfl) (by decide) (fun K hK => ?_)
          refine goes_ Try.func55 (by kernel_rfl) rfl #[.slice (some ⟨wd.heap.size + 1, 0, none⟩) 1 1, .int .i64 (has.length : Int)] (by rfl) rfl rfl (by simp only [List.map_toArray, List.map_cons, List.map_nil]; rfl) ?_
          with_reducible refine (repeat_calls (((wd.alloc (.cells (madeCells #[.slice none 0 0] has.length) 23)).alloc (.cells #[.int .i64 (-2)] 3)).alloc (.cells #[.int .i64 (-2)] 3)) (wd.heap.size + 1) has.length hb1 HN.out.1).mono ?_
          rintro e w3 ⟨v3, rfl, hr3, hbA⟩
          refine ⟨_, rfl, ?_⟩
          obtain ⟨A3, c3, e3_, _⟩ := own_shape hr3
          subst e3_
          have hr3 := own_lower hr3 hHeld.1.size
          have hb1 := blk_below hb1 hbA
          have hb6 := blk_below hb6 hbA
          have hm5 := own_same hm5 (fun k hk => Below.block hbA k (World.ownsRow.lt hm5 k hk).2)
          refine hK.out _ _ ⟨below_step hHeld.1 hbA, pw_cell_below hbA hHeld.2.1, pw_cell_below hbA hHeld.2.2⟩ (fun hHeld => ?_)
          clear hK K
          refine norm_ (a' := ?_) ?_ ?_
          rotate_left
          · show Act.put _ (some 15) _ = _
            simp only [Act.put, List.setIfInBounds_toArray, List.set_cons_zero, List.set_cons_succ, i64_w, i32_w]
            rfl
          refine one_ (i := 8) (N := some 20) #[true, true, true, true, true, true, true, true, true, false, false, false] rfl rfl (by kernel_rfl) (by decide) (fun K hK => ?_)
          refine goes_ Try.func55 (by kernel_rfl) rfl #[.slice (some ⟨wd.heap.size + 2, 0, none⟩) 1 1, .int .i64 (has.length : Int)] (by rfl) rfl rfl (by simp only [List.map_toArray, List.map_cons, List.map_nil]; rfl) ?_
          with_reducible refine (repeat_calls w3 (wd.heap.size + 2) has.length hb6 HN.out.1).mono ?_
          rintro e w8 ⟨v8, rfl, hr8, hbA⟩
          refine ⟨_, rfl, ?_⟩
          obtain ⟨A8, c8, e8_, _⟩ := own_shape hr8
          subst e8_
          have hd38 : ∀ k, (Value.slice A3 has.length c3).ownBlock = some k → (Value.slice A8 has.length c8).ownBlock ≠ some k := fun k h1 h2 => by have a_ := (World.ownsRow.lt hr3 k h1).2; have b_ := (World.ownsRow.lt hr8 k h2).1; omega
          have hr8 := own_lower hr8 hHeld.1.size
          have hb6 := blk_below hb6 hbA
          have hr3 := own_same hr3 (fun k hk => Below.block hbA k (World.ownsRow.lt hr3 k hk).2)
          have hm5 := own_same hm5 (fun k hk => Below.block hbA k (World.ownsRow.lt hm5 k hk).2)
          refine hK.out _ _ ⟨below_step hHeld.1 hbA, pw_cell_below hbA hHeld.2.1, pw_cell_below hbA hHeld.2.2⟩ (fun hHeld => ?_)
          clear hK K
          refine norm_ (a' := ?_) ?_ ?_
          rotate_left
          · show Act.put _ (some 20) _ = _
            simp only [Act.put, List.setIfInBounds_toArray, List.set_cons_zero, List.set_cons_succ, i64_w, i32_w]
            rfl
          exact norm_ (by simp only [putAll, Act.put, List.setIfInBounds_toArray, List.set_cons_zero, List.set_cons_succ]) (hCont ((A3, c3), (A8, c8), wd.heap.size + 1, wd.heap.size + 2, wd.heap.size) _ ⟨hHeld, hr3, hr8, hm5, hd38⟩)
      · skip
        have hbA := below_alloc (Below.refl ((wd.alloc (.cells (madeCells #[.slice none 0 0] has.length) 23))).heap.size (wd.alloc (.cells (madeCells #[.slice none 0 0] has.length) 23))) (.cells #[.int .i64 (-2)] 3)
        have hm5 := own_same hm5 (fun k hk => Below.block hbA k (World.ownsRow.lt hm5 k hk).2)
        have hb6 := blk_new (wd.alloc (.cells (madeCells #[.slice none 0 0] has.length) 23)) (.cells #[.int .i64 (-2)] 3)
        have hz_ : ((wd.alloc (.cells (madeCells #[.slice none 0 0] has.length) 23))).heap.size = wd.heap.size + 1 := by simp
        rw [hz_] at hb6
        refine value_ (w1 := ?_) (v := ?_) (by rfl) rfl ?_ ?_
        rotate_left 2
        · go_simp
          constructor
          · rfl
          · rfl
        refine hK.out _ _ ⟨below_step hHeld.1 hbA, pw_cell_below hbA hHeld.2.1, pw_cell_below hbA hHeld.2.2⟩ (fun hHeld => ?_)
        clear hK K
        refine norm_ (a' := ?_) ?_ ?_
        rotate_left
        · show Act.put _ (some 18) _ = _
          simp only [Act.put, List.setIfInBounds_toArray, List.set_cons_zero, List.set_cons_succ, i64_w, i32_w]
          rfl
        refine one_ (i := 1) (N := some 13) #[true, true, true, false, true, true, true, true, false, false, false, false] rfl rfl (by kernel_rfl) (by decide) (fun K hK => ?_)
        have hbA := below_alloc (Below.refl (((wd.alloc (.cells (madeCells #[.slice none 0 0] has.length) 23)).alloc (.cells #[.int .i64 (-2)] 3))).heap.size ((wd.alloc (.cells (madeCells #[.slice none 0 0] has.length) 23)).alloc (.cells #[.int .i64 (-2)] 3))) (.cells #[.int .i64 (-2)] 3)
        have hb6 := blk_below hb6 hbA
        have hm5 := own_same hm5 (fun k hk => Below.block hbA k (World.ownsRow.lt hm5 k hk).2)
        have hb1 := blk_new ((wd.alloc (.cells (madeCells #[.slice none 0 0] has.length) 23)).alloc (.cells #[.int .i64 (-2)] 3)) (.cells #[.int .i64 (-2)] 3)
        have hz_ : (((wd.alloc (.cells (madeCells #[.slice none 0 0] has.length) 23)).alloc (.cells #[.int .i64 (-2)] 3))).heap.size = wd.heap.size + 2 := by simp
        rw [hz_] at hb1
        refine value_ (w1 := ?_) (v := ?_) (by rfl) rfl ?_ ?_
        rotate_left 2
        · go_simp
          constructor
          · rfl
          · rfl
        refine hK.out _ _ ⟨below_step hHeld.1 hbA, pw_cell_below hbA hHeld.2.1, pw_cell_below hbA hHeld.2.2⟩ (fun hHeld => ?_)
        clear hK K
        refine norm_ (a' := ?_) ?_ ?_
        rotate_left
        · show Act.put _ (some 13) _ = _
          simp only [Act.put, List.setIfInBounds_toArray, List.set_cons_zero, List.set_cons_succ, i64_w, i32_w]
          rfl
        refine one_ (i := 3) (N := some 15) #[true, true, true, true, true, true, true, true, false, false, false, false] rfl rfl (by kernel_rfl) (by decide) (fun K hK => ?_)
        refine goes_ Try.func55 (by kernel_rfl) rfl #[.slice (some ⟨wd.heap.size + 2, 0, none⟩) 1 1, .int .i64 (has.length : Int)] (by rfl) rfl rfl (by simp only [List.map_toArray, List.map_cons, List.map_nil]; rfl) ?_
        with_reducible refine (repeat_calls (((wd.alloc (.cells (madeCells #[.slice none 0 0] has.length) 23)).alloc (.cells #[.int .i64 (-2)] 3)).alloc (.cells #[.int .i64 (-2)] 3)) (wd.heap.size + 2) has.length hb1 HN.out.1).mono ?_
        rintro e w3 ⟨v3, rfl, hr3, hbA⟩
        refine ⟨_, rfl, ?_⟩
        obtain ⟨A3, c3, e3_, _⟩ := own_shape hr3
        subst e3_
        have hr3 := own_lower hr3 hHeld.1.size
        have hb1 := blk_below hb1 hbA
        have hb6 := blk_below hb6 hbA
        have hm5 := own_same hm5 (fun k hk => Below.block hbA k (World.ownsRow.lt hm5 k hk).2)
        refine hK.out _ _ ⟨below_step hHeld.1 hbA, pw_cell_below hbA hHeld.2.1, pw_cell_below hbA hHeld.2.2⟩ (fun hHeld => ?_)
        clear hK K
        refine norm_ (a' := ?_) ?_ ?_
        rotate_left
        · show Act.put _ (some 15) _ = _
          simp only [Act.put, List.setIfInBounds_toArray, List.set_cons_zero, List.set_cons_succ, i64_w, i32_w]
          rfl
        refine one_ (i := 8) (N := some 20) #[true, true, true, true, true, true, true, true, true, false, false, false] rfl rfl (by kernel_rfl) (by decide) (fun K hK => ?_)
        refine goes_ Try.func55 (by kernel_rfl) rfl #[.slice (some ⟨wd.heap.size + 1, 0, none⟩) 1 1, .int .i64 (has.length : Int)] (by rfl) rfl rfl (by simp only [List.map_toArray, List.map_cons, List.map_nil]; rfl) ?_
        with_reducible refine (repeat_calls w3 (wd.heap.size + 1) has.length hb6 HN.out.1).mono ?_
        rintro e w8 ⟨v8, rfl, hr8, hbA⟩
        refine ⟨_, rfl, ?_⟩
        obtain ⟨A8, c8, e8_, _⟩ := own_shape hr8
        subst e8_
        have hd38 : ∀ k, (Value.slice A3 has.length c3).ownBlock = some k → (Value.slice A8 has.length c8).ownBlock ≠ some k := fun k h1 h2 => by have a_ := (World.ownsRow.lt hr3 k h1).2; have b_ := (World.ownsRow.lt hr8 k h2).1; omega
        have hr8 := own_lower hr8 hHeld.1.size
        have hb6 := blk_below hb6 hbA
        have hr3 := own_same hr3 (fun k hk => Below.block hbA k (World.ownsRow.lt hr3 k hk).2)
        have hm5 := own_same hm5 (fun k hk => Below.block hbA k (World.ownsRow.lt hm5 k hk).2)
        refine hK.out _ _ ⟨below_step hHeld.1 hbA, pw_cell_below hbA hHeld.2.1, pw_cell_below hbA hHeld.2.2⟩ (fun hHeld => ?_)
        clear hK K
        refine norm_ (a' := ?_) ?_ ?_
        rotate_left
        · show Act.put _ (some 20) _ = _
          simp only [Act.put, List.setIfInBounds_toArray, List.set_cons_zero, List.set_cons_succ, i64_w, i32_w]
          rfl
        exact norm_ (by simp only [putAll, Act.put, List.setIfInBounds_toArray, List.set_cons_zero, List.set_cons_succ]) (hCont ((A3, c3), (A8, c8), wd.heap.size + 2, wd.heap.size + 1, wd.heap.size) _ ⟨hHeld, hr3, hr8, hm5, hd38⟩)
    · skip
      have hbA := below_alloc (Below.refl (wd).heap.size wd) (.cells #[.int .i64 (-2)] 3)
      have hb6 := blk_new wd (.cells #[.int .i64 (-2)] 3)
      refine value_ (w1 := ?_) (v := ?_) (by rfl) rfl ?_ ?_
      rotate_left 2
      · go_simp
        constructor
        · rfl
        · rfl
      refine hK.out _ _ ⟨below_step hHeld.1 hbA, pw_cell_below hbA hHeld.2.1, pw_cell_below hbA hHeld.2.2⟩ (fun hHeld => ?_)
      clear hK K
      refine norm_ (a' := ?_) ?_ ?_
      rotate_left
      · show Act.put _ (some 18) _ = _
        simp only [Act.put, List.setIfInBounds_toArray, List.set_cons_zero, List.set_cons_succ, i64_w, i32_w]
        rfl
      refine two_ (i := 1) (j := 5) (Ni := some 13) (Nj := some 17) #[true, true, true, false, true, false, true, true, false, false, false, false] #[true, false, true, false, true, true, true, true, false, false, false, false] rfl rfl rfl rfl (by kernel_rfl) (by decide) (by decide) (fun K hK => ?_) (fun K hK => ?_)
      · skip
        have hbA := below_alloc (Below.refl ((wd.alloc (.cells #[.int .i64 (-2)] 3))).heap.size (wd.alloc (.cells #[.int .i64 (-2)] 3))) (.cells #[.int .i64 (-2)] 3)
        have hb6 := blk_below hb6 hbA
        have hb1 := blk_new (wd.alloc (.cells #[.int .i64 (-2)] 3)) (.cells #[.int .i64 (-2)] 3)
        have hz_ : ((wd.alloc (.cells #[.int .i64 (-2)] 3))).heap.size = wd.heap.size + 1 := by simp
        rw [hz_] at hb1
        refine value_ (w1 := ?_) (v := ?_) (by rfl) rfl ?_ ?_
        rotate_left 2
        · go_simp
          constructor
          · rfl
          · rfl
        refine hK.out _ _ ⟨below_step hHeld.1 hbA, pw_cell_below hbA hHeld.2.1, pw_cell_below hbA hHeld.2.2⟩ (fun hHeld => ?_)
        clear hK K
        refine norm_ (a' := ?_) ?_ ?_
        rotate_left
        · show Act.put _ (some 13) _ = _
          simp only [Act.put, List.setIfInBounds_toArray, List.set_cons_zero, List.set_cons_succ, i64_w, i32_w]
          rfl
        refine two_ (i := 3) (j := 5) (Ni := some 15) (Nj := some 17) #[true, true, true, true, true, false, true, true, false, false, false, false] #[true, true, true, false, true, true, true, true, false, false, false, false] rfl rfl rfl rfl (by kernel_rfl) (by decide) (by decide) (fun K hK => ?_) (fun K hK => ?_)
        · skip
          refine goes_ Try.func55 (by kernel_rfl) rfl #[.slice (some ⟨wd.heap.size + 1, 0, none⟩) 1 1, .int .i64 (has.length : Int)] (by rfl) rfl rfl (by simp only [List.map_toArray, List.map_cons, List.map_nil]; rfl) ?_
          with_reducible refine (repeat_calls ((wd.alloc (.cells #[.int .i64 (-2)] 3)).alloc (.cells #[.int .i64 (-2)] 3)) (wd.heap.size + 1) has.length hb1 HN.out.1).mono ?_
          rintro e w3 ⟨v3, rfl, hr3, hbA⟩
          refine ⟨_, rfl, ?_⟩
          obtain ⟨A3, c3, e3_, _⟩ := own_shape hr3
          subst e3_
          have hr3 := own_lower hr3 hHeld.1.size
          have hb1 := blk_below hb1 hbA
          have hb6 := blk_below hb6 hbA
          refine hK.out _ _ ⟨below_step hHeld.1 hbA, pw_cell_below hbA hHeld.2.1, pw_cell_below hbA hHeld.2.2⟩ (fun hHeld => ?_)
          clear hK K
          refine norm_ (a' := ?_) ?_ ?_
          rotate_left
          · show Act.put _ (some 15) _ = _
            simp only [Act.put, List.setIfInBounds_toArray, List.set_cons_zero, List.set_cons_succ, i64_w, i32_w]
            rfl
          refine two_ (i := 5) (j := 8) (Ni := some 17) (Nj := some 20) #[true, true, true, true, true, true, true, true, false, false, false, false] #[true, true, true, true, true, false, true, true, true, false, false, false] rfl rfl rfl rfl (by kernel_rfl) (by decide) (by decide) (fun K hK => ?_) (fun K hK => ?_)
          · skip
            have hbA := below_alloc (Below.refl (w3).heap.size w3) (.cells (madeCells #[.slice none 0 0] has.length) 23)
            have hb6 := blk_below hb6 hbA
            have hr3 := own_same hr3 (fun k hk => Below.block hbA k (World.ownsRow.lt hr3 k hk).2)
            have hm5 := own_made_nil w3 w2.heap.size 23 has.length hHeld.1.size hN64
            refine value_ (w1 := ?_) (v := ?_) (by rfl) rfl ?_ ?_
            rotate_left 2
            · go_simp
              constructor
              · rfl
              · rfl
            refine hK.out _ _ ⟨below_step hHeld.1 hbA, pw_cell_below hbA hHeld.2.1, pw_cell_below hbA hHeld.2.2⟩ (fun hHeld => ?_)
            clear hK K
            refine norm_ (a' := ?_) ?_ ?_
            rotate_left
            · show Act.put _ (some 17) _ = _
              simp only [Act.put, List.setIfInBounds_toArray, List.set_cons_zero, List.set_cons_succ, i64_w, i32_w]
              rfl
            refine one_ (i := 8) (N := some 20) #[true, true, true, true, true, true, true, true, true, false, false, false] rfl rfl (by kernel_rfl) (by decide) (fun K hK => ?_)
            refine goes_ Try.func55 (by kernel_rfl) rfl #[.slice (some ⟨wd.heap.size, 0, none⟩) 1 1, .int .i64 (has.length : Int)] (by rfl) rfl rfl (by simp only [List.map_toArray, List.map_cons, List.map_nil]; rfl) ?_
            with_reducible refine (repeat_calls (w3.alloc (.cells (madeCells #[.slice none 0 0] has.length) 23)) (wd.heap.size) has.length hb6 HN.out.1).mono ?_
            rintro e w8 ⟨v8, rfl, hr8, hbA⟩
            refine ⟨_, rfl, ?_⟩
            obtain ⟨A8, c8, e8_, _⟩ := own_shape hr8
            subst e8_
            have hd38 : ∀ k, (Value.slice A3 has.length c3).ownBlock = some k → (Value.slice A8 has.length c8).ownBlock ≠ some k := fun k h1 h2 => by have a_ := (World.ownsRow.lt hr3 k h1).2; have b_ := (World.ownsRow.lt hr8 k h2).1; omega
            have hr8 := own_lower hr8 hHeld.1.size
            have hb6 := blk_below hb6 hbA
            have hr3 := own_same hr3 (fun k hk => Below.block hbA k (World.ownsRow.lt hr3 k hk).2)
            have hm5 := own_same hm5 (fun k hk => Below.block hbA k (World.ownsRow.lt hm5 k hk).2)
            refine hK.out _ _ ⟨below_step hHeld.1 hbA, pw_cell_below hbA hHeld.2.1, pw_cell_below hbA hHeld.2.2⟩ (fun hHeld => ?_)
            clear hK K
            refine norm_ (a' := ?_) ?_ ?_
            rotate_left
            · show Act.put _ (some 20) _ = _
              simp only [Act.put, List.setIfInBounds_toArray, List.set_cons_zero, List.set_cons_succ, i64_w, i32_w]
              rfl
            exact norm_ (by simp only [putAll, Act.put, List.setIfInBounds_toArray, List.set_cons_zero, List.set_cons_succ]) (hCont ((A3, c3), (A8, c8), wd.heap.size + 1, wd.heap.size, w3.heap.size) _ ⟨hHeld, hr3, hr8, hm5, hd38⟩)
          · skip
            refine goes_ Try.func55 (by kernel_rfl) rfl #[.slice (some ⟨wd.heap.size, 0, none⟩) 1 1, .int .i64 (has.length : Int)] (by rfl) rfl rfl (by simp only [List.map_toArray, List.map_cons, List.map_nil]; rfl) ?_
            with_reducible refine (repeat_calls w3 (wd.heap.size) has.length hb6 HN.out.1).mono ?_
            rintro e w8 ⟨v8, rfl, hr8, hbA⟩
            refine ⟨_, rfl, ?_⟩
            obtain ⟨A8, c8, e8_, _⟩ := own_shape hr8
            subst e8_
            have hd38 : ∀ k, (Value.slice A3 has.length c3).ownBlock = some k → (Value.slice A8 has.length c8).ownBlock ≠ some k := fun k h1 h2 => by have a_ := (World.ownsRow.lt hr3 k h1).2; have b_ := (World.ownsRow.lt hr8 k h2).1; omega
            have hr8 := own_lower hr8 hHeld.1.size
            have hb6 := blk_below hb6 hbA
            have hr3 := own_same hr3 (fun k hk => Below.block hbA k (World.ownsRow.lt hr3 k hk).2)
            refine hK.out _ _ ⟨below_step hHeld.1 hbA, pw_cell_below hbA hHeld.2.1, pw_cell_below hbA hHeld.2.2⟩ (fun hHeld => ?_)
            clear hK K
            refine norm_ (a' := ?_) ?_ ?_
            rotate_left
            · show Act.put _ (some 20) _ = _
              simp only [Act.put, List.setIfInBounds_toArray, List.set_cons_zero, List.set_cons_succ, i64_w, i32_w]
              rfl
            refine one_ (i := 5) (N := some 17) #[true, true, true, true, true, true, true, true, true, false, false, false] rfl rfl (by kernel_rfl) (by decide) (fun K hK => ?_)
            have hbA := below_alloc (Below.refl (w8).heap.size w8) (.cells (madeCells #[.slice none 0 0] has.length) 23)
            have hr3 := own_same hr3 (fun k hk => Below.block hbA k (World.ownsRow.lt hr3 k hk).2)
            have hr8 := own_same hr8 (fun k hk => Below.block hbA k (World.ownsRow.lt hr8 k hk).2)
            have hm5 := own_made_nil w8 w2.heap.size 23 has.length hHeld.1.size hN64
            refine value_ (w1 := ?_) (v := ?_) (by rfl) rfl ?_ ?_
            rotate_left 2
            · go_simp
              constructor
              · rfl
              · rfl
            refine hK.out _ _ ⟨below_step hHeld.1 hbA, pw_cell_below hbA hHeld.2.1, pw_cell_below hbA hHeld.2.2⟩ (fun hHeld => ?_)
            clear hK K
            refine norm_ (a' := ?_) ?_ ?_
            rotate_left
            · show Act.put _ (some 17) _ = _
              simp only [Act.put, List.setIfInBounds_toArray, List.set_cons_zero, List.set_cons_succ, i64_w, i32_w]
              rfl
            exact norm_ (by simp only [putAll, Act.put, List.setIfInBounds_toArray, List.set_cons_zero, List.set_cons_succ]) (hCont ((A3, c3), (A8, c8), wd.heap.size + 1, wd.heap.size, w8.heap.size) _ ⟨hHeld, hr3, hr8, hm5, hd38⟩)
        · skip
          have hbA := below_alloc (Below.refl (((wd.alloc (.cells #[.int .i64 (-2)] 3)).alloc (.cells #[.int .i64 (-2)] 3))).heap.size ((wd.alloc (.cells #[.int .i64 (-2)] 3)).alloc (.cells #[.int .i64 (-2)] 3))) (.cells (madeCells #[.slice none 0 0] has.length) 23)
          have hb1 := blk_below hb1 hbA
          have hb6 := blk_below hb6 hbA
          have hm5 := own_made_nil ((wd.alloc (.cells #[.int .i64 (-2)] 3)).alloc (.cells #[.int .i64 (-2)] 3)) w2.heap.size 23 has.length hHeld.1.size hN64
          have hz_ : (((wd.alloc (.cells #[.int .i64 (-2)] 3)).alloc (.cells #[.int .i64 (-2)] 3))).heap.size = wd.heap.size + 2 := by simp
          rw [hz_] at hm5
          refine value_ (w1 := ?_) (v := ?_) (by rfl) rfl ?_ ?_
          rotate_left 2
          · go_simp
            constructor
            · rfl
            · rfl
          refine hK.out _ _ ⟨below_step hHeld.1 hbA, pw_cell_below hbA hHeld.2.1, pw_cell_below hbA hHeld.2.2⟩ (fun hHeld => ?_)
          clear hK K
          refine norm_ (a' := ?_) ?_ ?_
          rotate_left
          · show Act.put _ (some 17) _ = _
            simp only [Act.put, List.setIfInBounds_toArray, List.set_cons_zero, List.set_cons_succ, i64_w, i32_w]
            rfl
          refine one_ (i := 3) (N := some 15) #[true, true, true, true, true, true, true, true, false, false, false, false] rfl rfl (by kernel_rfl) (by decide) (fun K hK => ?_)
          refine goes_ Try.func55 (by kernel_rfl) rfl #[.slice (some ⟨wd.heap.size + 1, 0, none⟩) 1 1, .int .i64 (has.length : Int)] (by rfl) rfl rfl (by simp only [List.map_toArray, List.map_cons, List.map_nil]; rfl) ?_
          with_reducible refine (repeat_calls (((wd.alloc (.cells #[.int .i64 (-2)] 3)).alloc (.cells #[.int .i64 (-2)] 3)).alloc (.cells (madeCells #[.slice none 0 0] has.length) 23)) (wd.heap.size + 1) has.length hb1 HN.out.1).mono ?_
          rintro e w3 ⟨v3, rfl, hr3, hbA⟩
          refine ⟨_, rfl, ?_⟩
          obtain ⟨A3, c3, e3_, _⟩ := own_shape hr3
          subst e3_
          have hr3 := own_lower hr3 hHeld.1.size
          have hb1 := blk_below hb1 hbA
          have hb6 := blk_below hb6 hbA
          have hm5 := own_same hm5 (fun k hk => Below.block hbA k (World.ownsRow.lt hm5 k hk).2)
          refine hK.out _ _ ⟨below_step hHeld.1 hbA, pw_cell_below hbA hHeld.2.1, pw_cell_below hbA hHeld.2.2⟩ (fun hHeld => ?_)
          clear hK K
          refine norm_ (a' := ?_) ?_ ?_
          rotate_left
          · show Act.put _ (some 15) _ = _
            simp only [Act.put, List.setIfInBounds_toArray, List.set_cons_zero, List.set_cons_succ, i64_w, i32_w]
            rfl
          refine one_ (i := 8) (N := some 20) #[true, true, true, true, true, true, true, true, true, false, false, false] rfl rfl (by kernel_rfl) (by decide) (fun K hK => ?_)
          refine goes_ Try.func55 (by kernel_rfl) rfl #[.slice (some ⟨wd.heap.size, 0, none⟩) 1 1, .int .i64 (has.length : Int)] (by rfl) rfl rfl (by simp only [List.map_toArray, List.map_cons, List.map_nil]; rfl) ?_
          with_reducible refine (repeat_calls w3 (wd.heap.size) has.length hb6 HN.out.1).mono ?_
          rintro e w8 ⟨v8, rfl, hr8, hbA⟩
          refine ⟨_, rfl, ?_⟩
          obtain ⟨A8, c8, e8_, _⟩ := own_shape hr8
          subst e8_
          have hd38 : ∀ k, (Value.slice A3 has.length c3).ownBlock = some k → (Value.slice A8 has.length c8).ownBlock ≠ some k := fun k h1 h2 => by have a_ := (World.ownsRow.lt hr3 k h1).2; have b_ := (World.ownsRow.lt hr8 k h2).1; omega
          have hr8 := own_lower hr8 hHeld.1.size
          have hb6 := blk_below hb6 hbA
          have hr3 := own_same hr3 (fun k hk => Below.block hbA k (World.ownsRow.lt hr3 k hk).2)
          have hm5 := own_same hm5 (fun k hk => Below.block hbA k (World.ownsRow.lt hm5 k hk).2)
          refine hK.out _ _ ⟨below_step hHeld.1 hbA, pw_cell_below hbA hHeld.2.1, pw_cell_below hbA hHeld.2.2⟩ (fun hHeld => ?_)
          clear hK K
          refine norm_ (a' := ?_) ?_ ?_
          rotate_left
          · show Act.put _ (some 20) _ = _
            simp only [Act.put, List.setIfInBounds_toArray, List.set_cons_zero, List.set_cons_succ, i64_w, i32_w]
            rfl
          exact norm_ (by simp only [putAll, Act.put, List.setIfInBounds_toArray, List.set_cons_zero, List.set_cons_succ]) (hCont ((A3, c3), (A8, c8), wd.heap.size + 1, wd.heap.size, wd.heap.size + 2) _ ⟨hHeld, hr3, hr8, hm5, hd38⟩)
      · skip
        have hbA := below_alloc (Below.refl ((wd.alloc (.cells #[.int .i64 (-2)] 3))).heap.size (wd.alloc (.cells #[.int .i64 (-2)] 3))) (.cells (madeCells #[.slice none 0 0] has.length) 23)
        have hb6 := blk_below hb6 hbA
        have hm5 := own_made_nil (wd.alloc (.cells #[.int .i64 (-2)] 3)) w2.heap.size 23 has.length hHeld.1.size hN64
        have hz_ : ((wd.alloc (.cells #[.int .i64 (-2)] 3))).heap.size = wd.heap.size + 1 := by simp
        rw [hz_] at hm5
        refine value_ (w1 := ?_) (v := ?_) (by rfl) rfl ?_ ?_
        rotate_left 2
        · go_simp
          constructor
          · rfl
          · rfl
        refine hK.out _ _ ⟨below_step hHeld.1 hbA, pw_cell_below hbA hHeld.2.1, pw_cell_below hbA hHeld.2.2⟩ (fun hHeld => ?_)
        clear hK K
        refine norm_ (a' := ?_) ?_ ?_
        rotate_left
        · show Act.put _ (some 17) _ = _
          simp only [Act.put, List.setIfInBounds_toArray, List.set_cons_zero, List.set_cons_succ, i64_w, i32_w]
          rfl
        refine one_ (i := 1) (N := some 13) #[true, true, true, false, true, true, true, true, false, false, false, false] rfl rfl (by kernel_rfl) (by decide) (fun K hK => ?_)
        have hbA := below_alloc (Below.refl (((wd.alloc (.cells #[.int .i64 (-2)] 3)).alloc (.cells (madeCells #[.slice none 0 0] has.length) 23))).heap.size ((wd.alloc (.cells #[.int .i64 (-2)] 3)).alloc (.cells (madeCells #[.slice none 0 0] has.length) 23))) (.cells #[.int .i64 (-2)] 3)
        have hb6 := blk_below hb6 hbA
        have hm5 := own_same hm5 (fun k hk => Below.block hbA k (World.ownsRow.lt hm5 k hk).2)
        have hb1 := blk_new ((wd.alloc (.cells #[.int .i64 (-2)] 3)).alloc (.cells (madeCells #[.slice none 0 0] has.length) 23)) (.cells #[.int .i64 (-2)] 3)
        have hz_ : (((wd.alloc (.cells #[.int .i64 (-2)] 3)).alloc (.cells (madeCells #[.slice none 0 0] has.length) 23))).heap.size = wd.heap.size + 2 := by simp
        rw [hz_] at hb1
        refine value_ (w1 := ?_) (v := ?_) (by rfl) rfl ?_ ?_
        rotate_left 2
        · go_simp
          constructor
          · rfl
          · rfl
        refine hK.out _ _ ⟨below_step hHeld.1 hbA, pw_cell_below hbA hHeld.2.1, pw_cell_below hbA hHeld.2.2⟩ (fun hHeld => ?_)
        clear hK K
        refine norm_ (a' := ?_) ?_ ?_
        rotate_left
        · show Act.put _ (some 13) _ = _
          simp only [Act.put, List.setIfInBounds_toArray, List.set_cons_zero, List.set_cons_succ, i64_w, i32_w]
          rfl
        refine one_ (i := 3) (N := some 15) #[true, true, true, true, true, true, true, true, false, false, false, false] rfl rfl (by kernel_rfl) (by decide) (fun K hK => ?_)
        refine goes_ Try.func55 (by kernel_rfl) rfl #[.slice (some ⟨wd.heap.size + 2, 0, none⟩) 1 1, .int .i64 (has.length : Int)] (by rfl) rfl rfl (by simp only [List.map_toArray, List.map_cons, List.map_nil]; rfl) ?_
        with_reducible refine (repeat_calls (((wd.alloc (.cells #[.int .i64 (-2)] 3)).alloc (.cells (madeCells #[.slice none 0 0] has.length) 23)).alloc (.cells #[.int .i64 (-2)] 3)) (wd.heap.size + 2) has.length hb1 HN.out.1).mono ?_
        rintro e w3 ⟨v3, rfl, hr3, hbA⟩
        refine ⟨_, rfl, ?_⟩
        obtain ⟨A3, c3, e3_, _⟩ := own_shape hr3
        subst e3_
        have hr3 := own_lower hr3 hHeld.1.size
        have hb1 := blk_below hb1 hbA
        have hb6 := blk_below hb6 hbA
        have hm5 := own_same hm5 (fun k hk => Below.block hbA k (World.ownsRow.lt hm5 k hk).2)
        refine hK.out _ _ ⟨below_step hHeld.1 hbA, pw_cell_below hbA hHeld.2.1, pw_cell_below hbA hHeld.2.2⟩ (fun hHeld => ?_)
        clear hK K
        refine norm_ (a' := ?_) ?_ ?_
        rotate_left
        · show Act.put _ (some 15) _ = _
          simp only [Act.put, List.setIfInBounds_toArray, List.set_cons_zero, List.set_cons_succ, i64_w, i32_w]
          rfl
        refine one_ (i := 8) (N := some 20) #[true, true, true, true, true, true, true, true, true, false, false, false] rfl rfl (by kernel_rfl) (by decide) (fun K hK => ?_)
        refine goes_ Try.func55 (by kernel_rfl) rfl #[.slice (some ⟨wd.heap.size, 0, none⟩) 1 1, .int .i64 (has.length : Int)] (by rfl) rfl rfl (by simp only [List.map_toArray, List.map_cons, List.map_nil]; rfl) ?_
        with_reducible refine (repeat_calls w3 (wd.heap.size) has.length hb6 HN.out.1).mono ?_
        rintro e w8 ⟨v8, rfl, hr8, hbA⟩
        refine ⟨_, rfl, ?_⟩
        obtain ⟨A8, c8, e8_, _⟩ := own_shape hr8
        subst e8_
        have hd38 : ∀ k, (Value.slice A3 has.length c3).ownBlock = some k → (Value.slice A8 has.length c8).ownBlock ≠ some k := fun k h1 h2 => by have a_ := (World.ownsRow.lt hr3 k h1).2; have b_ := (World.ownsRow.lt hr8 k h2).1; omega
        have hr8 := own_lower hr8 hHeld.1.size
        have hb6 := blk_below hb6 hbA
        have hr3 := own_same hr3 (fun k hk => Below.block hbA k (World.ownsRow.lt hr3 k hk).2)
        have hm5 := own_same hm5 (fun k hk => Below.block hbA k (World.ownsRow.lt hm5 k hk).2)
        refine hK.out _ _ ⟨below_step hHeld.1 hbA, pw_cell_below hbA hHeld.2.1, pw_cell_below hbA hHeld.2.2⟩ (fun hHeld => ?_)
        clear hK K
        refine norm_ (a' := ?_) ?_ ?_
        rotate_left
        · show Act.put _ (some 20) _ = _
          simp only [Act.put, List.setIfInBounds_toArray, List.set_cons_zero, List.set_cons_succ, i64_w, i32_w]
          rfl
        exact norm_ (by simp only [putAll, Act.put, List.setIfInBounds_toArray, List.set_cons_zero, List.set_cons_succ]) (hCont ((A3, c3), (A8, c8), wd.heap.size + 2, wd.heap.size, wd.heap.size + 1) _ ⟨hHeld, hr3, hr8, hm5, hd38⟩)
  rintro ⟨⟨A3, c3⟩, ⟨A8, c8⟩, b1, b6, b5⟩ w7 ⟨hS_, hr3, hr8, hm5, hd38⟩
  simp only at hr3 hr8 hm5 hd38
  have hHeld := hS_
  refine norm_ (a' := ?_) ?_ ?_
  rotate_left
  · simp only [putAll, Act.put, List.setIfInBounds_toArray, List.set_cons_zero, List.set_cons_succ]
    rfl
  refine pure_ (i := 9) (N := some 21) (v := ?_) (a' := ?_) #[true, true, true, true, true, true, true, true, true, true, false, false] rfl rfl (by kernel_rfl) (fun _ _ _ h => h) (Or.inl ⟨by rfl, ?_⟩) ?_ ?_
  rotate_left
  · intro w'
    go_simp
    with_reducible rfl
  rotate_left
  · simp only [Act.put, List.setIfInBounds_toArray, List.set_cons_zero, List.set_cons_succ, i64_w, i32_w]
    rfl
  refine one_ (i := 10) (N := some 22) #[true, true, true, true, true, true, true, true, true, true, true, false] rfl rfl (by kernel_rfl) (by decide) (fun K hK => ?_)
  have hS10 := hHeld.1
  refine value_ (w1 := ?_) (v := ?_) (by rfl) rfl ?_ ?_
  rotate_left 2
  · go_simp
    constructor
    · rfl
    · rfl
  refine hK.out _ _ ⟨hHeld.1.alloc hHeld.1.size _, pw_cell_below (below_alloc (Below.refl _ _) _) hHeld.2.1, pw_cell_below (below_alloc (Below.refl _ _) _) hHeld.2.2⟩ (fun hHeld => ?_)
  clear hK K
  refine norm_ (a' := ?_) ?_ ?_
  rotate_left
  · show Act.put _ (some 22) _ = _
    simp only [Act.put, List.setIfInBounds_toArray, List.set_cons_zero, List.set_cons_succ, i64_w, i32_w]
    rfl
  refine pure_ (i := 11) (N := some 4) (v := ?_) (a' := ?_) #[true, true, true, true, true, true, true, true, true, true, true, true] rfl rfl (by kernel_rfl) (fun _ _ _ h => h) (Or.inl ⟨by rfl, ?_⟩) ?_ ?_
  rotate_left
  · intro w'
    go_simp
    with_reducible rfl
  rotate_left
  · simp only [Act.put, List.setIfInBounds_toArray, List.set_cons_zero, List.set_cons_succ, i64_w, i32_w]
    rfl
  refine done_ (by kernel_rfl) ?_
  have HW7 : Aside0 (Below w2.heap.size w2 w7) := ⟨hS10⟩
  have HR3 := Aside0.mk hr3
  have HR8 := Aside0.mk hr8
  have HM5 := Aside0.mk hm5
  have HD38 := Aside0.mk hd38
  have HL2 : Aside0 (W.heap.size ≤ w2.heap.size ∧ w2.heap.size ≤ w7.heap.size) := ⟨HB2.out.size, hS10.size⟩
  obtain ⟨o9, ho9⟩ : ∃ ob, ob = Obj.cells #[.slice AH has.length cH, .slice AR roots.length cR, .slice A3 has.length c3, .slice none 0 0, .slice (some ⟨b5, 0, none⟩) has.length has.length, .slice A8 has.length c8] 75 := ⟨_, rfl⟩
  have hal := below_alloc (Below.refl w7.heap.size w7) o9
  have HO9 : Aside0 (OS (w7.alloc o9) W.heap.size w7.heap.size (.slice AH has.length cH) (.slice AR roots.length cR) (.slice A3 has.length c3) nilV (.slice (some ⟨b5, 0, none⟩) has.length has.length) (.slice A8 has.length c8) (List.replicate has.length nilV) has.length (start has.length) (List.replicate has.length (-2))) := ⟨os_start (Nat.le_trans HL2.out.1 HL2.out.2) (by rw [ho9]; exact blk_new w7 _) ((own_lower HR3.out HL2.out.1).alloc o9) ((own_lower HR8.out HL2.out.1).alloc o9) ((own_lower HM5.out HL2.out.1).alloc o9) HD38.out⟩
  have HB9 : Aside0 (Below W.heap.size W (w7.alloc o9)) := ⟨(HB2.out.trans (below_cut HW7.out HB2.out.size)).trans (below_cut hal (Nat.le_trans HL2.out.1 HL2.out.2))⟩
  have HC9 : Aside0 ((w7.alloc o9).heap[W.heap.size]? = some (.cells #[.slice AH has.length cH, .slice AR roots.length cR] 25 (0, 0))) := ⟨blk_below (blk_below HC2.out HW7.out) hal⟩
  clear hS10 hS_ hr3 hr8 hm5 hd38 hHeld hmk hN64 hal y0 y1 HR3 HR8 HM5 HD38 HW7 HC2 HB2
  go_upto_region 3 with fail
  try rw [← ho9]
  clear ho9
  generalize w7.alloc o9 = w9 at HO9 HB9 HC9 ⊢
  generalize hg_ : w7.heap.size = g at HO9 ⊢
  clear hg_ HL2
  have y1 := (blk_cell HC9.out 1).trans rfl
  go_wp2_with fail
  clear y1
  go_loopg [26] roots.length (fun kq v26 w' => ∃ (i : Nat) (vo : Value) (ps : List Value), v26 = .int .i64 (i : Int) ∧ Aside0 (i ≤ roots.length ∧ kq = roots.length - i) ∧ Aside0 (OS w' W.heap.size g (.slice AH has.length cH) (.slice AR roots.length cR) (.slice A3 has.length c3) vo (.slice (some ⟨b5, 0, none⟩) has.length has.length) (.slice A8 has.length c8) ps has.length (kids (walkP has has.length) (-1) (roots.take i) (start has.length)) (List.replicate has.length (-2))) ∧ Aside0 (Below W.heap.size W w'))
  case atStart => exact ⟨0, nilV, _, rfl, ⟨Nat.zero_le _, by omega⟩, HO9, HB9⟩
  case round =>
    obtain ⟨i, vo, ps, rfl, HIQ, HOi, HBi⟩ := hrel
    by_cases hlt : i < roots.length
    · have hi0 : (0 : Int) ≤ (i : Int) := by omega
      have hi1 : (i : Int) < (roots.length : Int) := by omega
      obtain ⟨ad, e, hx⟩ := Kd.at_int (Kd.C_below HR.out HBi.out) (i : Int) (by omega) (by omega)
      rw [rdI roots i hlt] at hx
      rw [Int.toNat_natCast] at hx
      subst e
      have hdec : decide ((i : Int) < (roots.length : Int)) = true := decide_eq_true hi1
      have hdec2 : decide (i < roots.length) = true := decide_eq_true hlt
      have HLT := Aside0.mk hlt
      have HIW : Aside0 (wrap64 ((i : Int) + 1) = ((i + 1 : Nat) : Int)) := ⟨by have := HN.out; unfold wrap64; omega⟩
      have HKS := Aside0.mk (kids_snoc (walkP has has.length) (-1) roots (start has.length) hlt)
      have hq := HG.out.r roots[i] (List.getElem_mem hlt)
      have hpt := roots_pot HG.out HM.out (roots.take i) (start has.length) (fun n hn => List.mem_of_mem_take hn) (by simp [start])
      rw [unv_start, pot_start] at hpt
      have HPT : Aside0 (unv (kids (walkP has has.length) (-1) (roots.take i) (start has.length)) ≤ has.length ∧ pot 10 (kids (walkP has has.length) (-1) (roots.take i) (start has.length)) ≤ 1000000) := ⟨hpt.1, by
        have h1_ := hpt.2
        have h2_ : (roots.take i).length ≤ 100 := Nat.le_trans (List.length_take_le' _ _) HN.out.2
        have h3_ := HN.out.1
        omega⟩
      generalize roots[i] = q at hx hq HKS
      have HQ := Aside0.mk hq
      generalize kids (walkP has has.length) (-1) (roots.take i) (start has.length) = t at HOi HPT HKS
      have hwp := walk_pot HM.out HG.out.h has.length t q HOi.out.lp hq
      have HWP := Aside0.mk hwp
      clear hlt hq hpt hwp
      go_wp2_with fail
      have hcall := walk_calls (N := has.length) rfl (by have := HN.out; omega) HM.out (by decide) HG.out.h HH.out has.length wr t q vo ps HOi.out HPT.out.1 HQ.out HBi.out HPT.out.2
      have HCALL := Aside0.mk hcall
      clear hcall hx
      refine HCALL.out.mono ?_
      clear HCALL
      rintro e w5 ⟨rfl, vo5, ps5, hO5, hb5⟩
      have HO5 := Aside0.mk hO5
      have HB5 := Aside0.mk (HBi.out.trans hb5)
      clear hO5 hb5 HOi HBi
      have HKS2 : Aside0 (kids (walkP has has.length) (-1) (roots.take (i + 1)) (start has.length) = ⟨(walkP has has.length q t).pl, (walkP has has.length q t).ord, addF (walkP has has.length q t).fr q (-1)⟩) := ⟨HKS.out⟩
      clear HKS
      generalize walkP has has.length q t = t5 at HO5 HWP HKS2
      have hrw := HO5.out.rowC (i := q.toNat) (by have := HQ.out; omega)
      have kF := HO5.out.cellF rfl (i := q.toNat) (by have := HQ.out; omega)
      have hcq : ((q.toNat : Nat) : Int) = q := by have := HQ.out; omega
      rw [hcq] at hrw kF
      obtain ⟨AQ, cQ, eR, hcR, hCR⟩ := hrw
      rw [eR] at kF
      have c4 := HO5.out.c4
      have HER := Aside0.mk eR
      have HRL : Aside0 ((rowF t5.fr q).length ≤ 1000000) := ⟨by have h_ := rowF_pot (M := 10) (s := t5) q; have := HWP.out.2.1; have := HPT.out; omega⟩
      have q0 : (0 : Int) ≤ q := HQ.out.1
      have q1 : q < (has.length : Int) := HQ.out.2
      have HU := Try.underlying23
      have HCQ := Aside0.mk hcq
      have HBS5 : Aside0 (W.heap.size ≤ w5.heap.size) := ⟨by have h_ := HO5.out.gB; have h2_ := blk_lt HO5.out.obj; omega⟩
      clear eR hcR hCR hcq
      have hst := Below.refl w5.heap.size w5
      go_wp2_with fail
      refine start_ (n := 16) (S := fun w' => Below W.heap.size w5 w' ∧ w'.cell? ⟨g, 4, none⟩ = some (.slice (some ⟨b5, 0, none⟩) has.length has.length) ∧ w'.cell? ⟨b5, q.toNat, none⟩ = some (.slice AQ (rowF t5.fr q).length cQ)) (ds := [15]) #[false, false, false, false, false, false, false, false, false, false, false, false, false, false, false, false] (by kernel_rfl) rfl rfl ⟨(below_drew (Below.refl _ _)), c4, kF⟩ (fun hHeld => ?_)
      have hst := below_drew hst
      generalize w5.drew = w16 at hHeld hst ⊢
      refine pure_ (i := 0) (N := some 33) (v := ?_) (a' := ?_) #[true, false, false, false, false, false, false, false, false, false, false, false, false, false, false, false] rfl rfl (by kernel_rfl) (fun _ _ _ h => h) (Or.inl ⟨by rfl, ?_⟩) ?_ ?_
      rotate_left
      · intro w'
        go_simp
        with_reducible rfl
      rotate_left
      · simp only [Act.put, List.setIfInBounds_toArray, List.set_cons_zero, List.set_cons_succ, i64_w, i32_w]
        rfl
      refine pure_ (i := 1) (N := some 34) (v := ?_) (a' := ?_) #[true, true, false, false, false, false, false, false, false, false, false, false, false, false, false, false] rfl rfl (by kernel_rfl) (fun _ _ _ h => h) (Or.inl ⟨by rfl, ?_⟩) ?_ ?_
      rotate_left
      · intro w'
        go_simp
        with_reducible rfl
      rotate_left
      · simp only [Act.put, List.setIfInBounds_toArray, List.set_cons_zero, List.set_cons_succ, i64_w, i32_w]
        rfl
      refine pure_ (i := 2) (N := some 35) (v := ?_) (a' := ?_) #[true, true, true, false, false, false, false, false, false, false, false, false, false, false, false, false] rfl rfl (by kernel_rfl) (fun _ _ _ h => h) (Or.inl ⟨by rfl, ?_⟩) ?_ ?_
      rotate_left
      · intro w'
        go_simp
        with_reducible rfl
      rotate_left
      · simp only [Act.put, List.setIfInBounds_toArray, List.set_cons_zero, List.set_cons_succ, i64_w, i32_w]
        rfl
      refine pure_ (i := 4) (N := some 37) (v := ?_) (a' := ?_) #[true, true, true, false, true, false, false, false, false, false, false, false, false, false, false, false] rfl rfl (by kernel_rfl) (fun _ _ _ h => h) (Or.inl ⟨by rfl, ?_⟩) ?_ ?_
      rotate_left
      · intro w'
        go_simp
        with_reducible rfl
      rotate_left
      · simp only [Act.put, List.setIfInBounds_toArray, List.set_cons_zero, List.set_cons_succ, i64_w, i32_w]
        rfl
      refine pure_ (i := 5) (N := some 38) (v := ?_) (a' := ?_) #[true, true, true, false, true, true, false, false, false, false, false, false, false, false, false, false] rfl rfl (by kernel_rfl) (fun _ _ _ h => h) (Or.inl ⟨by rfl, ?_⟩) ?_ ?_
      rotate_left
      · intro w'
        go_simp
        with_reducible rfl
      rotate_left
      · simp only [Act.put, List.setIfInBounds_toArray, List.set_cons_zero, List.set_cons_succ, i64_w, i32_w]
        rfl
      refine pure_ (i := 6) (N := some 39) (v := ?_) (a' := ?_) #[true, true, true, false, true, true, true, false, false, false, false, false, false, false, false, false] rfl rfl (by kernel_rfl) (fun _ _ _ h => h) (Or.inl ⟨by rfl, ?_⟩) ?_ ?_
      rotate_left
      · intro w'
        go_simp
        with_reducible rfl
      rotate_left
      · simp only [Act.put, List.setIfInBounds_toArray, List.set_cons_zero, List.set_cons_succ, i64_w, i32_w]
        rfl
      refine pure_ (i := 7) (N := some 40) (v := ?_) (a' := ?_) #[true, true, true, false, true, true, true, true, false, false, false, false, false, false, false, false] rfl rfl (by kernel_rfl) (fun _ _ _ h => h) (Or.inl ⟨by rfl, ?_⟩) ?_ ?_
      rotate_left
      · intro w'
        go_simp
        with_reducible rfl
      rotate_left
      · simp only [Act.put, List.setIfInBounds_toArray, List.set_cons_zero, List.set_cons_succ, i64_w, i32_w]
        rfl
      refine pure_ (i := 9) (N := some 42) (v := ?_) (a' := ?_) #[true, true, true, false, true, true, true, true, false, true, false, false, false, false, false, false] rfl rfl (by kernel_rfl) (fun _ _ _ h => h) (Or.inl ⟨by rfl, ?_⟩) ?_ ?_
      rotate_left
      · intro w'
        go_simp
        with_reducible rfl
      rotate_left
      · simp only [Act.put, List.setIfInBounds_toArray, List.set_cons_zero, List.set_cons_succ, i64_w, i32_w]
        rfl
      refine take_ (i := 3) (N := some 36) (v := ?_) (a' := ?_) #[true, true, true, true, true, true, true, true, false, true, false, false, false, false, false, false] rfl rfl (by kernel_rfl) (fun _ _ _ h => h) (Or.inl ⟨by rfl, ?_⟩) hHeld ?_ ?_
      rotate_left
      · rintro w' ⟨s0, s1, s2⟩
        go_simp
        with_reducible rfl
      rotate_left
      · simp only [Act.put, List.setIfInBounds_toArray, List.set_cons_zero, List.set_cons_succ, i64_w, i32_w]
        rfl
      refine take_ (i := 8) (N := some 41) (v := ?_) (a' := ?_) #[true, true, true, true, true, true, true, true, true, true, false, false, false, false, false, false] rfl rfl (by kernel_rfl) (fun _ _ _ h => h) (Or.inl ⟨by rfl, ?_⟩) hHeld ?_ ?_
      rotate_left
      · rintro w' ⟨s0, s1, s2⟩
        go_simp
        with_reducible rfl
      rotate_left
      · simp only [Act.put, List.setIfInBounds_toArray, List.set_cons_zero, List.set_cons_succ, i64_w, i32_w]
        rfl
      refine pure_ (i := 10) (N := some 43) (v := ?_) (a' := ?_) #[true, true, true, true, true, true, true, true, true, true, true, false, false, false, false, false] rfl rfl (by kernel_rfl) (fun _ _ _ h => h) (Or.inl ⟨by rfl, ?_⟩) ?_ ?_
      rotate_left
      · intro w'
        go_simp
        with_reducible rfl
      rotate_left
      · simp only [Act.put, List.setIfInBounds_toArray, List.set_cons_zero, List.set_cons_succ, i64_w, i32_w]
        rfl
      refine take_ (i := 11) (N := some 44) (v := ?_) (a' := ?_) #[true, true, true, true, true, true, true, true, true, true, true, true, false, false, false, false] rfl rfl (by kernel_rfl) (fun _ _ _ h => h) (Or.inl ⟨by rfl, ?_⟩) hHeld ?_ ?_
      rotate_left
      · rintro w' ⟨s0, s1, s2⟩
        go_simp
        with_reducible rfl
      rotate_left
      · simp only [Act.put, List.setIfInBounds_toArray, List.set_cons_zero, List.set_cons_succ, i64_w, i32_w]
        rfl
      refine one_ (i := 12) (N := some 45) #[true, true, true, true, true, true, true, true, true, true, true, true, true, false, false, false] rfl rfl (by kernel_rfl) (by decide) (fun K hK => ?_)
      refine value_ (w1 := ?_) (v := ?_) (by rfl) rfl ?_ ?_
      rotate_left 2
      · go_simp
        constructor
        · rfl
        · rfl
      refine hK.out _ _ ⟨hHeld.1.alloc (Nat.le_trans HBS5.out hst.size) _, pw_cell_below (below_alloc (Below.refl _ _) _) hHeld.2.1, pw_cell_below (below_alloc (Below.refl _ _) _) hHeld.2.2⟩ (fun hHeld => ?_)
      clear hK K
      refine norm_ (a' := ?_) ?_ ?_
      rotate_left
      · show Act.put _ (some 45) _ = _
        simp only [Act.put, List.setIfInBounds_toArray, List.set_cons_zero, List.set_cons_succ, i64_w, i32_w]
        rfl
      refine one_ (i := 13) (N := some 46) #[true, true, true, true, true, true, true, true, true, true, true, true, true, true, false, false] rfl rfl (by kernel_rfl) (by decide) (fun K hK => ?_)
      have HW13 := Aside0.mk hst
      refine step_append_cells (w0 := w5) W.heap.size (by rfl) (.tmp 44) (.tmp 45) 23 3 (.int .i64 0) 1 8 rfl HU infoI rfl (by decide) (by decide) (.slice AQ (rowF t5.fr q).length cQ) (rowF t5.fr q).length (nums .i64 (rowF t5.fr q)) [.int .i64 (-1)] rfl rfl rfl (by intro u hu; rw [List.mem_singleton.1 hu]; rfl) ?hr14 (below_cut HW13.out HBS5.out) ?hs14 ?hl14 ?_
      case hr14 => have h_ := (HO5.out.below HW13.out).rr q.toNat (by have := HQ.out; omega); rw [HCQ.out, HER.out] at h_; exact h_
      case hs14 => have h_ := HBS5.out; have h3_ := HW13.out.size; omega
      case hl14 => have h_ := HRL.out; omega
      intro v7 w7 ho7 hb7 hg7 hat7
      obtain ⟨A7, c7_, e7_, _⟩ := own_shape ho7
      subst e7_
      have hF7 := (HO5.out.below HW13.out).grownF (k := q.toNat) (by have := HQ.out; omega) (by rw [HCQ.out, HER.out]; exact hg7)
      have hc7 : w7.cell? ⟨b5, q.toNat, none⟩ = some (.slice AQ (rowF t5.fr q).length cQ) := by have h2_ := (HO5.out.cellF rfl (i := q.toNat) (by have := HQ.out; omega)); rw [HCQ.out, HER.out] at h2_; have h3_ := HO5.out.rf; rw [hF7.cellAt q.toNat (by have := HQ.out; omega), ← h3_.cellAt q.toNat (by have := HQ.out; omega)]; exact h2_
      have hg47 : w7.cell? ⟨g, 4, none⟩ = some (.slice (some ⟨b5, 0, none⟩) has.length has.length) := by have h_ := (blk_grown (HO5.out.below HW13.out).obj hg7 (fun e3 => own_ne ((HO5.out.below HW13.out).rr q.toNat (by have := HQ.out; omega)) (HO5.out.below HW13.out).obj (by decide) (by rw [HCQ.out, HER.out]; exact e3.symm))); exact (blk_cell h_ 4).trans rfl
      refine hK.out _ _ ⟨hb7, hg47, hc7⟩ (fun hHeld => ?_)
      clear hK K
      refine norm_ (a' := ?_) ?_ ?_
      rotate_left
      · show Act.put _ (some 46) _ = _
        simp only [Act.put, List.setIfInBounds_toArray, List.set_cons_zero, List.set_cons_succ, i64_w, i32_w]
        rfl
      refine pure_ (i := 14) (N := some 47) (v := ?_) (a' := ?_) #[true, true, true, true, true, true, true, true, true, true, true, true, true, true, true, false] rfl rfl (by kernel_rfl) (fun _ _ _ h => h) (Or.inl ⟨by rfl, ?_⟩) ?_ ?_
      rotate_left
      · intro w'
        go_simp
        with_reducible rfl
      rotate_left
      · simp only [Act.put, List.setIfInBounds_toArray, List.set_cons_zero, List.set_cons_succ, i64_w, i32_w]
        rfl
      refine last_ (i := 15) (N := none) #[true, true, true, true, true, true, true, true, true, true, true, true, true, true, true, true] rfl rfl (by kernel_rfl) (by decide) (fun K hK => ?_)
      have hf7 : w7.frozen? ⟨b5, q.toNat, none⟩ = false := hF7.frozenAt q.toNat
      have hd7 := hHeld.2.2
      refine skip_ (w1 := ?_) (by rfl) rfl ?_ ?_
      rotate_left
      · go_simp
        rfl
      refine hK.out _ _ ?_
      clear hK K
      refine done_ (by kernel_rfl) ?_
      have HO7 := Aside0.mk ho7
      have HG7 := Aside0.mk hg7
      have HAT7 := Aside0.mk hat7
      have HB7 := Aside0.mk hb7
      clear hst ho7 hg7 hat7 hF7 hb7 hc7 hg47
      have hpush := (HO5.out.below HW13.out).push rfl (k := q.toNat) (v1 := .slice A7 ((rowF t5.fr q).length + 1) c7_) (y := -1) (by have := HQ.out; omega) (by rw [HCQ.out, List.length_append, List.length_singleton]; have h_ := HO7.out; unfold nums at h_ ⊢; rw [List.map_append]; exact h_) (by rw [HCQ.out, HER.out]; exact HG7.out) (by rw [HCQ.out, HER.out]; exact HAT7.out)
      rw [HCQ.out] at hpush
      have HO8 : Aside0 (OS (w7.setCell ⟨b5, q.toNat, none⟩ (.slice A7 ((rowF t5.fr q).length + 1) c7_)) W.heap.size g (.slice AH has.length cH) (.slice (some ad) roots.length cR) (.slice A3 has.length c3) vo5 (.slice (some ⟨b5, 0, none⟩) has.length has.length) (.slice A8 has.length c8) (ps5.set q.toNat (.slice A7 ((rowF t5.fr q).length + 1) c7_)) has.length ⟨t5.pl, t5.ord, addF t5.fr q (-1)⟩ (List.replicate has.length (-2))) := ⟨hpush⟩
      have HB8 : Aside0 (Below W.heap.size W (w7.setCell ⟨b5, q.toNat, none⟩ (.slice A7 ((rowF t5.fr q).length + 1) c7_))) := ⟨(HB5.out.trans HB7.out).setCell (p := ⟨b5, q.toNat, none⟩) (by have h_ := HO5.out.rf.lt b5 rfl; exact h_.1) _⟩
      clear hpush hHeld c4 kF
      generalize w7.setCell ⟨b5, q.toNat, none⟩ (.slice A7 ((rowF t5.fr q).length + 1) c7_) = w8 at HO8 HB8 ⊢
      go_wp2_with fail
      go_roundg (roots.length - (i + 1))
      case measure => have := HIQ.out; have := HLT.out; omega
      case rel => exact ⟨i + 1, vo5, _, by first | rfl | rw [HIW.out], ⟨by have := HLT.out; omega, rfl⟩, ⟨by rw [HKS2.out]; exact HO8.out⟩, HB8⟩
    · have e_ : i = roots.length := by have := HIQ.out; omega
      subst e_
      have hdec : decide ((roots.length : Int) < (roots.length : Int)) = false := decide_eq_false (by omega)
      have hdec2 : decide (roots.length < roots.length) = false := decide_eq_false hlt
      rw [List.take_length] at HOi
      have HOr : Aside0 (OS wr W.heap.size g (.slice AH has.length cH) (.slice AR roots.length cR) (.slice A3 has.length c3) vo (.slice (some ⟨b5, 0, none⟩) has.length has.length) (.slice A8 has.length c8) ps has.length (rootsP has roots) (List.replicate has.length (-2))) := ⟨HOi.out⟩
      obtain ⟨Ao, co, eo, hco, hCo⟩ := HOr.out.ordC
      subst eo
      have hok := roots_ok HG.out
      have hpt := roots_pot HG.out HM.out roots (start has.length) (fun n hn => hn) (by simp [start])
      rw [unv_start, pot_start] at hpt
      have HPT : Aside0 (pot 10 (rootsP has roots) ≤ 1000000) := ⟨by
        have h1_ : pot 10 (rootsP has roots) ≤ _ := hpt.2
        have h2_ := HN.out
        omega⟩
      have HOL : Aside0 ((rootsP has roots).ord.length ≤ 1000000) := ⟨Nat.le_trans ord_pot HPT.out⟩
      have HLR : Aside0 ((rpoL has roots).length = (rootsP has roots).ord.length) := ⟨by unfold rpoL; simp⟩
      have hro := HOr.out.ro
      have c3_ := HOr.out.c3
      clear hlt HIQ HOi hco hCo hok hpt
      go_wp2_with fail
      refine (reverse_calls wr W.heap.size _ (rootsP has roots).ord hro HOL.out).mono ?_
      rintro e w5 ⟨rfl, hro5, hg5⟩
      have HO5 : Aside0 (OS w5 W.heap.size g (.slice AH has.length cH) (.slice AR roots.length cR) (.slice A3 has.length c3) (.slice Ao (rootsP has roots).ord.length co) (.slice (some ⟨b5, 0, none⟩) has.length has.length) (.slice A8 has.length c8) ps has.length ⟨(rootsP has roots).pl, rpoL has roots, fromR has roots⟩ (List.replicate has.length (-2))) := ⟨HOr.out.turned HLR.out hro5 hg5⟩
      have HB5 : Aside0 (Below W.heap.size W w5) := ⟨HBi.out.trans ⟨hg5.os, hg5.tape, hg5.output, hg5.size, fun k hk => hg5.block k (by have h_ := HOr.out.gB; have h2_ := blk_lt HOr.out.obj; omega) (fun e => by have h_ := (HOr.out.ro.lt k e.symm).1; omega)⟩⟩
      clear hro hro5 hg5 c3_ HOr HBi
      rw [← HLR.out] at HO5
      rw [← HLR.out]
      have c3_ := HO5.out.c3
      go_wp2_with fail
      clear c3_
      go_loopg [59] (rpoL has roots).length (fun kq v59 w' => ∃ i : Nat, v59 = .int .i64 (i : Int) ∧ Aside0 (i ≤ (rpoL has roots).length ∧ kq = (rpoL has roots).length - i) ∧ Aside0 (OS w' W.heap.size g (.slice AH has.length cH) (.slice AR roots.length cR) (.slice A3 has.length c3) (.slice Ao (rpoL has roots).length co) (.slice (some ⟨b5, 0, none⟩) has.length has.length) (.slice A8 has.length c8) ps has.length ⟨placeTo (rpoL has roots) (rootsP has roots).pl i, rpoL has roots, fromR has roots⟩ (List.replicate has.length (-2))) ∧ Aside0 (Below W.heap.size W w'))
      case atStart => exact ⟨0, rfl, ⟨Nat.zero_le _, by omega⟩, HO5, HB5⟩
      case round =>
        obtain ⟨i, rfl, HIQ, HOi, HBi⟩ := hrel
        by_cases hlt : i < (rpoL has roots).length
        · have hi0 : (0 : Int) ≤ (i : Int) := by omega
          have hi1 : (i : Int) < ((rpoL has roots).length : Int) := by omega
          obtain ⟨A2, c2, e2, hc2, hC2⟩ := HOi.out.ordC
          have e2' := (Value.slice.inj e2).1
          rw [← e2'] at hC2
          have hC2 : (Kd.int .i64).C wr Ao (rpoL has roots).length (rpoL has roots) := hC2
          obtain ⟨ad, e, hx⟩ := Kd.at_int hC2 (i : Int) (by omega) (by omega)
          rw [rdI (rpoL has roots) i hlt] at hx
          rw [Int.toNat_natCast] at hx
          subst e
          have hdec : decide ((i : Int) < ((rpoL has roots).length : Int)) = true := decide_eq_true hi1
          have hdec2 : decide (i < (rpoL has roots).length) = true := decide_eq_true hlt
          have HLT := Aside0.mk hlt
          have hnn := rpo_in HG.out _ (List.getElem_mem hlt)
          have HIW : Aside0 (wrap64 ((i : Int) + 1) = ((i + 1 : Nat) : Int)) := ⟨by have := HLR.out; have := HOL.out; unfold wrap64; omega⟩
          have HPS : Aside0 (placeTo (rpoL has roots) (rootsP has roots).pl (i + 1) = (placeTo (rpoL has roots) (rootsP has roots).pl i).set ((rpoL has roots)[i]).toNat (i : Int)) := ⟨by
            have ei : (rpoL has roots).getD i 0 = (rpoL has roots)[i] := by rw [List.getD_eq_getElem?_getD, List.getElem?_eq_getElem hlt]; rfl
            rw [← ei]; rfl⟩
          generalize (rpoL has roots)[i] = n at hx hnn HPS
          obtain ⟨bP, cP, eP⟩ := HOi.out.sP (by omega)
          have c2_ := HOi.out.c2
          rw [eP] at c2_
          have px := HOi.out.cellP eP (i := n.toNat) (by omega)
          have fz := HOi.out.fzP eP n.toNat
          have n0 : (0 : Int) ≤ n := hnn.1
          have n1 : n < (has.length : Int) := hnn.2
          have HEP := Aside0.mk eP
          clear hlt e2 e2' hc2 hC2 hnn eP
          go_wp2_with fail
          go_roundg ((rpoL has roots).length - (i + 1))
          case measure => have := HIQ.out; have := HLT.out; omega
          case rel =>
            refine ⟨i + 1, by first | rfl | rw [HIW.out], ⟨by have := HLT.out; omega, rfl⟩, ⟨by rw [HPS.out]; exact HOi.out.setP HEP.out n.toNat (i : Int)⟩, ⟨HBi.out.setCell (p := ⟨bP, n.toNat, none⟩) (by have h_ := HOi.out.rp.lt bP (by rw [HEP.out]; rfl); exact h_.1) _⟩⟩
        · have e_ : i = (rpoL has roots).length := by have := HIQ.out; omega
          subst e_
          have hdec : decide (((rpoL has roots).length : Int) < ((rpoL has roots).length : Int)) = false := decide_eq_false (by omega)
          have hdec2 : decide ((rpoL has roots).length < (rpoL has roots).length) = false := decide_eq_false hlt
          have HOs : Aside0 (OS wr W.heap.size g (.slice AH has.length cH) (.slice AR roots.length cR) (.slice A3 has.length c3) (.slice Ao (rpoL has roots).length co) (.slice (some ⟨b5, 0, none⟩) has.length has.length) (.slice A8 has.length c8) ps has.length (sR has roots) (List.replicate has.length (-2))) := ⟨HOi.out⟩
          have HFR : Aside0 (∀ k, 0 ≤ k → (rowF (fromR has roots) k).length ≤ 1000000) := ⟨fun k _ => Nat.le_trans (rowF_pot (M := 10) (s := rootsP has roots) k) HPT.out⟩
          clear hlt HIQ HOi
          go_wp2_with fail
          go_loopg [] (has.length + 2) (fun kq w' => ∃ (r : Nat) (D : List Int), Aside0 (kq + r = has.length + 2 ∧ r ≤ has.length + 1) ∧ Aside0 (Rd has roots r D) ∧ Aside0 (OS w' W.heap.size g (.slice AH has.length cH) (.slice AR roots.length cR) (.slice A3 has.length c3) (.slice Ao (rpoL has roots).length co) (.slice (some ⟨b5, 0, none⟩) has.length has.length) (.slice A8 has.length c8) ps has.length (sR has roots) D) ∧ Aside0 (Below W.heap.size W w'))
          case atStart => exact ⟨0, _, ⟨by omega, by omega⟩, ⟨rd_start HG.out⟩, HOs, HBi⟩
          case round =>
            obtain ⟨r, D, HQr, HRd, HOd, HBd⟩ := hrel
            go_wp2_with fail
            refine (round_calls wr HG.out (by have := HN.out; omega) HFR.out HRd.out HOd.out).mono ?_
            rintro e w6 ⟨rfl, hO6, hb6⟩
            have hnx := HRd.out.next HG.out
            rw [← stp_all] at hnx
            have HNX := Aside0.mk hnx
            have HO6 := Aside0.mk hO6
            have HB6 := Aside0.mk (HBd.out.trans hb6)
            clear hO6 hb6 hnx
            generalize stp has roots D (rpoL has roots).length = sd at HNX HO6 ⊢
            obtain ⟨D2, b2⟩ := sd
            cases b2 with
            | true =>
              go_wp2_with fail
              go_roundg (has.length + 1 - r)
              case measure => have := HQr.out; omega
              case rel => exact ⟨r + 1, D2, ⟨by have := HQr.out; have := HNX.out.2.1 (by first | rfl | trivial); omega, by have := HNX.out.2.1 (by first | rfl | trivial); omega⟩, ⟨HNX.out.1⟩, HO6, HB6⟩
            | false =>
              go_wp2_with fail
              go_ret
              exact ⟨g, _, _, _, _, ps, D2, rfl, HO6.out, HNX.out.2.2 (by first | rfl | trivial), HB6.out⟩
end Go.Proofs.Ytoleplbmkdhgeaa.Own
