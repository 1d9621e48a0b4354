/- Package gens: make walked. -/
import Derived.Test.YtnimidkeoocchaaGenRp
set_option linter.unusedVariables false
set_option linter.unusedSimpArgs false
namespace Go.Proofs.Ytnimidkeoocchaa.Gen
open Go.RowKit Go.Proofs.YtnimidkeoocchaaW.PrintWords Go.Proofs.YtnimidkeoocchaaW.PrintLast Go.Proofs.YtnimidkeoocchaaW.PrintMore Go.Proofs.Ytnimidkeoocchaa.PG Go.Proofs.Ytnimidkeoocchaa.Hnd Go.Proofs.Ytnimidkeoocchaa.Rch

/-- What minor marks: a row of bools. -/
noncomputable def stM (l : List Th) (rm : Int → Bool) : List Bool := (List.range l.length).map (fun n : Nat => @decide (YR l rm (n : Int)) (Classical.propDecidable _))
theorem stM_get {l : List Th} {rm : Int → Bool} {n : Nat} : (stM l rm).getD n false = true ↔ n < l.length ∧ YR l rm n := by
  unfold stM
  rw [List.getD_eq_getElem?_getD, List.getElem?_map]
  by_cases h : n < l.length
  · rw [List.getElem?_range h]; simp [h]
  · rw [List.getElem?_eq_none (by simpa using h)]; simp [h]
theorem Mkd.eq {l : List Th} {rm : Int → Bool} {st : List Bool} (h : Mkd l rm st) : st = stM l rm := by
  have hl : (stM l rm).length = l.length := by simp [stM]
  apply List.ext_getElem
  · rw [hl, h.len]
  · intro n h1 h2
    have e1 : st.getD n false = st[n] := by rw [List.getD_eq_getElem?_getD, List.getElem?_eq_getElem h1]; rfl
    have e2 : (stM l rm).getD n false = (stM l rm)[n] := by rw [List.getD_eq_getElem?_getD, List.getElem?_eq_getElem h2]; rfl
    rw [← e1, ← e2]
    have h3 := h.yr n
    have h4 := stM_get (l := l) (rm := rm) (n := n)
    have h5 : n < l.length := by rw [hl] at h2; exact h2
    have h6 : (st.getD n false = true) ↔ ((stM l rm).getD n false = true) := by rw [h3, h4]; exact ⟨fun h => ⟨h5, h⟩, fun h => h.2⟩
    cases ha : st.getD n false <;> cases hb : (stM l rm).getD n false <;> simp_all
noncomputable def minL (l : List Th) (rm : Int → Bool) : List Th := collL (stM l rm) [0] l
noncomputable def minN (l : List Th) (rm : Int → Bool) : Nat := collN (stM l rm) [0] l
def newTh (n : Int) : Th := ⟨List.replicate n.toNat (-1), 0, true⟩
noncomputable def makeL (nur : Int) (l : List Th) (rm : Int → Bool) (n : Int) : List Th × (Int → Bool) × Int × Int :=
  if n < 0 ∨ n > 10 then (l, rm, 0, 1) else if 100 ≤ l.length then (l, rm, 0, 2)
  else if nur ≤ ((areL l 0).length : Int) then (minL l rm ++ [newTh n], fun _ => false, (l.length : Int), 0) else (l ++ [newTh n], rm, (l.length : Int), 0)
theorem own_lower {w : World} {base base' : Nat} {e : TypeId} {size : Nat} {v : Value} {n : Nat} {xs : List Value} (h : w.ownsRow base e size v n xs) (hb : base' ≤ base) : w.ownsRow base' e size v n xs := by
  refine ⟨h.1, ?_⟩
  rcases h.2 with hn | ⟨g, cap, cur, hv, h1, h2⟩
  · exact .inl hn
  · exact .inr ⟨g, cap, cur, hv, Nat.le_trans hb h1, h2⟩
theorem info_th : (Try.prog.info? 69).map (fun i => (i.zero, i.size, i.bytes)) = some (some (.agg #[.slice none 0 0, .int .i64 0, .bool false]), 3, 40) := by kernel_rfl
theorem Sep.snoc {ps : List Value} {p : Value} (h : Sep ps) (hn : ∀ q ∈ ps, ∀ k, q.ownBlock = some k → p.ownBlock ≠ some k) : Sep (ps ++ [p]) := by
  intro i j hi hj hne k hk
  simp only [List.length_append, List.length_cons, List.length_nil] at hi hj
  rcases Nat.lt_or_ge i ps.length with h1 | h1
  · rw [List.getElem_append_left h1] at hk
    rcases Nat.lt_or_ge j ps.length with h2 | h2
    · rw [List.getElem_append_left h2]; exact h i j h1 h2 hne k hk
    · rw [List.getElem_append_right h2]
      simp only [List.getElem_singleton]
      exact hn _ (List.getElem_mem h1) k hk
  · rw [List.getElem_append_right h1] at hk
    simp only [List.getElem_singleton] at hk
    have h2 : j < ps.length := by omega
    rw [List.getElem_append_left h2]
    exact fun e => hn _ (List.getElem_mem h2) k e hk
theorem GS.snoc {W w7 : World} {ok ok' : Nat → Prop} {g : Nat} {nur : Int} {mb cn : Nat} {rm : Int → Bool} {v v7 p : Value} {ps : List Value} {l : List Th} {x : Th} (h : GS W ok g nur mb cn rm v ps l) (hp : placeRow W p x.f0) (hpn : ∀ k, p.ownBlock = some k → ¬ ok k)
    (hr : w7.ownsRow 0 69 3 v7 (l.length + 1) (cellsT ps l ++ [p, .int .i64 x.f1, .bool x.f2])) (hg : W.grownBy w7 v.ownBlock) (hat : v7.ownBlock = v.ownBlock ∨ ∃ b, v7.ownBlock = some b ∧ W.heap.size ≤ b)
    (hok : ∀ k, ok k ∨ W.heap.size ≤ k ∨ p.ownBlock = some k → ok' k) : GS (w7.setCell ⟨g, 1, none⟩ v7) ok' g nur mb cn rm v7 (ps ++ [p]) (l ++ [x]) := by
  have hvg : some g ≠ v.ownBlock := fun e => h.v_g g e.symm rfl
  have hob := blk_grown h.obj hg hvg
  have hne : ∀ k, k ≠ g → (w7.setCell ⟨g, 1, none⟩ v7).heap[k]? = w7.heap[k]? := fun k hk => heap_setCell_other w7 _ k _ hk
  have hpg : ∀ k, p.ownBlock = some k → k ≠ g := fun k hk e => hpn k hk (e ▸ h.gok)
  have hpl : ∀ i (hi : i < l.length), placeRow (w7.setCell ⟨g, 1, none⟩ v7) (ps[i]'(by have := h.len; omega)) l[i].f0 := fun i hi => by
    refine own_same (h.pl i hi) (fun k hk => (hne k (h.p_g i hi k hk).1).trans (hg.block k ((h.pl i hi).lt k hk).2 (fun e => (h.p_g i hi k hk).2 e.symm)))
  refine ⟨hok _ (.inl h.gok), ?_, ?_, by simp [h.len], fun i hi => ?_, fun k hk => ?_, fun q hq k hk => ?_, ?_, hok _ (.inl h.mok), ?_⟩
  · simpa using blk_set hob 1 v7
  · rw [List.length_append, cellsT_snoc ps l p x h.len]
    refine own_same hr (fun k hk => hne k (fun e => ?_))
    obtain ⟨cur, hc⟩ := own_ty hr k hk
    exact blk_ne hc hob (by decide) e
  · rcases Nat.lt_or_ge i l.length with h1 | h1
    · rw [List.getElem_append_left h1, List.getElem_append_left (by have := h.len; omega)]
      exact hpl i h1
    · have e : i = l.length := by simp at hi; omega
      subst e
      have e1 : (l ++ [x])[l.length]'hi = x := by simp
      have e2 : (ps ++ [p])[l.length]'(by simp [h.len]) = p := by
        rw [List.getElem_append_right (by have := h.len; omega)]; simp [h.len]
      rw [e1, e2]
      refine own_same hp (fun k hk => (hne k (hpg k hk)).trans (hg.block k (hp.lt k hk).2 (fun e => hpn k hk (h.vok k e.symm))))
  · rcases hat with h1 | ⟨b, h1, h2⟩
    · exact hok k (.inl (h.vok k (h1 ▸ hk)))
    · rw [h1] at hk; injection hk with hk; subst hk; exact hok _ (.inr (.inl h2))
  · rcases List.mem_append.1 hq with h1 | h1
    · exact hok k (.inl (h.pok q h1 k hk))
    · simp at h1; subst h1; exact hok k (.inr (.inr hk))
  · exact h.sep.snoc (fun q hq k hk e => hpn k e (h.pok q hq k hk))
  · exact set_same h.set ((hne mb h.mb_g).trans (hg.block mb h.set.lt (fun e => h.mb_v mb e.symm rfl)))
set_option maxHeartbeats 16000000 in
set_option maxRecDepth 100000 in
theorem make_calls (w : World) {ok : Nat → Prop} {g : Nat} {nur : Int} {mb cn : Nat} {rm : Int → Bool} {v : Value} {ps : List Value} {l : List Th} (h : GS w ok g nur mb cn rm v ps l) (ho : OkL l) (hok : ∀ k, ok k → k < w.heap.size) (hcn : cn ≤ 100000) (hrm : ∀ x, I64 x → rm x = true → 0 ≤ x ∧ x < (l.length : Int)) (n : Int) :
    Calls Try.prog 38 #[.pointer (some ⟨g, 0, none⟩), .int .i64 n] w fun e w' => e = .returned (.tuple #[.int .i64 (makeL nur l rm n).2.2.1, .int .i64 (makeL nur l rm n).2.2.2]) ∧ (∃ v' ps' cn', cn' ≤ cn ∧ GS w' (fun k => ok k ∨ w.heap.size ≤ k) g nur mb cn' (makeL nur l rm n).2.1 v' ps' (makeL nur l rm n).1) ∧ Fr ok w w' := by
  have HM := Aside0.mk h
  have HO := Aside0.mk ho
  have HK := Aside0.mk hok
  have HMIN := Aside0.mk (fun (W : World) (hW : Below w.heap.size w W) => minor_calls W (h.below hW) ho (fun k hk => Nat.lt_of_lt_of_le (hok k hk) hW.size) hcn hrm)
  have HYC := Aside0.mk (fun (W : World) (hW : Below w.heap.size w W) => young_calls W (h.below hW) (by have := ho.len; omega))
  have c0 := h.c0
  have c1 := h.c1
  obtain ⟨AV, cV, ev, hcv⟩ := own_shape h.row
  subst ev
  clear h hok ho hcn hrm
  by_cases h0 : n < 0
  · have HE : Aside0 (makeL nur l rm n = (l, rm, 0, 1)) := ⟨by unfold makeL; rw [if_pos (.inl h0)]⟩
    have hd0 : decide (n < 0) = true := decide_eq_true h0
    clear h0
    go_enter Try.func38, Try.ntmps38
    go_wp2_with fail
    go_ret2
    rw [HE.out]
    exact ⟨rfl, ⟨_, _, _, Nat.le_refl _, HM.out.mono (fun k hk => .inl hk)⟩, Fr.refl _ _⟩
  · have hd0 : decide (n < 0) = false := decide_eq_false h0
    by_cases h1 : 10 < n
    · have HE : Aside0 (makeL nur l rm n = (l, rm, 0, 1)) := ⟨by unfold makeL; rw [if_pos (.inr h1)]⟩
      have hd1 : decide (10 < n) = true := decide_eq_true h1
      clear h0 h1
      go_enter Try.func38, Try.ntmps38
      go_wp2_with fail
      go_ret2
      rw [HE.out]
      exact ⟨rfl, ⟨_, _, _, Nat.le_refl _, HM.out.mono (fun k hk => .inl hk)⟩, Fr.refl _ _⟩
    · have hd1 : decide (10 < n) = false := decide_eq_false h1
      by_cases h2 : 100 ≤ l.length
      · have HE : Aside0 (makeL nur l rm n = (l, rm, 0, 2)) := ⟨by unfold makeL; rw [if_neg (by omega), if_pos h2]⟩
        have hd2 : decide ((100 : Int) ≤ (l.length : Int)) = true := decide_eq_true (by omega)
        have hd3 : decide (100 ≤ l.length) = true := decide_eq_true h2
        clear h0 h1 h2
        go_enter Try.func38, Try.ntmps38
        go_wp2_with fail
        go_ret2
        rw [HE.out]
        exact ⟨rfl, ⟨_, _, _, Nat.le_refl _, HM.out.mono (fun k hk => .inl hk)⟩, Fr.refl _ _⟩
      · have hd2 : decide ((100 : Int) ≤ (l.length : Int)) = false := decide_eq_false (by omega)
        have hd3 : decide (100 ≤ l.length) = false := decide_eq_false h2
        have HL : Aside0 (l.length < 100) := ⟨by omega⟩
        have HNE : Aside0 (makeL nur l rm n = if nur ≤ ((areL l 0).length : Int) then (minL l rm ++ [newTh n], fun _ => false, (l.length : Int), 0) else (l ++ [newTh n], rm, (l.length : Int), 0)) := ⟨by unfold makeL; rw [if_neg (by omega), if_neg h2]⟩
        obtain ⟨m, rfl⟩ : ∃ m : Nat, n = m := ⟨n.toNat, by omega⟩
        have HMZ : Aside0 (m ≤ 10) := ⟨by omega⟩
        have HU60 := Try.underlying60
        have hMF : newTh (m : Int) = ⟨List.replicate m (-1), 0, true⟩ := by unfold newTh; rw [Int.toNat_natCast]
        rw [hMF] at HNE
        clear h0 h1 h2 hMF
        go_enter Try.func38, Try.ntmps38
        go_wp2_with fail
        refine start_ (n := 9) (S := fun w' => Below w.heap.size w w' ∧ w'.cell? ⟨g, 0, none⟩ = some (.int .i64 nur)) (ds := []) #[false, false, false, false, false, false, false, false, false] (by kernel_rfl) rfl rfl ⟨(below_drew (Below.refl _ _)), c0⟩ (fun hHeld => ?_)
        generalize w.drew = w5 at hHeld ⊢
        refine pure_ (i := 0) (N := some 21) (v := ?_) (a' := ?_) #[true, false, false, false, false, false, false, false, false] rfl rfl (by kernel_rfl) (fun _ _ _ h => h) (Or.inl ⟨by rfl, ?_⟩) ?_ ?_
        rotate_left
        · intro w'
          go_simp
          with_reducible rfl
        rotate_left
        · simp only [Act.put, List.setIfInBounds_toArray, List.set_cons_zero, List.set_cons_succ, i64_w, i32_w]
          rfl
        refine pure_ (i := 3) (N := some 24) (v := ?_) (a' := ?_) #[true, false, false, true, false, false, false, false, false] rfl rfl (by kernel_rfl) (fun _ _ _ h => h) (Or.inl ⟨by rfl, ?_⟩) ?_ ?_
        rotate_left
        · intro w'
          go_simp
          with_reducible rfl
        rotate_left
        · simp only [Act.put, List.setIfInBounds_toArray, List.set_cons_zero, List.set_cons_succ, i64_w, i32_w]
          rfl
        refine pure_ (i := 4) (N := some 25) (v := ?_) (a' := ?_) #[true, false, false, true, true, false, false, false, false] rfl rfl (by kernel_rfl) (fun _ _ _ h => h) (Or.inl ⟨by rfl, ?_⟩) ?_ ?_
        rotate_left
        · intro w'
          go_simp
          with_reducible rfl
        rotate_left
        · simp only [Act.put, List.setIfInBounds_toArray, List.set_cons_zero, List.set_cons_succ, i64_w, i32_w]
          rfl
        refine pure_ (i := 5) (N := some 26) (v := ?_) (a' := ?_) #[true, false, false, true, true, true, false, false, false] rfl rfl (by kernel_rfl) (fun _ _ _ h => h) (Or.inl ⟨by rfl, ?_⟩) ?_ ?_
        rotate_left
        · intro w'
          go_simp
          with_reducible rfl
        rotate_left
        · simp only [Act.put, List.setIfInBounds_toArray, List.set_cons_zero, List.set_cons_succ, i64_w, i32_w]
          rfl
        refine take_ (i := 6) (N := some 27) (v := ?_) (a' := ?_) #[true, false, false, true, true, true, true, false, false] rfl rfl (by kernel_rfl) (fun _ _ _ h => h) (Or.inl ⟨by rfl, ?_⟩) hHeld ?_ ?_
        rotate_left
        · rintro w' ⟨s0, s1⟩
          go_simp
          with_reducible rfl
        rotate_left
        · simp only [Act.put, List.setIfInBounds_toArray, List.set_cons_zero, List.set_cons_succ, i64_w, i32_w]
          rfl
        refine one_ (i := 1) (N := some 22) #[true, true, false, true, true, true, true, false, false] rfl rfl (by kernel_rfl) (by decide) (fun K hK => ?_)
        refine goes_ Try.func17 (by kernel_rfl) rfl #[.pointer (some ⟨g, 0, none⟩)] (by rfl) rfl rfl (by simp only [List.map_toArray, List.map_cons, List.map_nil]; rfl) ?_
        with_reducible refine (HYC.out _ hHeld.1).mono ?_
        rintro e w6 ⟨vy, rfl, hry, hby⟩
        refine ⟨_, rfl, ?_⟩
        obtain ⟨AY, cY, eY⟩ := Kd.R_slice hry
        subst eY
        clear hry
        refine hK.out _ _ ⟨below_step hHeld.1 hby, pw_cell_below hby hHeld.2⟩ (fun hHeld => ?_)
        clear hK K
        refine norm_ (a' := ?_) ?_ ?_
        rotate_left
        · show Act.put _ (some 22) _ = _
          simp only [Act.put, List.setIfInBounds_toArray, List.set_cons_zero, List.set_cons_succ, i64_w, i32_w]
          rfl
        refine pure_ (i := 2) (N := some 23) (v := ?_) (a' := ?_) #[true, true, true, true, true, true, true, false, false] rfl rfl (by kernel_rfl) (fun _ _ _ h => h) (Or.inl ⟨by rfl, ?_⟩) ?_ ?_
        rotate_left
        · intro w'
          go_simp
          with_reducible rfl
        rotate_left
        · simp only [Act.put, List.setIfInBounds_toArray, List.set_cons_zero, List.set_cons_succ, i64_w, i32_w]
          rfl
        refine pure_ (i := 7) (N := some 28) (v := ?_) (a' := ?_) #[true, true, true, true, true, true, true, true, false] rfl rfl (by kernel_rfl) (fun _ _ _ h => h) (Or.inl ⟨by rfl, ?_⟩) ?_ ?_
        rotate_left
        · intro w'
          go_simp
          with_reducible rfl
        rotate_left
        · simp only [Act.put, List.setIfInBounds_toArray, List.set_cons_zero, List.set_cons_succ, i64_w, i32_w]
          rfl
        refine pure_ (i := 8) (N := some 20) (v := ?_) (a' := ?_) #[true, true, true, true, true, true, true, true, true] rfl rfl (by kernel_rfl) (fun _ _ _ h => h) (Or.inl ⟨by rfl, ?_⟩) ?_ ?_
        rotate_left
        · intro w'
          go_simp
          with_reducible rfl
        rotate_left
        · simp only [Act.put, List.setIfInBounds_toArray, List.set_cons_zero, List.set_cons_succ, i64_w, i32_w]
          rfl
        refine done_ (by kernel_rfl) ?_
        have HB6 : Aside0 (Below w.heap.size w w6) := ⟨hHeld.1⟩
        clear hHeld hby c0 c1
        have HARE : Aside0 (∃ a, a = (areL l 0).length) := ⟨_, rfl⟩
        obtain ⟨a, ha⟩ := HARE.out
        rw [← ha] at HNE ⊢
        cases hq : decide (nur ≤ (a : Int)) with
        | true =>
          have HE : Aside0 (makeL nur l rm m = (minL l rm ++ [⟨List.replicate m (-1), 0, true⟩], fun _ => false, (l.length : Int), 0)) := ⟨by rw [HNE.out, if_pos (of_decide_eq_true hq)]⟩
          clear ha
          go_wp2_with fail
          refine (HMIN.out w6 HB6.out).mono ?_
          rintro e wz ⟨st, hmk, rfl, ⟨psz, hgz⟩, hfz⟩
          have hste := hmk.eq
          rw [hste] at hgz
          have HMZ1 : Aside0 (GS wz ok g nur mb 0 (fun _ => false) (.slice AV l.length cV) psz (minL l rm)) := ⟨hgz⟩
          have HLZ : Aside0 ((minL l rm).length = l.length) := ⟨collL_len _ _ _⟩
          have HFZ : Aside0 (Fr ok w wz) := ⟨(Fr.of_below HB6.out).trans hfz⟩
          have HSZ : Aside0 (w.heap.size ≤ wz.heap.size) := ⟨HFZ.out.size⟩
          clear hgz hfz hste hmk
          generalize minL l rm = lz at HE HMZ1 HLZ
          go_wp2_with fail
          have d1 : wz.cell? ⟨g, 1, none⟩ = some (.slice AV l.length cV) := HMZ1.out.c1
          refine start_ (n := 14) (S := fun w' => Below wz.heap.size wz w' ∧ w'.cell? ⟨g, 1, none⟩ = some (.slice AV l.length cV)) (ds := [10, 13]) #[false, false, false, false, false, false, false, false, false, false, false, false, false, false] (by kernel_rfl) rfl rfl ⟨(below_drew (Below.refl _ _)), d1⟩ (fun hHeld => ?_)
          generalize wz.drew = w7 at hHeld ⊢
          refine pure_ (i := 0) (N := some 31) (v := ?_) (a' := ?_) #[true, false, false, false, false, false, false, false, false, false, false, false, false, false] rfl rfl (by kernel_rfl) (fun _ _ _ h => h) (Or.inl ⟨by rfl, ?_⟩) ?_ ?_
          rotate_left
          · intro w'
            go_simp
            with_reducible rfl
          rotate_left
          · simp only [Act.put, List.setIfInBounds_toArray, List.set_cons_zero, List.set_cons_succ, i64_w, i32_w]
            rfl
          refine pure_ (i := 1) (N := some 32) (v := ?_) (a' := ?_) #[true, true, false, false, false, false, false, false, false, false, false, false, false, false] rfl rfl (by kernel_rfl) (fun _ _ _ h => h) (Or.inl ⟨by rfl, ?_⟩) ?_ ?_
          rotate_left
          · intro w'
            go_simp
            with_reducible rfl
          rotate_left
          · simp only [Act.put, List.setIfInBounds_toArray, List.set_cons_zero, List.set_cons_succ, i64_w, i32_w]
            rfl
          refine pure_ (i := 2) (N := some 33) (v := ?_) (a' := ?_) #[true, true, true, false, false, false, false, false, false, false, false, false, false, false] rfl rfl (by kernel_rfl) (fun _ _ _ h => h) (Or.inl ⟨by rfl, ?_⟩) ?_ ?_
          rotate_left
          · intro w'
            go_simp
            with_reducible rfl
          rotate_left
          · simp only [Act.put, List.setIfInBounds_toArray, List.set_cons_zero, List.set_cons_succ, i64_w, i32_w]
            rfl
          refine pure_ (i := 3) (N := some 34) (v := ?_) (a' := ?_) #[true, true, true, true, false, false, false, false, false, false, false, false, false, false] rfl rfl (by kernel_rfl) (fun _ _ _ h => h) (Or.inl ⟨by rfl, ?_⟩) ?_ ?_
          rotate_left
          · intro w'
            go_simp
            with_reducible rfl
          rotate_left
          · simp only [Act.put, List.setIfInBounds_toArray, List.set_cons_zero, List.set_cons_succ, i64_w, i32_w]
            rfl
          refine pure_ (i := 6) (N := some 37) (v := ?_) (a' := ?_) #[true, true, true, true, false, false, true, false, false, false, false, false, false, false] rfl rfl (by kernel_rfl) (fun _ _ _ h => h) (Or.inl ⟨by rfl, ?_⟩) ?_ ?_
          rotate_left
          · intro w'
            go_simp
            with_reducible rfl
          rotate_left
          · simp only [Act.put, List.setIfInBounds_toArray, List.set_cons_zero, List.set_cons_succ, i64_w, i32_w]
            rfl
          refine take_ (i := 4) (N := some 35) (v := ?_) (a' := ?_) #[true, true, true, true, true, false, true, false, false, false, false, false, false, false] rfl rfl (by kernel_rfl) (fun _ _ _ h => h) (Or.inl ⟨by rfl, ?_⟩) hHeld ?_ ?_
          rotate_left
          · rintro w' ⟨s0, s1⟩
            go_simp
            with_reducible rfl
          rotate_left
          · simp only [Act.put, List.setIfInBounds_toArray, List.set_cons_zero, List.set_cons_succ, i64_w, i32_w]
            rfl
          refine one_ (i := 5) (N := some 36) #[true, true, true, true, true, true, true, false, false, false, false, false, false, false] rfl rfl (by kernel_rfl) (by decide) (fun K hK => ?_)
          refine value_ (w1 := ?_) (v := ?_) (by rfl) rfl ?_ ?_
          rotate_left 2
          · go_simp
            constructor
            · rfl
            · rfl
          refine hK.out _ _ ⟨hHeld.1.alloc (Nat.le_trans hHeld.1.size (Nat.le_refl _)) _, pw_cell_below (below_alloc (Below.refl _ _) _) hHeld.2⟩ (fun hHeld => ?_)
          clear hK K
          refine norm_ (a' := ?_) ?_ ?_
          rotate_left
          · show Act.put _ (some 36) _ = _
            simp only [Act.put, List.setIfInBounds_toArray, List.set_cons_zero, List.set_cons_succ, i64_w, i32_w]
            rfl
          refine one_ (i := 7) (N := some 38) #[true, true, true, true, true, true, true, true, false, false, false, false, false, false] rfl rfl (by kernel_rfl) (by decide) (fun K hK => ?_)
          refine goes_ Try.func65 (by kernel_rfl) rfl #[.slice (some ⟨w7.heap.size, 0, none⟩) 1 1, .int .i64 (m : Int)] (by rfl) rfl rfl (by simp only [List.map_toArray, List.map_cons, List.map_nil]; rfl) ?_
          with_reducible refine (repeat_calls (w7.alloc (Obj.cells #[.int .i64 (-1)] 3)) w7.heap.size m (blk_new _ _) HMZ.out).mono ?_
          rintro e w8 ⟨p, rfl, hpr, hb⟩
          refine ⟨_, rfl, ?_⟩
          have HPB : Aside0 (∀ k, p.ownBlock = some k → wz.heap.size ≤ k) := ⟨fun k hk => Nat.le_trans hHeld.1.size (hpr.lt k hk).1⟩
          have HPR : Aside0 (placeRow w8 p (List.replicate m (-1))) := ⟨by have h_ := own_lower hpr (Nat.zero_le _); unfold placeRow; rw [List.length_replicate]; exact h_⟩
          obtain ⟨AP, cP, eP, hcP⟩ := own_shape hpr
          subst eP
          refine hK.out _ _ ⟨below_step hHeld.1 hb, pw_cell_below hb hHeld.2⟩ (fun hHeld => ?_)
          clear hK K
          refine norm_ (a' := ?_) ?_ ?_
          rotate_left
          · show Act.put _ (some 38) _ = _
            simp only [Act.put, List.setIfInBounds_toArray, List.set_cons_zero, List.set_cons_succ, i64_w, i32_w]
            rfl
          refine pure_ (i := 8) (N := some 39) (v := ?_) (a' := ?_) #[true, true, true, true, true, true, true, true, true, false, false, false, false, false] rfl rfl (by kernel_rfl) (fun _ _ _ h => h) (Or.inl ⟨by rfl, ?_⟩) ?_ ?_
          rotate_left
          · intro w'
            go_simp
            with_reducible rfl
          rotate_left
          · simp only [Act.put, List.setIfInBounds_toArray, List.set_cons_zero, List.set_cons_succ, i64_w, i32_w]
            rfl
          refine one_ (i := 9) (N := some 40) #[true, true, true, true, true, true, true, true, true, true, false, false, false, false] rfl rfl (by kernel_rfl) (by decide) (fun K hK => ?_)
          have HW9 := Aside0.mk hHeld.1
          refine value_ (w1 := ?_) (v := ?_) (by rfl) rfl ?_ ?_
          rotate_left 2
          · go_simp
            constructor
            · rfl
            · rfl
          refine hK.out _ _ ⟨hHeld.1.alloc (Nat.le_trans hHeld.1.size (Nat.le_refl _)) _, pw_cell_below (below_alloc (Below.refl _ _) _) hHeld.2⟩ (fun hHeld => ?_)
          clear hK K
          refine norm_ (a' := ?_) ?_ ?_
          rotate_left
          · show Act.put _ (some 40) _ = _
            simp only [Act.put, List.setIfInBounds_toArray, List.set_cons_zero, List.set_cons_succ, i64_w, i32_w]
            rfl
          refine last_ (i := 10) (N := some 41) #[true, true, true, true, true, true, true, true, true, true, true, false, false, false] rfl rfl (by kernel_rfl) (by decide) (fun K hK => ?_)
          refine step_append_cells (w0 := w) 0 (by rfl) (.tmp 35) (.tmp 40) 60 69 (.agg #[.slice none 0 0, .int .i64 0, .bool false]) 3 40 rfl HU60 info_th rfl (by decide) (by decide) (.slice AV l.length cV) l.length (cellsT psz lz) [.slice AP m cP, .int .i64 0, .bool true] rfl rfl rfl (by intro u hu; simp at hu; rcases hu with rfl | rfl | rfl <;> rfl) (by have h_ := (HMZ1.out.below HW9.out).row; first | exact h_ | (rw [HLZ.out] at h_; exact h_)) (((HFZ.out.below HW9.out)).to_below (Nat.zero_le _) (fun _ _ => Nat.zero_le _)) (Nat.zero_le _) (by have h_ := HL.out; omega) ?_
          intro v7 w9 ho7 hb7 hg7 hat7
          obtain ⟨A7, c7, e7, hc7⟩ := own_shape ho7
          subst e7
          have HO7 := Aside0.mk ho7
          have HG7 := Aside0.mk hg7
          have HAT7 := Aside0.mk hat7
          have HMB := Aside0.mk (blk_grown (HMZ1.out.below HW9.out).obj hg7 (fun e_ => (HMZ1.out.below HW9.out).v_g g e_.symm rfl))
          clear ho7 hb7 hg7 hat7 hc7
          refine hK.out _ _ ?_
          clear hK K
          refine norm_ (a' := ?_) ?_ ?_
          rotate_left
          · show Act.put _ (some 41) _ = _
            simp only [Act.put, List.setIfInBounds_toArray, List.set_cons_zero, List.set_cons_succ, i64_w, i32_w]
            rfl
          refine pure_ (i := 11) (N := some 42) (v := ?_) (a' := ?_) #[true, true, true, true, true, true, true, true, true, true, true, true, false, false] rfl rfl (by kernel_rfl) (fun _ _ _ h => h) (Or.inl ⟨by rfl, ?_⟩) ?_ ?_
          rotate_left
          · intro w'
            go_simp
            with_reducible rfl
          rotate_left
          · simp only [Act.put, List.setIfInBounds_toArray, List.set_cons_zero, List.set_cons_succ, i64_w, i32_w]
            rfl
          refine pure_ (i := 12) (N := some 43) (v := ?_) (a' := ?_) #[true, true, true, true, true, true, true, true, true, true, true, true, true, false] rfl rfl (by kernel_rfl) (fun _ _ _ h => h) (Or.inl ⟨by rfl, ?_⟩) ?_ ?_
          rotate_left
          · intro w'
            go_simp
            with_reducible rfl
          rotate_left
          · simp only [Act.put, List.setIfInBounds_toArray, List.set_cons_zero, List.set_cons_succ, i64_w, i32_w]
            rfl
          refine last_ (i := 13) (N := none) #[true, true, true, true, true, true, true, true, true, true, true, true, true, true] rfl rfl (by kernel_rfl) (by decide) (fun K hK => ?_)
          have hd7 : w9.cell? ⟨g, 1, none⟩ = some (.slice AV l.length cV) := (blk_cell HMB.out 1).trans rfl
          have hf7 : w9.frozen? ⟨g, 1, none⟩ = false := blk_frozen HMB.out 1
          refine skip_ (w1 := ?_) (by rfl) rfl ?_ ?_
          rotate_left
          · go_simp
            rfl
          refine hK.out _ _ ?_
          clear hK K
          refine done_ (by kernel_rfl) ?_
          generalize hw8 : World.setCell w9 _ _ = w10
          have HM8 : Aside0 (GS w10 (fun k => ok k ∨ w.heap.size ≤ k) g nur mb 0 (fun _ => false) (.slice A7 (l.length + 1) c7) (psz ++ [.slice AP m cP]) (lz ++ [⟨List.replicate m (-1), 0, true⟩])) := ⟨by
            rw [← hw8]
            refine GS.snoc (x := ⟨List.replicate m (-1), 0, true⟩) (HMZ1.out.below HW9.out) (own_same HPR.out (fun k hk => rfl)) (fun k hk ho_ => by have h1_ := HPB.out k hk; have h2_ := HK.out k ho_; have h3_ := HFZ.out.size; omega) (by first | exact HO7.out | (rw [HLZ.out]; exact HO7.out)) HG7.out HAT7.out (fun k hk => ?_)
            rcases hk with hk | hk | hk
            · exact .inl hk
            · exact .inr (Nat.le_trans HFZ.out.size (Nat.le_trans HW9.out.size hk))
            · exact .inr (Nat.le_trans HFZ.out.size (HPB.out k hk))⟩
          have HF8 : Aside0 (Fr ok w w10) := ⟨by
            rw [← hw8]
            exact (((HFZ.out.below HW9.out)).grown HG7.out (fun k hk => .inl (HM.out.vok k hk))).set (.inl HM.out.gok) _⟩
          have e2 := HM8.out.c1
          have HLW : Aside0 (wrap64 (((l.length + 1 : Nat) : Int) - 1) = (l.length : Int)) := ⟨by have := HL.out; unfold wrap64; omega⟩
          have HLW3 : Aside0 (wrap64 (l.length : Int) = (l.length : Int)) := ⟨by have := HL.out; unfold wrap64; omega⟩
          clear hw8 hd7 hf7 d1
          go_wp2_with fail
          go_ret2
          rw [HE.out]
          refine ⟨?_, ⟨_, _, 0, Nat.zero_le _, HM8.out⟩, HF8.out⟩
          first | rfl | (rw [HLW3.out]; rfl)
        | false =>
          have HE : Aside0 (makeL nur l rm m = (l ++ [⟨List.replicate m (-1), 0, true⟩], rm, (l.length : Int), 0)) := ⟨by rw [HNE.out, if_neg (of_decide_eq_false hq)]⟩
          clear ha
          have HMZ1 := Aside0.mk (HM.out.below HB6.out)
          have HLZ : Aside0 (l.length = l.length) := ⟨rfl⟩
          have HFZ := Aside0.mk (Fr.of_below (S := ok) HB6.out)
          go_wp2_with fail
          have d1 : w6.cell? ⟨g, 1, none⟩ = some (.slice AV l.length cV) := HMZ1.out.c1
          refine start_ (n := 14) (S := fun w' => Below w6.heap.size w6 w' ∧ w'.cell? ⟨g, 1, none⟩ = some (.slice AV l.length cV)) (ds := [10, 13]) #[false, false, false, false, false, false, false, false, false, false, false, false, false, false] (by kernel_rfl) rfl rfl ⟨(below_drew (Below.refl _ _)), d1⟩ (fun hHeld => ?_)
          generalize w6.drew = w7 at hHeld ⊢
          refine pure_ (i := 0) (N := some 31) (v := ?_) (a' := ?_) #[true, false, false, false, false, false, false, false, false, false, false, false, false, false] rfl rfl (by kernel_rfl) (fun _ _ _ h => h) (Or.inl ⟨by rfl, ?_⟩) ?_ ?_
          rotate_left
          · intro w'
            go_simp
            with_reducible rfl
          rotate_left
          · simp only [Act.put, List.setIfInBounds_toArray, List.set_cons_zero, List.set_cons_succ, i64_w, i32_w]
            rfl
          refine pure_ (i := 1) (N := some 32) (v := ?_) (a' := ?_) #[true, true, false, false, false, false, false, false, false, false, false, false, false, false] rfl rfl (by kernel_rfl) (fun _ _ _ h => h) (Or.inl ⟨by rfl, ?_⟩) ?_ ?_
          rotate_left
          · intro w'
            go_simp
            with_reducible rfl
          rotate_left
          · simp only [Act.put, List.setIfInBounds_toArray, List.set_cons_zero, List.set_cons_succ, i64_w, i32_w]
            rfl
          refine pure_ (i := 2) (N := some 33) (v := ?_) (a' := ?_) #[true, true, true, false, false, false, false, false, false, false, false, false, false, false] rfl rfl (by kernel_rfl) (fun _ _ _ h => h) (Or.inl ⟨by rfl, ?_⟩) ?_ ?_
          rotate_left
          · intro w'
            go_simp
            with_reducible rfl
          rotate_left
          · simp only [Act.put, List.setIfInBounds_toArray, List.set_cons_zero, List.set_cons_succ, i64_w, i32_w]
            rfl
          refine pure_ (i := 3) (N := some 34) (v := ?_) (a' := ?_) #[true, true, true, true, false, false, false, false, false, false, false, false, false, false] rfl rfl (by kernel_rfl) (fun _ _ _ h => h) (Or.inl ⟨by rfl, ?_⟩) ?_ ?_
          rotate_left
          · intro w'
            go_simp
            with_reducible rfl
          rotate_left
          · simp only [Act.put, List.setIfInBounds_toArray, List.set_cons_zero, List.set_cons_succ, i64_w, i32_w]
            rfl
          refine pure_ (i := 6) (N := some 37) (v := ?_) (a' := ?_) #[true, true, true, true, false, false, true, false, false, false, false, false, false, false] rfl rfl (by kernel_rfl) (fun _ _ _ h => h) (Or.inl ⟨by rfl, ?_⟩) ?_ ?_
          rotate_left
          · intro w'
            go_simp
            with_reducible rfl
          rotate_left
          · simp only [Act.put, List.setIfInBounds_toArray, List.set_cons_zero, List.set_cons_succ, i64_w, i32_w]
            rfl
          refine take_ (i := 4) (N := some 35) (v := ?_) (a' := ?_) #[true, true, true, true, true, false, true, false, false, false, false, false, false, false] rfl rfl (by kernel_rfl) (fun _ _ _ h => h) (Or.inl ⟨by rfl, ?_⟩) hHeld ?_ ?_
          rotate_left
          · rintro w' ⟨s0, s1⟩
            go_simp
            with_reducible rfl
          rotate_left
          · simp only [Act.put, List.setIfInBounds_toArray, List.set_cons_zero, List.set_cons_succ, i64_w, i32_w]
            rfl
          refine one_ (i := 5) (N := some 36) #[true, true, true, true, true, true, true, false, false, false, false, false, false, false] rfl rfl (by kernel_rfl) (by decide) (fun K hK => ?_)
          refine value_ (w1 := ?_) (v := ?_) (by rfl) rfl ?_ ?_
          rotate_left 2
          · go_simp
            constructor
            · rfl
            · rfl
          refine hK.out _ _ ⟨hHeld.1.alloc (Nat.le_trans hHeld.1.size (Nat.le_refl _)) _, pw_cell_below (below_alloc (Below.refl _ _) _) hHeld.2⟩ (fun hHeld => ?_)
          clear hK K
          refine norm_ (a' := ?_) ?_ ?_
          rotate_left
          · show Act.put _ (some 36) _ = _
            simp only [Act.put, List.setIfInBounds_toArray, List.set_cons_zero, List.set_cons_succ, i64_w, i32_w]
            rfl
          refine one_ (i := 7) (N := some 38) #[true, true, true, true, true, true, true, true, false, false, false, false, false, false] rfl rfl (by kernel_rfl) (by decide) (fun K hK => ?_)
          refine goes_ Try.func65 (by kernel_rfl) rfl #[.slice (some ⟨w7.heap.size, 0, none⟩) 1 1, .int .i64 (m : Int)] (by rfl) rfl rfl (by simp only [List.map_toArray, List.map_cons, List.map_nil]; rfl) ?_
          with_reducible refine (repeat_calls (w7.alloc (Obj.cells #[.int .i64 (-1)] 3)) w7.heap.size m (blk_new _ _) HMZ.out).mono ?_
          rintro e w8 ⟨p, rfl, hpr, hb⟩
          refine ⟨_, rfl, ?_⟩
          have HPB : Aside0 (∀ k, p.ownBlock = some k → w6.heap.size ≤ k) := ⟨fun k hk => Nat.le_trans hHeld.1.size (hpr.lt k hk).1⟩
          have HPR : Aside0 (placeRow w8 p (List.replicate m (-1))) := ⟨by have h_ := own_lower hpr (Nat.zero_le _); unfold placeRow; rw [List.length_replicate]; exact h_⟩
          obtain ⟨AP, cP, eP, hcP⟩ := own_shape hpr
          subst eP
          refine hK.out _ _ ⟨below_step hHeld.1 hb, pw_cell_below hb hHeld.2⟩ (fun hHeld => ?_)
          clear hK K
          refine norm_ (a' := ?_) ?_ ?_
          rotate_left
          · show Act.put _ (some 38) _ = _
            simp only [Act.put, List.setIfInBounds_toArray, List.set_cons_zero, List.set_cons_succ, i64_w, i32_w]
            rfl
          refine pure_ (i := 8) (N := some 39) (v := ?_) (a' := ?_) #[true, true, true, true, true, true, true, true, true, false, false, false, false, false] rfl rfl (by kernel_rfl) (fun _ _ _ h => h) (Or.inl ⟨by rfl, ?_⟩) ?_ ?_
          rotate_left
          · intro w'
            go_simp
            with_reducible rfl
          rotate_left
          · simp only [Act.put, List.setIfInBounds_toArray, List.set_cons_zero, List.set_cons_succ, i64_w, i32_w]
            rfl
          refine one_ (i := 9) (N := some 40) #[true, true, true, true, true, true, true, true, true, true, false, false, false, false] rfl rfl (by kernel_rfl) (by decide) (fun K hK => ?_)
          have HW9 := Aside0.mk hHeld.1
          refine value_ (w1 := ?_) (v := ?_) (by rfl) rfl ?_ ?_
          rotate_left 2
          · go_simp
            constructor
            · rfl
            · rfl
          refine hK.out _ _ ⟨hHeld.1.alloc (Nat.le_trans hHeld.1.size (Nat.le_refl _)) _, pw_cell_below (below_alloc (Below.refl _ _) _) hHeld.2⟩ (fun hHeld => ?_)
          clear hK K
          refine norm_ (a' := ?_) ?_ ?_
          rotate_left
          · show Act.put _ (some 40) _ = _
            simp only [Act.put, List.setIfInBounds_toArray, List.set_cons_zero, List.set_cons_succ, i64_w, i32_w]
            rfl
          refine last_ (i := 10) (N := some 41) #[true, true, true, true, true, true, true, true, true, true, true, false, false, false] rfl rfl (by kernel_rfl) (by decide) (fun K hK => ?_)
          refine step_append_cells (w0 := w) 0 (by rfl) (.tmp 35) (.tmp 40) 60 69 (.agg #[.slice none 0 0, .int .i64 0, .bool false]) 3 40 rfl HU60 info_th rfl (by decide) (by decide) (.slice AV l.length cV) l.length (cellsT ps l) [.slice AP m cP, .int .i64 0, .bool true] rfl rfl rfl (by intro u hu; simp at hu; rcases hu with rfl | rfl | rfl <;> rfl) (by have h_ := (HMZ1.out.below HW9.out).row; first | exact h_ | (rw [HLZ.out] at h_; exact h_)) (((HFZ.out.below HW9.out)).to_below (Nat.zero_le _) (fun _ _ => Nat.zero_le _)) (Nat.zero_le _) (by have h_ := HL.out; omega) ?_
          intro v7 w9 ho7 hb7 hg7 hat7
          obtain ⟨A7, c7, e7, hc7⟩ := own_shape ho7
          subst e7
          have HO7 := Aside0.mk ho7
          have HG7 := Aside0.mk hg7
          have HAT7 := Aside0.mk hat7
          have HMB := Aside0.mk (blk_grown (HMZ1.out.below HW9.out).obj hg7 (fun e_ => (HMZ1.out.below HW9.out).v_g g e_.symm rfl))
          clear ho7 hb7 hg7 hat7 hc7
          refine hK.out _ _ ?_
          clear hK K
          refine norm_ (a' := ?_) ?_ ?_
          rotate_left
          · show Act.put _ (some 41) _ = _
            simp only [Act.put, List.setIfInBounds_toArray, List.set_cons_zero, List.set_cons_succ, i64_w, i32_w]
            rfl
          refine pure_ (i := 11) (N := some 42) (v := ?_) (a' := ?_) #[true, true, true, true, true, true, true, true, true, true, true, true, false, false] rfl rfl (by kernel_rfl) (fun _ _ _ h => h) (Or.inl ⟨by rfl, ?_⟩) ?_ ?_
          rotate_left
          · intro w'
            go_simp
            with_reducible rfl
          rotate_left
          · simp only [Act.put, List.setIfInBounds_toArray, List.set_cons_zero, List.set_cons_succ, i64_w, i32_w]
            rfl
          refine pure_ (i := 12) (N := some 43) (v := ?_) (a' := ?_) #[true, true, true, true, true, true, true, true, true, true, true, true, true, false] rfl rfl (by kernel_rfl) (fun _ _ _ h => h) (Or.inl ⟨by rfl, ?_⟩) ?_ ?_
          rotate_left
          · intro w'
            go_simp
            with_reducible rfl
          rotate_left
          · simp only [Act.put, List.setIfInBounds_toArray, List.set_cons_zero, List.set_cons_succ, i64_w, i32_w]
            rfl
          refine last_ (i := 13) (N := none) #[true, true, true, true, true, true, true, true, true, true, true, true, true, true] rfl rfl (by kernel_rfl) (by decide) (fun K hK => ?_)
          have hd7 : w9.cell? ⟨g, 1, none⟩ = some (.slice AV l.length cV) := (blk_cell HMB.out 1).trans rfl
          have hf7 : w9.frozen? ⟨g, 1, none⟩ = false := blk_frozen HMB.out 1
          refine skip_ (w1 := ?_) (by rfl) rfl ?_ ?_
          rotate_left
          · go_simp
            rfl
          refine hK.out _ _ ?_
          clear hK K
          refine done_ (by kernel_rfl) ?_
          generalize hw8 : World.setCell w9 _ _ = w10
          have HM8 : Aside0 (GS w10 (fun k => ok k ∨ w.heap.size ≤ k) g nur mb cn (rm) (.slice A7 (l.length + 1) c7) (ps ++ [.slice AP m cP]) (l ++ [⟨List.replicate m (-1), 0, true⟩])) := ⟨by
            rw [← hw8]
            refine GS.snoc (x := ⟨List.replicate m (-1), 0, true⟩) (HMZ1.out.below HW9.out) (own_same HPR.out (fun k hk => rfl)) (fun k hk ho_ => by have h1_ := HPB.out k hk; have h2_ := HK.out k ho_; have h3_ := HFZ.out.size; omega) (by first | exact HO7.out | (rw [HLZ.out]; exact HO7.out)) HG7.out HAT7.out (fun k hk => ?_)
            rcases hk with hk | hk | hk
            · exact .inl hk
            · exact .inr (Nat.le_trans HFZ.out.size (Nat.le_trans HW9.out.size hk))
            · exact .inr (Nat.le_trans HFZ.out.size (HPB.out k hk))⟩
          have HF8 : Aside0 (Fr ok w w10) := ⟨by
            rw [← hw8]
            exact (((HFZ.out.below HW9.out)).grown HG7.out (fun k hk => .inl (HM.out.vok k hk))).set (.inl HM.out.gok) _⟩
          have e2 := HM8.out.c1
          have HLW : Aside0 (wrap64 (((l.length + 1 : Nat) : Int) - 1) = (l.length : Int)) := ⟨by have := HL.out; unfold wrap64; omega⟩
          have HLW3 : Aside0 (wrap64 (l.length : Int) = (l.length : Int)) := ⟨by have := HL.out; unfold wrap64; omega⟩
          clear hw8 hd7 hf7 d1
          go_wp2_with fail
          go_ret2
          rw [HE.out]
          refine ⟨?_, ⟨_, _, cn, Nat.le_refl _, HM8.out⟩, HF8.out⟩
          first | rfl | (rw [HLW3.out]; rfl)
end Go.Proofs.Ytnimidkeoocchaa.Gen
/- Package gens: Do walked. -/
namespace Go.Proofs.Ytnimidkeoocchaa.Gen
open Go.RowKit Go.Proofs.YtnimidkeoocchaaW.PrintWords Go.Proofs.YtnimidkeoocchaaW.PrintLast Go.Proofs.YtnimidkeoocchaaW.PrintMore Go.Proofs.Ytnimidkeoocchaa.PG Go.Proofs.Ytnimidkeoocchaa.Hnd Go.Proofs.Ytnimidkeoocchaa.Rch

/-- A heap's things and remembered ones, what a deed answers, and whether that went well. -/
structure Out where
  new ::
  l : List Th
  rm : Int → Bool
  many : Int
  err : Int
noncomputable def doL (nur : Int) (l : List Th) (rm : Int → Bool) (d a b n : Int) : Out :=
  if d = 1 then ⟨(makeL nur l rm n).1, (makeL nur l rm n).2.1, (makeL nur l rm n).2.2.1, (makeL nur l rm n).2.2.2⟩
  else if d = 2 then ⟨(setL l rm a b n).1, (setL l rm a b n).2.1, 0, (setL l rm a b n).2.2⟩
  else if d = 4 then ⟨(holdL l a true).1, rm, 0, (holdL l a true).2⟩
  else if d = 3 then ⟨(holdL l a false).1, rm, 0, (holdL l a false).2⟩
  else if d = 6 then ⟨minL l rm, fun _ => false, (minN l rm : Int), 0⟩
  else if d = 7 then ⟨majorL l, fun _ => false, (majorN l : Int), 0⟩
  else ⟨l, rm, 0, 7⟩
def DoPost (w : World) (ok : Nat → Prop) (g : Nat) (nur : Int) (mb cn : Nat) (o : Out) (e : Ending) (w' : World) : Prop :=
  e = .returned (.tuple #[.int .i64 o.many, .int .i64 o.err]) ∧ (∃ v' ps' cn', cn' ≤ cn + 1 ∧ GS w' (fun k => ok k ∨ w.heap.size ≤ k) g nur mb cn' o.rm v' ps' o.l) ∧ Fr ok w w'
set_option maxHeartbeats 16000000 in
set_option maxRecDepth 100000 in
theorem do_calls (w : World) {ok : Nat → Prop} {g : Nat} {nur : Int} {mb cn : Nat} {rm : Int → Bool} {v : Value} {ps : List Value} {l : List Th} (h : GS w ok g nur mb cn rm v ps l) (ho : OkL l) (hok : ∀ k, ok k → k < w.heap.size) (hcn : cn ≤ 100000) (hrm : ∀ x, I64 x → rm x = true → 0 ≤ x ∧ x < (l.length : Int)) (d a b n : Int) :
    Calls Try.prog 18 #[.pointer (some ⟨g, 0, none⟩), .agg #[.int .i64 d, .int .i64 a, .int .i64 b, .int .i64 n]] w (DoPost w ok g nur mb cn (doL nur l rm d a b n)) := by
  have hbx := below_alloc (Below.refl w.heap.size w) (Obj.cells #[.int .i64 d, .int .i64 a, .int .i64 b, .int .i64 n] 31)
  have HM := Aside0.mk h
  have HMX := Aside0.mk (h.below hbx)
  have HO := Aside0.mk ho
  have HCN := Aside0.mk hcn
  have HRM := Aside0.mk hrm
  have HKX : Aside0 (∀ k, ok k → k < (w.alloc (Obj.cells #[.int .i64 d, .int .i64 a, .int .i64 b, .int .i64 n] 31)).heap.size) := ⟨fun k hk => by rw [blk_size]; have := hok k hk; omega⟩
  have HLE : Aside0 (∀ k, (ok k ∨ (w.alloc (Obj.cells #[.int .i64 d, .int .i64 a, .int .i64 b, .int .i64 n] 31)).heap.size ≤ k) → (ok k ∨ w.heap.size ≤ k)) := ⟨fun k hk => by rw [blk_size] at hk; rcases hk with hk | hk; exact .inl hk; exact .inr (by omega)⟩
  have HFX : Aside0 (Fr ok w (w.alloc (Obj.cells #[.int .i64 d, .int .i64 a, .int .i64 b, .int .i64 n] 31))) := ⟨Fr.of_below hbx⟩
  clear h ho hok hbx hcn hrm
  by_cases h1 : d = 1
  · have HE : Aside0 (doL nur l rm d a b n = ⟨(makeL nur l rm n).1, (makeL nur l rm n).2.1, (makeL nur l rm n).2.2.1, (makeL nur l rm n).2.2.2⟩) := ⟨by unfold doL; rw [if_pos h1]⟩
    have HC := Aside0.mk (make_calls _ HMX.out HO.out HKX.out HCN.out HRM.out n)
    have hb1 : (d == 1) = true := by simpa using h1
    clear h1
    generalize makeL nur l rm n = o at HE HC
    go_enter Try.func18, Try.ntmps18
    go_wp2_with fail
    refine HC.out.mono ?_
    rintro e w2 ⟨rfl, ⟨v', ps', cn', hcn, hm⟩, hf⟩
    have HM2 := Aside0.mk hm
    have HF2 := Aside0.mk hf
    have HC2 := Aside0.mk hcn
    clear hm hf hcn
    go_wp2_with fail
    go_ret2
    rw [HE.out]
    exact ⟨rfl, ⟨v', ps', cn', Nat.le_trans HC2.out (Nat.le_succ _), HM2.out.mono HLE.out⟩, HFX.out.trans HF2.out⟩
  have hb1 : (d == 1) = false := by simpa using h1
  by_cases h2 : d = 2
  · have HE : Aside0 (doL nur l rm d a b n = ⟨(setL l rm a b n).1, (setL l rm a b n).2.1, 0, (setL l rm a b n).2.2⟩) := ⟨by unfold doL; rw [if_neg h1, if_pos h2]⟩
    have HC := Aside0.mk (set_calls _ HMX.out HO.out HKX.out HCN.out d a b n)
    have hb2 : (d == 2) = true := by simpa using h2
    clear h1 h2
    generalize setL l rm a b n = o at HE HC
    go_enter Try.func18, Try.ntmps18
    go_wp2_with fail
    refine HC.out.mono ?_
    rintro e w2 ⟨rfl, ⟨cn', hcn, hm⟩, hf⟩
    have HM2 := Aside0.mk hm
    have HF2 := Aside0.mk hf
    have HC2 := Aside0.mk hcn
    clear hm hf hcn
    go_wp2_with fail
    go_ret2
    rw [HE.out]
    exact ⟨rfl, ⟨_, _, cn', HC2.out, HM2.out.mono (fun k hk => .inl hk)⟩, HFX.out.trans HF2.out⟩
  have hb2 : (d == 2) = false := by simpa using h2
  by_cases h4 : d = 4
  · have HE : Aside0 (doL nur l rm d a b n = ⟨(holdL l a true).1, rm, 0, (holdL l a true).2⟩) := ⟨by unfold doL; rw [if_neg h1, if_neg h2, if_pos h4]⟩
    have HC := Aside0.mk (hold_calls _ HMX.out HO.out a true)
    have hb4 : (d == 4) = true := by simpa using h4
    clear h1 h2 h4
    generalize holdL l a true = o at HE HC
    go_enter Try.func18, Try.ntmps18
    go_wp2_with fail
    refine HC.out.mono ?_
    rintro e w2 ⟨rfl, hm, hf⟩
    have HM2 := Aside0.mk hm
    have HF2 := Aside0.mk hf
    clear hm hf
    go_wp2_with fail
    go_ret2
    rw [HE.out]
    exact ⟨rfl, ⟨_, _, _, Nat.le_succ _, HM2.out.mono (fun k hk => .inl hk)⟩, HFX.out.trans HF2.out⟩
  have hb4 : (d == 4) = false := by simpa using h4
  by_cases h3 : d = 3
  · have HE : Aside0 (doL nur l rm d a b n = ⟨(holdL l a false).1, rm, 0, (holdL l a false).2⟩) := ⟨by unfold doL; rw [if_neg h1, if_neg h2, if_neg h4, if_pos h3]⟩
    have HC := Aside0.mk (hold_calls _ HMX.out HO.out a false)
    have hb3 : (d == 3) = true := by simpa using h3
    clear h1 h2 h4 h3
    generalize holdL l a false = o at HE HC
    go_enter Try.func18, Try.ntmps18
    go_wp2_with fail
    refine HC.out.mono ?_
    rintro e w2 ⟨rfl, hm, hf⟩
    have HM2 := Aside0.mk hm
    have HF2 := Aside0.mk hf
    clear hm hf
    go_wp2_with fail
    go_ret2
    rw [HE.out]
    exact ⟨rfl, ⟨_, _, _, Nat.le_succ _, HM2.out.mono (fun k hk => .inl hk)⟩, HFX.out.trans HF2.out⟩
  have hb3 : (d == 3) = false := by simpa using h3
  by_cases h6 : d = 6
  · have HE : Aside0 (doL nur l rm d a b n = ⟨minL l rm, fun _ => false, (minN l rm : Int), 0⟩) := ⟨by unfold doL; rw [if_neg h1, if_neg h2, if_neg h4, if_neg h3, if_pos h6]⟩
    have HC := Aside0.mk (minor_calls _ HMX.out HO.out HKX.out HCN.out HRM.out)
    have hb6 : (d == 6) = true := by simpa using h6
    clear h1 h2 h4 h3 h6
    go_enter Try.func18, Try.ntmps18
    go_wp2_with fail
    refine HC.out.mono ?_
    rintro e w2 ⟨st, hmk, rfl, ⟨ps', hm⟩, hf⟩
    have hs := hmk.eq
    subst hs
    have HM2 : Aside0 (GS w2 ok g nur mb 0 (fun _ => false) v ps' (minL l rm)) := ⟨hm⟩
    have HF2 := Aside0.mk hf
    have HN : Aside0 (minN l rm = collN (stM l rm) [0] l) := ⟨rfl⟩
    clear hm hf hmk
    rw [← HN.out]
    clear HN
    generalize minL l rm = lz at HE HM2
    generalize minN l rm = nz at HE
    go_wp2_with fail
    go_ret2
    rw [HE.out]
    exact ⟨rfl, ⟨_, _, 0, Nat.zero_le _, HM2.out.mono (fun k hk => .inl hk)⟩, HFX.out.trans HF2.out⟩
  have hb6 : (d == 6) = false := by simpa using h6
  by_cases h7 : d = 7
  · have HE : Aside0 (doL nur l rm d a b n = ⟨majorL l, fun _ => false, (majorN l : Int), 0⟩) := ⟨by unfold doL; rw [if_neg h1, if_neg h2, if_neg h4, if_neg h3, if_neg h6, if_pos h7]⟩
    have HC := Aside0.mk (major_calls _ HMX.out HO.out HKX.out)
    have hb7 : (d == 7) = true := by simpa using h7
    clear h1 h2 h4 h3 h6 h7
    generalize majorL l = lz at HE HC
    generalize majorN l = nz at HE HC
    go_enter Try.func18, Try.ntmps18
    go_wp2_with fail
    refine HC.out.mono ?_
    rintro e w2 ⟨rfl, ⟨ps', hm⟩, hf⟩
    have HM2 := Aside0.mk hm
    have HF2 := Aside0.mk hf
    clear hm hf
    go_wp2_with fail
    go_ret2
    rw [HE.out]
    exact ⟨rfl, ⟨_, _, 0, Nat.zero_le _, HM2.out.mono (fun k hk => .inl hk)⟩, HFX.out.trans HF2.out⟩
  have hb7 : (d == 7) = false := by simpa using h7
  have HE : Aside0 (doL nur l rm d a b n = ⟨l, rm, 0, 7⟩) := ⟨by unfold doL; rw [if_neg h1, if_neg h2, if_neg h4, if_neg h3, if_neg h6, if_neg h7]⟩
  clear h1 h2 h4 h3 h6 h7
  go_enter Try.func18, Try.ntmps18
  go_wp2_with fail
  go_ret2
  rw [HE.out]
  exact ⟨rfl, ⟨_, _, _, Nat.le_succ _, HMX.out.mono (fun k hk => .inl hk)⟩, HFX.out⟩
end Go.Proofs.Ytnimidkeoocchaa.Gen
