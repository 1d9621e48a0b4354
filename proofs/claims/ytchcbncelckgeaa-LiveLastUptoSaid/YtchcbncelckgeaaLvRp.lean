/- slices.Repeat of one span of -1. -/
import Derived.Test.YtchcbncelckgeaaLvCh
import Derived.Test.YtchcbncelckgeaaPZ2
import Derived.Laws.CopyRow
import Derived.Laws.CopyOwn
import Derived.Shelf.Spec.SlicesInsert
import Derived.Deep.RegionLaw
set_option linter.unusedVariables false
set_option linter.unusedSimpArgs false
namespace Go.Proofs.Ytchcbncelckgeaa.Lv
open Go.RowKit Go.Proofs.YtchcbncelckgeaaW.PrintWords Go.Proofs.YtchcbncelckgeaaW.PrintLast Go.Proofs.YtchcbncelckgeaaW.PrintMore Go.Proofs.Ytchcbncelckgeaa.PZ Go.Proofs.Ytchcbncelckgeaa.Hnd Go.Lib

theorem mul_one (n : Nat) (h : n ≤ 300) : bits_Mul.f 1 (n : Int) = some (0, (n : Int)) := by
  have h_ : ∀ k : Fin 301, bits_Mul.f 1 ((k : Nat) : Int) = some (0, ((k : Nat) : Int)) := by decide +kernel
  exact h_ ⟨n, by omega⟩
def rowK (n k : Nat) : List Int := List.replicate k (-1) ++ List.replicate (n - k) 0
def cellK (n k : Nat) : List Value := (rowK n k).map (Value.int .i64)
theorem cellK_len {n k : Nat} (h : k ≤ n) : (cellK n k).length = n := by simp [cellK, rowK]; omega
theorem made_K (n : Nat) : (madeCells #[Value.int .i64 0, Value.int .i64 0] n) = (cellK n 0).toArray := by
  apply Array.ext'
  apply List.ext_getElem
  · simp [madeCells, cellK, rowK]
  · intro i h1 h2
    have h3 : i % 2 = 0 ∨ i % 2 = 1 := by omega
    rcases h3 with h3 | h3 <;> simp [madeCells, cellK, rowK, h3]
theorem splice_K {n k j : Nat} (h : k + j ≤ n) : splice (cellK n k) k ((List.replicate j (-1 : Int)).map (Value.int .i64)) = cellK n (k + j) := by
  unfold splice cellK rowK
  simp only [List.map_append, List.map_replicate, List.length_replicate]
  rw [List.take_left' (by simp), List.drop_append, List.drop_eq_nil_of_le (by simp)]
  rw [List.nil_append, List.length_replicate, List.drop_replicate, ← List.append_assoc, List.replicate_append_replicate]
  congr 2; omega
theorem cellK_get {n k : Nat} (j : Nat) (h : j < k) : (cellK n k)[j]? = some (.int .i64 (-1)) := by
  unfold cellK rowK
  rw [List.getElem?_map, List.getElem?_append_left (by simpa using h)]
  simp [h]
theorem run_copyN {P : Program} (w : World) (dT sT ty elem : TypeId) (sz g o dLen dCap : Nat) (a : Addr) (sLen sCap : Nat) (cur : Array Value) (t : TypeId) (cs : List Value) (m : Nat)
    (hu : P.underlying dT = some (.slice elem)) (hs : (P.info? elem).map (·.size) = some sz)
    (hg : w.heap[g]? = some (.cells cur t (0, 0))) (hm : Nat.min sLen dLen = m) (hn : cs.length = m * sz)
    (hsrc : ∀ j v, cs[j]? = some v → w.cell? (a.add j) = some v) (hfit : o + cs.length ≤ cur.size) (h1 : ∀ v ∈ cs, v.oneCell' = true) :
    (Builtin.copy_ #[dT, sT] ty #[.slice (some ⟨g, o, none⟩) dLen dCap, .slice (some a) sLen sCap]).run P w =
      .ok (goInt m) (w.setRow g (cur.toList.take o ++ cs ++ cur.toList.drop (o + cs.length)).toArray) := by
  have hl := run_loadCells_list (P := P) w a cs hsrc
  have hst := run_storeCells_at P g o t cs 0 cur w hg (by simpa using hfit) h1
  cases hq : P.info? elem with
  | none => simp [hq] at hs
  | some i =>
    have hi : i.size = sz := by simpa [hq] using hs
    rw [hn] at hl
    simp [Builtin.copy_, run_underlying hu, Builtin.lenOf, Builtin.firstCells, sizeOf, typeInfo, hq, hi, hm, hl, hst]
theorem run_copyN0 {P : Program} (w : World) (dT sT ty elem : TypeId) (d a : Option Addr) (dLen dCap sLen sCap : Nat) (hu : P.underlying dT = some (.slice elem)) (hs : ((P.info? elem).map (·.size)).isSome = true) (hn : Nat.min sLen dLen = 0) :
    (Builtin.copy_ #[dT, sT] ty #[.slice d dLen dCap, .slice a sLen sCap]).run P w = .ok (goInt 0) w := by
  cases hq : P.info? elem with
  | none => simp [hq] at hs
  | some i =>
    have hl : ∀ (x : Addr), (loadCells x 0).run P w = .ok #[] w := fun x => by simpa using run_loadCells_list (P := P) w x [] (by simp)
    cases d <;> cases a <;> simp [Builtin.copy_, run_underlying hu, Builtin.lenOf, Builtin.firstCells, sizeOf, typeInfo, hq, hn, storeCells, hl]
theorem step_copyN {P : Program} {ops : Array Oper} {o : Oper} {a : Act} {w : World} {K : Act → World → Prop} {Q : Exit → Act → World → Prop} {E : Prop} (hgd : o.guard = none) (d s : Operand) (dT sT : TypeId)
    (ho : o.op = .call { callee := .builtin .copy, args := #[d, s], argTypes := #[dT, sT] }) (elem : TypeId) (sz : Nat) (hu : P.underlying dT = some (.slice elem)) (hsz : (P.info? elem).map (·.size) = some sz)
    (dLen dCap sLen sCap : Nat) (g off : Nat) (ad : Addr) (hd : a.eval d = .slice (some ⟨g, off, none⟩) dLen dCap) (hs : a.eval s = .slice (some ad) sLen sCap)
    (cur : List Value) (t : TypeId) (hg : w.heap[g]? = some (.cells cur.toArray t (0, 0))) (cs : List Value) (m : Nat) (hm : Nat.min sLen dLen = m) (hn : cs.length = m * sz)
    (hsrc : ∀ j v, cs[j]? = some v → w.cell? (ad.add j) = some v)
    (hfit : off + cs.length ≤ cur.length) (h1 : ∀ v ∈ cs, v.oneCell' = true) (B : Nat) (w0 : World) (hb : RowKit.Below B w0 w) (hBg : B ≤ g)
    (h : ∀ w', RowKit.Hid (w'.heap[g]? = some (.cells (splice cur off cs).toArray t (0, 0))) → RowKit.Below B w0 w' → K (a.put o.dst (goInt m)) w') :
    if Region.wanted o (yielded ops a.tmps) = true then Oper.wp P o a w K Q else E := by
  have hw : Region.wanted o (yielded ops a.tmps) = true := by simp [Region.wanted, hgd]
  rw [if_pos hw]
  have hrun := run_copyN (P := P) w dT sT o.type elem sz g off dLen dCap ad sLen sCap cur.toArray t cs m hu hsz hg hm hn hsrc (by simpa using hfit) h1
  unfold Oper.wp
  simp [execOp, ho, resolve, invoke, builtin, hd, hs, hrun, Result.andThen]
  exact h _ (show _ = _ by simpa [splice] using setRow_heap w g _ _ t _ hg) (below_setRow hb hBg _)
set_option maxHeartbeats 8000000 in
set_option maxRecDepth 100000 in
theorem repeat_calls (w : World) (b n : Nat) (hb : w.heap[b]? = some (.cells #[.int .i64 (-1), .int .i64 (-1)] 105 (0, 0))) (hn : n ≤ 300) :
    Calls Try.prog 62 #[.slice (some ⟨b, 0, none⟩) 1 1, .int .i64 (n : Int)] w fun e w' => ∃ b2, e = .returned (.slice (some ⟨b2, 0, none⟩) n n) ∧ w.heap.size ≤ b2 ∧ w'.heap[b2]? = some (.cells (cellK (2 * n) (2 * n)).toArray 105 (0, 0)) ∧ Below w.heap.size w w' := by
  have HB := Aside0.mk hb
  have HN := Aside0.mk hn
  have HM := Aside0.mk (mul_one n hn)
  have hd0 : decide ((n : Int) < 0) = false := decide_eq_false (by omega)
  have hw : IntKind.u64.wrap (n : Int) = (n : Int) := by show (n : Int) % 18446744073709551616 = _; omega
  have hw2 : wrap64 (n : Int) = (n : Int) := by unfold wrap64; omega
  have hd1 : decide ((9223372036854775807 : Int) < (n : Int)) = false := decide_eq_false (by omega)
  have hmk : ∀ W : World, (Instr.makeSlice 98 (.int .i64 (n : Int)) (.int .i64 (n : Int))).run Try.prog W = .ok (.slice (some ⟨W.heap.size, 0, none⟩) n n) (W.alloc (.cells (madeCells #[.int .i64 0, .int .i64 0] (n * 2)) 105)) := by
    intro W
    obtain ⟨i, hi, hzz⟩ := Option.map_eq_some_iff.1 (show (Try.prog.info? 105).map (fun i => (i.zero, i.size, i.bytes)) = some (some (.agg #[.int .i64 0, .int .i64 0]), 2, 16) from by kernel_rfl)
    simp only [Prod.mk.injEq] at hzz
    obtain ⟨hz, hs, hb⟩ := hzz
    have hr := run_make (P := Try.prog) W 98 105 i _ Try.underlying98 hi hz .i64 .i64 n n (by omega) (Int.le_refl _) (by rw [hb]; omega) (by omega)
    simp only [Int.toNat_natCast, hs] at hr
    exact hr
  clear hb hn
  go_enter Try.func62, Try.ntmps62
  go_wp2_with fail
  refine (bits_Mul.calls 1 n 0 n _ HM.out).mono ?_
  rintro e w1 ⟨rfl, ⟨m1, rfl⟩⟩
  obtain ⟨W1, hW1⟩ : ∃ W1, W1 = (w.drewN m1).alloc (Obj.cells (madeCells #[Value.int .i64 0, Value.int .i64 0] (n * 2)) 105) := ⟨_, rfl⟩
  have hg1 : W1.heap[w.heap.size]? = some (.cells (cellK (2 * n) 0).toArray 105 (0, 0)) := by
    rw [hW1, ← made_K, Nat.mul_comm]; exact blk_new (w.drewN m1) _
  have hbb : W1.heap[b]? = some (.cells #[.int .i64 (-1), .int .i64 (-1)] 105 (0, 0)) := by rw [hW1]; exact blk_alloc (blk_drewN HB.out m1) _
  have hbw : Below w.heap.size w W1 := by rw [hW1]; exact below_alloc (by repeat (first | exact Below.refl _ _ | apply pw_below_drewN)) _
  have hcp : ∃ (W2 : World) (k : Nat), (Builtin.copy_ #[98, 98] 3 #[.slice (some ⟨w.heap.size, 0, none⟩) n n, .slice (some ⟨b, 0, none⟩) 1 1]).run Try.prog W1 = .ok (.int .i64 (k : Int)) W2 ∧ Aside0 (k ≤ n ∧ (1 ≤ n → 1 ≤ k) ∧ W2.heap[w.heap.size]? = some (.cells (cellK (2 * n) (2 * k)).toArray 105 (0, 0)) ∧ Below w.heap.size w W2) := by
    rcases Nat.eq_zero_or_pos n with h0 | hp
    · refine ⟨W1, 0, ?_, ⟨by omega, by omega, hg1, hbw⟩⟩
      have h_ := run_copyN0 (P := Try.prog) W1 98 98 3 105 (some ⟨w.heap.size, 0, none⟩) (some ⟨b, 0, none⟩) n n 1 1 Try.underlying98 (by kernel_rfl) (by rw [h0]; rfl)
      exact h_
    · have hlen : (cellK (2 * n) 0).length = 2 * n := cellK_len (Nat.zero_le _)
      have h_ := run_copyN (P := Try.prog) W1 98 98 3 105 2 w.heap.size 0 n n ⟨b, 0, none⟩ 1 1 (cellK (2 * n) 0).toArray 105 [.int .i64 (-1), .int .i64 (-1)] 1 Try.underlying98 (by kernel_rfl) hg1 (by show Nat.min 1 n = 1; exact Nat.min_eq_left hp) rfl
        (fun j v hj => by
          rw [add_b, blk_cell hbb j]
          rcases j with _ | _ | j
          · simpa using hj
          · simpa using hj
          · simp at hj)
        (by simp [hlen]; omega) (fun v hv => by simp at hv; subst hv; rfl)
      refine ⟨_, 1, h_, ⟨by omega, fun _ => Nat.le_refl _, ?_, ?_⟩⟩
      · rw [setRow_heap W1 w.heap.size _ _ 105 _ hg1]
        have hs := splice_K (n := 2 * n) (k := 0) (j := 2) (by omega)
        rw [show 2 * 1 = 0 + 2 from rfl, ← hs]
        simp [splice]
      · exact below_setRow hbw (Nat.le_refl _) _
  obtain ⟨W2, k0, hcp, hfacts⟩ := hcp
  rw [hW1] at hcp
  clear hg1 hbb hbw hW1 HB HM
  go_wp2_with fail
  go_loopg [8] (n + 1) (fun kq v8 W => ∃ k : Nat, v8 = .int .i64 (k : Int) ∧ Aside0 (k ≤ n ∧ (1 ≤ n → 1 ≤ k) ∧ n - k < kq ∧ W.heap[w.heap.size]? = some (.cells (cellK (2 * n) (2 * k)).toArray 105 (0, 0)) ∧ Below w.heap.size w W))
  case atStart => exact ⟨k0, rfl, ⟨hfacts.out.1, hfacts.out.2.1, by omega, hfacts.out.2.2⟩⟩
  case round =>
    clear hcp hfacts hmk
    obtain ⟨k, rfl, HQ⟩ := hrel
    by_cases hlt : k < n
    · have hk1 : 1 ≤ k := HQ.out.2.1 (by omega)
      have HLT := Aside0.mk hlt
      have hdec : decide ((k : Int) < (n : Int)) = true := decide_eq_true (by omega)
      have hdec2 : decide (k < n) = true := decide_eq_true hlt
      have hp1 : ((k : Int) ≤ (n : Int)) = True := eq_true (by omega)
      have hp2 : (n = k) = False := eq_false (by omega)
      have hp3 : k ≤ n := by omega
      have hp4 : (0 : Int) ≤ (k : Int) := by omega
      have HG : Aside0 (wr.drew.heap[w.heap.size]? = some (.cells (cellK (2 * n) (2 * k)).toArray 105 (0, 0))) := ⟨HQ.out.2.2.2.1⟩
      have HB : Aside0 (Below w.heap.size w wr.drew) := ⟨below_drew HQ.out.2.2.2.2⟩
      obtain ⟨j, hj⟩ : ∃ j, j = Nat.min k (n - k) := ⟨_, rfl⟩
      have hj1 : 1 ≤ j ∧ k + j ≤ n ∧ j ≤ k := by
        have h1_ : j ≤ k := hj ▸ Nat.min_le_left k (n - k)
        have h2_ : j ≤ n - k := hj ▸ Nat.min_le_right k (n - k)
        have h3_ : 1 ≤ j := hj ▸ Nat.le_min.2 ⟨hk1, by omega⟩
        omega
      have HJ1 := Aside0.mk hj1
      have HJ := Aside0.mk hj.symm
      have hlen : ((List.replicate (2 * j) (-1 : Int)).map (Value.int .i64)).length = j * 2 := by simp; omega
      have HLEN := Aside0.mk hlen
      have HSP := Aside0.mk (splice_K (n := 2 * n) (k := 2 * k) (j := 2 * j) (by omega))
      have hsrc : ∀ (W : World), W.heap[w.heap.size]? = some (.cells (cellK (2 * n) (2 * k)).toArray 105 (0, 0)) → ∀ t u, ((List.replicate (2 * j) (-1 : Int)).map (Value.int .i64))[t]? = some u → W.cell? ((⟨w.heap.size, 0, none⟩ : Addr).add t) = some u := by
        intro W hW t u hu
        have ht : t < 2 * j := by
          rcases Nat.lt_or_ge t (2 * j) with h | h
          · exact h
          · rw [List.getElem?_eq_none (by simpa using h)] at hu; cases hu
        rw [add_b, blk_cell hW]
        have := cellK_get (n := 2 * n) t (show t < 2 * k by omega)
        simp only [List.getElem?_toArray, this]
        simp [ht] at hu
        rw [hu]
      have HSRC := Aside0.mk hsrc
      obtain ⟨cs, hcs⟩ : ∃ cs, cs = (List.replicate (2 * j) (-1 : Int)).map (Value.int .i64) := ⟨_, rfl⟩
      rw [← hcs] at HSP HSRC HLEN
      have HONE : Aside0 (∀ v ∈ cs, v.oneCell' = true) := ⟨by rw [hcs]; intro v hv; simp at hv; rw [hv.2]; rfl⟩
      have HFIT : Aside0 (2 * k + cs.length ≤ (cellK (2 * n) (2 * k)).length) := ⟨by rw [HLEN.out, cellK_len (by omega)]; have := hj1.2.1; omega⟩
      have hE := (show Try.prog.underlying 98 = some (.slice 105) from Try.underlying98)
      clear hj hj1 hlen hsrc hcs hlt hk1
      go_wp2_with fail
      refine start_ (n := 10) (S := fun w' => True) (ds := []) #[false, false, false, false, false, false, false, false, false, false] (by kernel_rfl) rfl rfl trivial (fun hHeld => ?_)
      refine pure_ (i := 0) (N := some 38) (v := ?_) (a' := ?_) #[true, false, false, false, false, false, false, false, false, false] rfl rfl (by kernel_rfl) (fun _ _ _ h => h) (Or.inl ⟨by rfl, ?_⟩) ?_ ?_
      rotate_left
      · intro w'
        go_simp
        with_reducible rfl
      rotate_left
      · simp only [Act.put, List.setIfInBounds_toArray, List.set_cons_zero, List.set_cons_succ, i64_w, i32_w]
        rfl
      refine pure_ (i := 1) (N := some 39) (v := ?_) (a' := ?_) #[true, true, false, false, false, false, false, false, false, false] rfl rfl (by kernel_rfl) (fun _ _ _ h => h) (Or.inl ⟨by rfl, ?_⟩) ?_ ?_
      rotate_left
      · intro w'
        go_simp
        with_reducible rfl
      rotate_left
      · simp only [Act.put, List.setIfInBounds_toArray, List.set_cons_zero, List.set_cons_succ, i64_w, i32_w]
        rfl
      refine pure_ (i := 2) (N := some 40) (v := ?_) (a' := ?_) #[true, true, true, false, false, false, false, false, false, false] rfl rfl (by kernel_rfl) (fun _ _ _ h => h) (Or.inl ⟨by rfl, ?_⟩) ?_ ?_
      rotate_left
      · intro w'
        go_simp
        with_reducible rfl
      rotate_left
      · simp only [Act.put, List.setIfInBounds_toArray, List.set_cons_zero, List.set_cons_succ, i64_w, i32_w]
        rfl
      refine pure_ (i := 3) (N := some 41) (v := ?_) (a' := ?_) #[true, true, true, true, false, false, false, false, false, false] rfl rfl (by kernel_rfl) (fun _ _ _ h => h) (Or.inl ⟨by rfl, ?_⟩) ?_ ?_
      rotate_left
      · intro w'
        go_simp
        with_reducible rfl
      rotate_left
      · simp only [Act.put, List.setIfInBounds_toArray, List.set_cons_zero, List.set_cons_succ, i64_w, i32_w]
        rfl
      refine pure_ (i := 4) (N := some 42) (v := ?_) (a' := ?_) #[true, true, true, true, true, false, false, false, false, false] rfl rfl (by kernel_rfl) (fun _ _ _ h => h) (Or.inl ⟨by rfl, ?_⟩) ?_ ?_
      rotate_left
      · intro w'
        go_simp
        with_reducible rfl
      rotate_left
      · simp only [Act.put, List.setIfInBounds_toArray, List.set_cons_zero, List.set_cons_succ, i64_w, i32_w]
        rfl
      refine pure_ (i := 5) (N := some 43) (v := ?_) (a' := ?_) #[true, true, true, true, true, true, false, false, false, false] rfl rfl (by kernel_rfl) (fun _ _ _ h => h) (Or.inl ⟨by rfl, ?_⟩) ?_ ?_
      rotate_left
      · intro w'
        go_simp
        with_reducible rfl
      rotate_left
      · simp only [Act.put, List.setIfInBounds_toArray, List.set_cons_zero, List.set_cons_succ, i64_w, i32_w]
        rfl
      refine pure_ (i := 6) (N := some 44) (v := ?_) (a' := ?_) #[true, true, true, true, true, true, true, false, false, false] rfl rfl (by kernel_rfl) (fun _ _ _ h => h) (Or.inl ⟨by rfl, ?_⟩) ?_ ?_
      rotate_left
      · intro w'
        go_simp
        with_reducible rfl
      rotate_left
      · simp only [Act.put, List.setIfInBounds_toArray, List.set_cons_zero, List.set_cons_succ, i64_w, i32_w]
        rfl
      refine one_ (i := 7) (N := some 45) #[true, true, true, true, true, true, true, true, false, false] rfl rfl (by kernel_rfl) (by decide) (fun K hK => ?_)
      refine step_copyN rfl (.tmp 41) (.tmp 44) 98 98 rfl 105 2 hE (by kernel_rfl) (n - k) (n - k) k n w.heap.size (2 * k) ⟨w.heap.size, 0, none⟩ (by simp [Act.eval, Act.put, Nat.mul_comm]) (by simp [Act.eval, Act.put]) (cellK (2 * n) (2 * k)) 105 HG.out cs j HJ.out HLEN.out (HSRC.out _ HG.out) HFIT.out HONE.out w.heap.size w HB.out (Nat.le_refl _) ?_
      intro w4 hg4 hb4
      rw [HSP.out] at hg4
      refine hK.out _ _ trivial (fun hHeld => ?_)
      clear hK K
      refine norm_ (a' := ?_) ?_ ?_
      rotate_left
      · show Act.put _ (some 45) _ = _
        simp only [Act.put, List.setIfInBounds_toArray, List.set_cons_zero, List.set_cons_succ, i64_w, i32_w]
        rfl
      refine pure_ (i := 8) (N := some 46) (v := ?_) (a' := ?_) #[true, true, true, true, true, true, true, true, true, false] rfl rfl (by kernel_rfl) (fun _ _ _ h => h) (Or.inl ⟨by rfl, ?_⟩) ?_ ?_
      rotate_left
      · intro w'
        go_simp
        with_reducible rfl
      rotate_left
      · simp only [Act.put, List.setIfInBounds_toArray, List.set_cons_zero, List.set_cons_succ, i64_w, i32_w]
        rfl
      refine pure_ (i := 9) (N := some 8) (v := ?_) (a' := ?_) #[true, true, true, true, true, true, true, true, true, true] rfl rfl (by kernel_rfl) (fun _ _ _ h => h) (Or.inl ⟨by rfl, ?_⟩) ?_ ?_
      rotate_left
      · intro w'
        go_simp
        with_reducible rfl
      rotate_left
      · simp only [Act.put, List.setIfInBounds_toArray, List.set_cons_zero, List.set_cons_succ, i64_w, i32_w]
        rfl
      refine done_ (by kernel_rfl) ?_
      have HG4 := Aside0.mk hg4
      have HB4 := Aside0.mk hb4
      clear hg4 hb4
      go_wp2
      go_roundg (gk - 1)
      case measure => have := HQ.out.2.2.1; omega
      case rel =>
        refine ⟨k + j, ?_, ⟨HJ1.out.2.1, fun _ => by have := HJ1.out.1; omega, by have := HQ.out.2.2.1; have := HJ1.out; omega, by rw [Nat.mul_add]; exact HG4.out.out, HB4.out⟩⟩
        rw [show wrap64 ((k : Int) + (j : Int)) = ((k + j : Nat) : Int) from by have := HJ1.out; have := HN.out; unfold wrap64; omega]
    · have e_ : k = n := by have := HQ.out.1; omega
      subst e_
      have hdec : decide ((k : Int) < (k : Int)) = false := decide_eq_false (by omega)
      have hdec2 : decide (k < k) = false := decide_eq_false hlt
      clear hlt
      go_wp2_with fail
      go_ret
      exact ⟨_, rfl, Nat.le_refl _, HQ.out.2.2.2.1, HQ.out.2.2.2.2⟩
end Go.Proofs.Ytchcbncelckgeaa.Lv
