/- Moves side by side: Order walked. -/
import Derived.Test.YtchcbncelckgeaaMovesWk
import Derived.Lib.SliceRun
import Derived.Deep.RegionLaw
import Derived.Test.YtchcbncelckgeaaPV2
set_option linter.unusedVariables false
set_option linter.unusedSimpArgs false
namespace Go.Proofs.Ytchcbncelckgeaa.Mvs
open Go.RowKit Go.Proofs.YtchcbncelckgeaaW.PrintWords Go.Proofs.YtchcbncelckgeaaW.PrintLast Go.Proofs.YtchcbncelckgeaaW.PrintMore Go.Proofs.Ytchcbncelckgeaa.PV Go.Proofs.Ytchcbncelckgeaa.Hnd

def cells2 (l : List Mv) : List Value := l.flatMap (fun m => [.int .i64 m.f0, .int .i64 m.f1])
abbrev MR (W : World) (B g cap : Nat) (n : Nat) (xs : List Mv) : Prop := Kd.R k89 89 W B (fun _ => True) (.slice (some ⟨g, 0, none⟩) n cap) xs
theorem MR.len {W : World} {B g cap n : Nat} {xs : List Mv} (h : MR W B g cap n xs) : n = xs.length ∧ n ≤ cap := ⟨(Kd.R_reads' h).1, (Kd.R_reads' h).2.1⟩
theorem put_R {B g cap n : Nat} : ∀ (zs : List Mv) (i : Nat) (xs : List Mv) (W : World), MR W B g cap n xs → i + zs.length ≤ n → MR (W.setCells g (i * 2) (cells2 zs)) B g cap n (xs.take i ++ zs ++ xs.drop (i + zs.length)) ∧ W.grownBy (W.setCells g (i * 2) (cells2 zs)) (some g) := by
  intro zs
  induction zs with
  | nil =>
    intro i xs W h hi
    have e : xs.take i ++ ([] : List Mv) ++ xs.drop (i + ([] : List Mv).length) = xs := by simp
    rw [e]
    exact ⟨h, ⟨rfl, rfl, rfl, Nat.le_refl _, fun _ _ _ => rfl⟩⟩
  | cons z zs ih =>
    intro i xs W h hi
    simp only [List.length_cons] at hi
    have hl := h.len.1
    obtain ⟨c, hc1, _, hc3, _⟩ := Kd.R_elem h z89 (i : Int) (by omega) (by omega)
    have hs := Kd.R_seg (okp := fun _ => False) h (i : Int) (by omega) (by omega) (c := c) (seg := [.int .i64 z.f0, .int .i64 z.f1]) (j := 0) hc1 (by simpa using hc3) (show 0 + 2 ≤ 2 by omega) (x' := z) (by
      have hcl : c.length = 2 := hc1
      have : c.take 0 ++ [.int .i64 z.f0, .int .i64 z.f1] ++ c.drop (0 + [Value.int .i64 z.f0, .int .i64 z.f1].length) = [.int .i64 z.f0, .int .i64 z.f1] := by
        simp [List.drop_eq_nil_of_le (show c.length ≤ 2 by omega)]
      rw [this]
      exact k89_mkM W B _ z) (fun k hk => hk.elim)
    have e2 : (k89).sz = 2 := rfl
    rw [e2, Int.toNat_natCast, Nat.add_zero] at hs
    obtain ⟨h1, g1⟩ := hs
    obtain ⟨h2, g2⟩ := ih (i + 1) (xs.set i z) _ h1 (by omega)
    have ew : W.setCells g (i * 2) (cells2 (z :: zs)) = (W.setCells g (i * 2) [.int .i64 z.f0, .int .i64 z.f1]).setCells g ((i + 1) * 2) (cells2 zs) := by
      have : (i + 1) * 2 = i * 2 + 1 + 1 := by omega
      rw [this]; rfl
    have el : (xs.set i z).take (i + 1) ++ zs ++ (xs.set i z).drop (i + 1 + zs.length) = xs.take i ++ (z :: zs) ++ xs.drop (i + (z :: zs).length) := by
      have hlt : i < xs.length := by omega
      rw [List.take_set, List.drop_set_of_lt (by omega), List.length_cons, show i + (zs.length + 1) = i + 1 + zs.length by omega, List.take_succ_eq_append_getElem hlt, List.set_append_right _ _ (by simp; omega)]
      simp [List.length_take, Nat.min_eq_left (show i ≤ xs.length by omega)]
    rw [ew, ← el]
    exact ⟨h2, ⟨g2.os.trans g1.os, g2.tape.trans g1.tape, g2.output.trans g1.output, Nat.le_trans g1.size g2.size, fun k hk hne => (g2.block k (Nat.lt_of_lt_of_le hk g1.size) hne).trans (g1.block k hk hne)⟩⟩
theorem cells2_zeros (m : Nat) : cells2 (List.replicate m ⟨0, 0⟩) = List.replicate (m * 2) (.int .i64 0) := by
  induction m with
  | zero => rfl
  | succ m ih =>
    rw [List.replicate_succ]
    show Value.int .i64 0 :: Value.int .i64 0 :: cells2 (List.replicate m ⟨0, 0⟩) = _
    rw [ih, show (m + 1) * 2 = m * 2 + 1 + 1 by omega, List.replicate_succ, List.replicate_succ]
/-- 'clear' of moves. -/
theorem run_clear2 (w : World) (ty : TypeId) (b o n c : Nat) (hn : 0 < n) (hc : ∀ j, j < n * 2 → (w.cell? ⟨b, o + j, none⟩).isSome = true) (hf : ∀ j, j < n * 2 → w.frozen? ⟨b, o + j, none⟩ = false) :
    (Builtin.clear_ #[85] ty #[.slice (some ⟨b, o, none⟩) n c]).run Try.prog w = .ok (.tuple #[]) (w.setCells b o (cells2 (List.replicate n ⟨0, 0⟩))) := by
  have hv : ∀ w, (zeroValue 89).run Try.prog w = .ok (.agg #[.int .i64 0, .int .i64 0]) w := fun w => by kernel_rfl
  have hzc : (Builtin.zeroCells (Value.agg #[.int .i64 0, .int .i64 0]).cells n).toList = List.replicate (n * 2) (.int .i64 0) := by
    simp [Builtin.zeroCells, Value.cells]
    apply List.ext_getElem
    · simp
    · intro i h1 h2
      simp
      rcases Nat.mod_two_eq_zero_or_one i with h | h <;> simp [h]
  have hst := run_storeCells_cells (P := Try.prog) b o (List.replicate (n * 2) (.int .i64 0)) 0 w (by simpa using hc) (by simpa using hf) (by intro v hv'; rw [List.eq_of_mem_replicate hv']; rfl)
  simp only [Nat.add_zero] at hst
  obtain ⟨m, rfl⟩ : ∃ m, n = m + 1 := ⟨n - 1, by omega⟩
  rw [cells2_zeros]
  simp [Builtin.clear_, run_underlying Try.underlying85, hv, hzc, hst]
theorem cells2_get : ∀ (l : List Mv) (t : Nat), (cells2 l)[t]? = (l[t / 2]?).map (fun m => if t % 2 = 0 then Value.int .i64 m.f0 else Value.int .i64 m.f1) := by
  intro l
  induction l with
  | nil => intro t; simp [cells2]
  | cons m l ih =>
    intro t
    show (Value.int .i64 m.f0 :: Value.int .i64 m.f1 :: cells2 l)[t]? = _
    match t with
    | 0 => rfl
    | 1 => rfl
    | t + 2 =>
      rw [List.getElem?_cons_succ, List.getElem?_cons_succ, ih t, show (t + 2) / 2 = t / 2 + 1 by omega, List.getElem?_cons_succ, show (t + 2) % 2 = t % 2 by omega]
theorem cells2_len (l : List Mv) : (cells2 l).length = l.length * 2 := by
  induction l with
  | nil => rfl
  | cons m l ih => show (cells2 l).length + 1 + 1 = (l.length + 1) * 2; omega
theorem cells2_drop (l : List Mv) (k t : Nat) : (cells2 (l.drop k))[t]? = (cells2 l)[k * 2 + t]? := by
  rw [cells2_get, cells2_get, List.getElem?_drop, show (k * 2 + t) / 2 = k + t / 2 by omega, show (k * 2 + t) % 2 = t % 2 by omega]
theorem cells2_one (l : List Mv) : ∀ u ∈ cells2 l, u.oneCell' = true := by
  intro u hu
  obtain ⟨m, _, h⟩ := List.mem_flatMap.1 hu
  simp at h
  rcases h with rfl | rfl <;> rfl
theorem MR.cell {W : World} {B g cap n : Nat} {xs : List Mv} (h : MR W B g cap n xs) : ∀ t u, (cells2 xs)[t]? = some u → W.cell? ⟨g, t, none⟩ = some u := by
  intro t u hu
  have hl := h.len.1
  rw [cells2_get] at hu
  obtain ⟨m, hm, e⟩ := Option.map_eq_some_iff.1 hu
  have hlt : t / 2 < xs.length := (List.getElem?_eq_some_iff.1 hm).1
  obtain ⟨c, hc1, hc2, hc3, _⟩ := Kd.R_elem h z89 ((t / 2 : Nat) : Int) (by omega) (by omega)
  have e2 : (k89).sz = 2 := rfl
  rw [e2, Int.toNat_natCast] at hc3
  have hc := k89_openM hc2
  rw [Int.toNat_natCast, List.getD_eq_getElem?_getD, hm] at hc
  simp only [Option.getD_some] at hc
  subst hc
  subst e
  have := hc3 (t % 2) (if t % 2 = 0 then Value.int .i64 m.f0 else Value.int .i64 m.f1) (by
    rcases Nat.mod_two_eq_zero_or_one t with h_ | h_ <;> rw [h_] <;> rfl)
  rwa [show t / 2 * 2 + t % 2 = t by omega] at this
theorem MR.loose {W : World} {B g cap n : Nat} {xs : List Mv} (h : MR W B g cap n xs) (hp : 0 < n) : ∀ t, W.frozen? ⟨g, t, none⟩ = false := by
  intro t
  have hl := h.len.1
  obtain ⟨g', cap', e, _, _, cells, hc⟩ := Kd.R_form h (by omega)
  injection e with e1 e2 e3
  injection e1 with e1
  injection e1 with e1
  subst e1
  exact blk_frozen hc t
theorem MR.some_ {W : World} {B g cap n : Nat} {xs : List Mv} (h : MR W B g cap n xs) {t : Nat} (ht : t < n * 2) : (W.cell? ⟨g, t, none⟩).isSome = true := by
  have hl := h.len.1
  have hlt : t < (cells2 xs).length := by rw [cells2_len]; omega
  rw [h.cell t _ (List.getElem?_eq_getElem hlt)]; rfl
theorem erase_form {l : List Mv} {i : Nat} (hi : i < l.length) : (l.take i ++ l.drop (i + 1) ++ l.drop (i + (l.drop (i + 1)).length)).take (l.length - 1) = l.eraseIdx i := by
  rw [List.eraseIdx_eq_take_drop_succ, List.take_append_of_le_length (by simp; omega), List.take_of_length_le (by simp; omega)]
set_option maxHeartbeats 8000000 in
set_option maxRecDepth 100000 in
theorem delete_calls (W : World) (B g cap i j : Nat) (l : List Mv) (h : MR W B g cap l.length l) (hi : i < l.length) (hj : j = i + 1) :
    Calls Try.prog 58 #[.slice (some ⟨g, 0, none⟩) l.length cap, .int .i64 (i : Int), .int .i64 (j : Int)] W fun e w' => e = .returned (.slice (some ⟨g, 0, none⟩) (l.length - 1) cap) ∧ MR w' B g cap (l.length - 1) (l.eraseIdx i) ∧ W.grownBy w' (some g) := by
  have hcap := h.len.2
  obtain ⟨n, hn⟩ : ∃ n, n = l.length := ⟨_, rfl⟩
  rw [← hn] at h hi hcap ⊢
  obtain ⟨news, hnews⟩ : ∃ news, news = cells2 (l.drop j) := ⟨_, rfl⟩
  have hlen : news.length = (n - j) * 2 := by rw [hnews, cells2_len, List.length_drop, hn]
  have hsrc0 : ∀ t u, news[t]? = some u → W.drew.cell? ⟨g, j * 2 + t, none⟩ = some u := fun t u hu => h.cell _ _ (by rw [hnews, cells2_drop] at hu; exact hu)
  obtain ⟨A, hA, hsrc⟩ : ∃ A : Addr, (if cap = j then some (⟨g, 0, none⟩ : Addr) else some ⟨g, j * 2, none⟩) = some A ∧ Aside0 (∀ t u, news[t]? = some u → W.drew.cell? (A.add t) = some u) := by
    by_cases hc : cap = j
    · refine ⟨⟨g, 0, none⟩, by simp [hc], ⟨fun t u hu => ?_⟩⟩
      have h0 : news.length = 0 := by rw [hlen]; omega
      rw [List.length_eq_zero_iff.1 h0] at hu
      simp at hu
    · refine ⟨⟨g, j * 2, none⟩, by simp [hc], ⟨fun t u hu => ?_⟩⟩
      have := hsrc0 t u hu
      rw [show (⟨g, j * 2, none⟩ : Addr).add t = ⟨g, j * 2 + t, none⟩ from by unfold Addr.add; split <;> simp_all]
      exact this
  have s1 := Aside0.mk hlen
  have s2 : Aside0 (∀ u ∈ news, u.oneCell' = true) := ⟨by rw [hnews]; exact cells2_one _⟩
  have s3 : Aside0 (∀ t, t < news.length → (W.drew.cell? ⟨g, 0 + i * 2 + t, none⟩).isSome = true ∧ W.drew.frozen? ⟨g, 0 + i * 2 + t, none⟩ = false) := ⟨fun t ht => by
    rw [Nat.zero_add]
    exact ⟨h.some_ (by rw [hlen] at ht; omega), h.loose (by omega) _⟩⟩
  obtain ⟨i0, hi0, hi1⟩ := Option.map_eq_some_iff.1 info89
  have hi2 : i0.size = 2 := congrArg (fun z => z.2.1) hi1
  have hput := put_R (l.drop j) i l W.drew (Kd.R_drew h) (by rw [List.length_drop]; omega)
  obtain ⟨W1, hW1⟩ : ∃ W1, W1 = W.drew.setCells g (0 + i * 2) news := ⟨_, rfl⟩
  have hW1' : W1 = W.drew.setCells g (i * 2) (cells2 (l.drop j)) := by rw [hW1, hnews, Nat.zero_add]
  rw [← hW1'] at hput
  obtain ⟨hR1, hG1⟩ := hput
  obtain ⟨m, hm⟩ : ∃ m, m = n - 1 := ⟨_, rfl⟩
  have hclr := fun ty => run_clear2 W1 ty g (m * 2) (n - m) (cap - m) (by omega) (fun t ht => hR1.some_ (by omega)) (fun t ht => hR1.loose (by omega) _)
  obtain ⟨hR2, hG2⟩ := put_R (List.replicate (n - m) ⟨0, 0⟩) m _ W1 hR1 (by simp; omega)
  have hR3 := Kd.R_take hR2 (m := m) (by rw [← hR2.len.1]; omega)
  have HE : Aside0 (((l.take i ++ l.drop j ++ l.drop (i + (l.drop j).length)).take m ++ List.replicate (n - m) (⟨0, 0⟩ : Mv) ++ (l.take i ++ l.drop j ++ l.drop (i + (l.drop j).length)).drop (m + (List.replicate (n - m) (⟨0, 0⟩ : Mv)).length)).take m = l.eraseIdx i) := ⟨by
    have hx : ((l.take i ++ l.drop j ++ l.drop (i + (l.drop j).length)).take m).length = m := by
      rw [List.length_take, ← hR1.len.1]; omega
    rw [List.append_assoc, List.take_append_of_le_length (by omega), List.take_of_length_le (by omega), hm, hn, hj]
    exact erase_form (by omega)⟩
  have HR3 := Aside0.mk hR3
  have HG : Aside0 (W.grownBy (W1.setCells g (m * 2) (cells2 (List.replicate (n - m) ⟨0, 0⟩))) (some g)) := ⟨⟨hG2.os.trans hG1.os, hG2.tape.trans hG1.tape, hG2.output.trans hG1.output, Nat.le_trans hG1.size hG2.size, fun k hk hne => (hG2.block k (Nat.lt_of_lt_of_le hk hG1.size) hne).trans (hG1.block k hk hne)⟩⟩
  have HW := Aside0.mk hW1
  have hic : i ≤ cap := by omega
  have hjc : j ≤ cap := by omega
  have hjn : j ≤ n := by omega
  have hij : i ≤ j := by omega
  have hne : ((i : Int) == (j : Int)) = false := by simp; omega
  have hne2 : (i == j) = false := by simp; omega
  have HNJ : Aside0 (i + (n - j) = m) := ⟨by omega⟩
  have HM := Aside0.mk hm
  have hcm : (cap = m) = False := eq_false (by omega)
  have hp4 : ((m : Int) ≤ (n : Int)) = True := eq_true (by omega)
  have hp5 : ((n : Int) ≤ (cap : Int)) = True := eq_true (by omega)
  have hmn : m ≤ n := by omega
  have hp1 : ((j : Int) ≤ (n : Int)) = True := eq_true (by omega)
  have hp2 : ((i : Int) ≤ (j : Int)) = True := eq_true (by omega)
  have hp3 : ((i : Int) ≤ (cap : Int)) = True := eq_true (by omega)
  clear hR1 hG1 hR2 hG2 hR3 hW1 hW1' hnews hlen hsrc0 h hi1 hn hj hm
  go_enter Try.func58, Try.ntmps58
  go_wp2_with fail
  refine start_ (n := 8) (S := fun w' => True) (ds := []) #[false, false, false, false, false, false, false, false] (by kernel_rfl) rfl rfl trivial (fun hHeld => ?_)
  refine pure_ (i := 0) (N := some 20) (v := ?_) (a' := ?_) #[true, false, false, false, false, false, false, false] rfl rfl (by kernel_rfl) (fun _ _ _ h => h) (Or.inl ⟨by rfl, ?_⟩) ?_ ?_
  rotate_left
  · intro w'
    go_simp
    with_reducible rfl
  rotate_left
  · simp only [Act.put, List.setIfInBounds_toArray, List.set_cons_zero, List.set_cons_succ, i64_w, i32_w]
    rfl
  refine pure_ (i := 1) (N := some 21) (v := ?_) (a' := ?_) #[true, true, false, false, false, false, false, false] rfl rfl (by kernel_rfl) (fun _ _ _ h => h) (Or.inl ⟨by rfl, ?_⟩) ?_ ?_
  rotate_left
  · intro w'
    go_simp
    with_reducible rfl
  rotate_left
  · simp only [Act.put, List.setIfInBounds_toArray, List.set_cons_zero, List.set_cons_succ, i64_w, i32_w]
    rfl
  refine pure_ (i := 2) (N := some 22) (v := ?_) (a' := ?_) #[true, true, true, false, false, false, false, false] rfl rfl (by kernel_rfl) (fun _ _ _ h => h) (Or.inl ⟨by rfl, ?_⟩) ?_ ?_
  rotate_left
  · intro w'
    go_simp
    with_reducible rfl
  rotate_left
  · simp only [Act.put, List.setIfInBounds_toArray, List.set_cons_zero, List.set_cons_succ, i64_w, i32_w]
    rfl
  refine pure_ (i := 3) (N := some 23) (v := ?_) (a' := ?_) #[true, true, true, true, false, false, false, false] rfl rfl (by kernel_rfl) (fun _ _ _ h => h) (Or.inl ⟨by rfl, ?_⟩) ?_ ?_
  rotate_left
  · intro w'
    go_simp
    with_reducible rfl
  rotate_left
  · simp only [Act.put, List.setIfInBounds_toArray, List.set_cons_zero, List.set_cons_succ, i64_w, i32_w]
    rfl
  refine pure_ (i := 4) (N := some 24) (v := ?_) (a' := ?_) #[true, true, true, true, true, false, false, false] rfl rfl (by kernel_rfl) (fun _ _ _ h => h) (Or.inl ⟨by rfl, ?_⟩) ?_ ?_
  rotate_left
  · intro w'
    go_simp
    with_reducible rfl
  rotate_left
  · simp only [Act.put, List.setIfInBounds_toArray, List.set_cons_zero, List.set_cons_succ, i64_w, i32_w]
    rfl
  refine pure_ (i := 5) (N := some 25) (v := ?_) (a' := ?_) #[true, true, true, true, true, true, false, false] rfl rfl (by kernel_rfl) (fun _ _ _ h => h) (Or.inl ⟨by rfl, ?_⟩) ?_ ?_
  rotate_left
  · intro w'
    go_simp
    with_reducible rfl
  rotate_left
  · simp only [Act.put, List.setIfInBounds_toArray, List.set_cons_zero, List.set_cons_succ, i64_w, i32_w]
    rfl
  refine one_ (i := 6) (N := some 26) #[true, true, true, true, true, true, true, false] rfl rfl (by kernel_rfl) (by decide) (fun K hK => ?_)
  refine step_append_room rfl (.tmp 22) (.tmp 25) 85 rfl 89 i0 2 Try.underlying85 hi0 hi2 g 0 i cap (by simp [Act.eval, Act.put]) A (n - j) (cap - j) news (by simp [Act.eval, Act.put, hA]) s1.out hsrc.out s2.out (by omega) s3.out ?_
  rw [← HW.out]
  refine hK.out _ _ trivial (fun hHeld => ?_)
  clear hK K
  refine norm_ (a' := ?_) ?_ ?_
  rotate_left
  · show Act.put _ (some 26) _ = _
    simp only [Act.put, List.setIfInBounds_toArray, List.set_cons_zero, List.set_cons_succ, i64_w, i32_w]
    rfl
  refine pure_ (i := 7) (N := some 0) (v := ?_) (a' := ?_) #[true, true, true, true, true, true, true, true] rfl rfl (by kernel_rfl) (fun _ _ _ h => h) (Or.inl ⟨by rfl, ?_⟩) ?_ ?_
  rotate_left
  · intro w'
    go_simp
    with_reducible rfl
  rotate_left
  · simp only [Act.put, List.setIfInBounds_toArray, List.set_cons_zero, List.set_cons_succ, i64_w, i32_w]
    rfl
  refine done_ (by kernel_rfl) ?_
  rw [HNJ.out]
  go_wp2
  go_ret
  rw [← HM.out, ← HE.out]
  exact ⟨rfl, HR3.out, HG.out⟩
/-! ### DeleteFunc -/
def keepM (m : Mv) : Bool := !(m.f0 == m.f1)
/-- What stands in a row that is being cleared of its idle moves. -/
structure Kept (l : List Mv) (i j : Nat) (cur : List Mv) : Prop where
  ij : i < j
  jn : j ≤ l.length
  len : cur.length = l.length
  front : cur.take i = (l.take j).filter keepM
  back : cur.drop j = l.drop j
theorem kept_get {l cur : List Mv} {i j : Nat} (h : Kept l i j cur) (hj : j < l.length) : cur[j]'(by have := h.len; omega) = l[j] := by
  have h1 : (cur.drop j)[0]'(by rw [List.length_drop]; have := h.len; omega) = (l.drop j)[0]'(by rw [List.length_drop]; omega) := by simp only [h.back]
  simpa using h1
theorem kept_drop {l cur : List Mv} {i j : Nat} (h : Kept l i j cur) (hj : j < l.length) (hx : keepM l[j] = false) : Kept l i (j + 1) cur := by
  refine ⟨by have := h.ij; omega, hj, h.len, ?_, ?_⟩
  · rw [List.take_succ_eq_append_getElem hj, List.filter_append, h.front]; simp [hx]
  · rw [← List.drop_drop, h.back, List.drop_drop]
theorem kept_keep {l cur : List Mv} {i j : Nat} (h : Kept l i j cur) (hj : j < l.length) (hx : keepM l[j] = true) : Kept l (i + 1) (j + 1) (cur.take i ++ [l[j]] ++ cur.drop (i + [l[j]].length)) := by
  have hij := h.ij
  have hl := h.len
  have ht : (cur.take i).length = i := by rw [List.length_take]; omega
  refine ⟨by omega, hj, ?_, ?_, ?_⟩
  · simp; omega
  · rw [List.take_append_of_le_length (by simp; omega), List.take_of_length_le (by simp; omega), List.take_succ_eq_append_getElem hj, List.filter_append, h.front]; simp [hx]
  · rw [List.drop_append, List.drop_of_length_le (by simp; omega), List.nil_append, List.drop_drop]
    have : (i + [l[j]].length + (j + 1 - (cur.take i ++ [l[j]]).length)) = j + 1 := by simp; omega
    rw [this, ← List.drop_drop, h.back, List.drop_drop]
theorem kept_first {l : List Mv} {i : Nat} (hi : i < l.length) (h : keepM l[i] = false) (hb : ∀ j (hj : j < l.length), j < i → keepM l[j] = true) : Kept l i (i + 1) l := by
  refine ⟨by omega, hi, rfl, ?_, rfl⟩
  rw [List.take_succ_eq_append_getElem hi, List.filter_append, List.filter_eq_self.2 (fun x hx => ?_)]
  · simp [h]
  · obtain ⟨j, hj, rfl⟩ := List.getElem_of_mem hx
    rw [List.length_take] at hj
    rw [List.getElem_take]
    exact hb j (by omega) (by omega)
theorem idxM_cases (p : Mv → Bool) (l : List Mv) : (idxM p l = -1 ∧ ∀ x ∈ l, p x = false) ∨ ∃ i, ∃ hi : i < l.length, idxM p l = (i : Int) ∧ p l[i] = true ∧ ∀ j (hj : j < l.length), j < i → p l[j] = false := by
  unfold idxM
  cases h : l.findIdx? p with
  | none =>
    rw [List.findIdx?_eq_none_iff] at h
    exact .inl ⟨rfl, fun x hx => by simpa using h x hx⟩
  | some i =>
    obtain ⟨hi, h1, h2⟩ := List.findIdx?_eq_some_iff_getElem.1 h
    exact .inr ⟨i, hi, rfl, h1, fun j hj hlt => by have := h2 j hlt; simpa using this⟩
set_option maxHeartbeats 8000000 in
set_option maxRecDepth 100000 in
theorem delf_calls (w : World) (B : Nat) (A : Option Addr) (c : Nat) (l : List Mv) (hR : Kd.R k89 89 w B (fun _ => True) (.slice A l.length c) l) (hz : l.length ≤ 60) (hBw : B ≤ w.heap.size) :
    Calls Try.prog 54 #[.slice A l.length c, .func (.func 56) #[] #[]] w fun e w' => ∃ v, e = .returned v ∧ Kd.R k89 89 w' B (fun _ => True) v (l.filter keepM) ∧ Below B w w' := by
  obtain ⟨_, hlc, hC⟩ := Kd.R_reads' hR
  have hcall := idx_calls 56 #[] (fun m => m.f0 == m.f1) (Go.Proofs.enters_of Try.func56 (by kernel_rfl) rfl) w A c l hC (fun W x _ => by have h_ := idle_calls W x; simpa using h_) (by omega)
  have HR := Aside0.mk hR
  have HBW := Aside0.mk hBw
  have HZ := Aside0.mk hz
  rcases idxM_cases (fun m => m.f0 == m.f1) l with ⟨e1, hall⟩ | ⟨i0, hi0, e1, hid, hbe⟩
  · rw [e1] at hcall
    have HCALL := Aside0.mk hcall
    have HF : Aside0 (l.filter keepM = l) := ⟨List.filter_eq_self.2 (fun x hx => by have h_ : (x.f0 == x.f1) = false := hall x hx; unfold keepM; rw [h_]; rfl)⟩
    clear hcall e1 hall hR hC hz
    go_enter Try.func54, Try.ntmps54
    go_wp2_with (go_at_call 71; refine HCALL.out.mono ?_; rintro e w' ⟨rfl, hb'⟩)
    go_ret
    refine ⟨_, rfl, ?_, below_cut hb' HBW.out⟩
    rw [HF.out]
    exact Kd.R_below HR.out hb'
  · obtain ⟨g, cap, ev, hBg, hgw, _⟩ := Kd.R_form hR (by omega)
    injection ev with ev1 ev2 ev3
    subst ev1
    subst ev3
    rw [e1] at hcall
    have HCALL := Aside0.mk hcall
    have HK0 := Aside0.mk (kept_first hi0 (by have h_ : (l[i0].f0 == l[i0].f1) = true := hid; unfold keepM; rw [h_]; rfl) (fun j hj h => by have h_ : (l[j].f0 == l[j].f1) = false := hbe j hj h; unfold keepM; rw [h_]; rfl))
    have HBG := Aside0.mk hBg
    have HLC := Aside0.mk hlc
    have HI0 := Aside0.mk hi0
    clear hcall e1 hid hbe hR hC hz hBg hgw hlc hi0
    have hi1 : ((i0 : Int) == -1) = false := by first | (simp; done) | (simp; omega)
    go_enter Try.func54, Try.ntmps54
    go_wp2_with (go_at_call 71; refine HCALL.out.mono ?_; rintro e w1 ⟨rfl, hb'⟩)
    have HR1 := Aside0.mk (Kd.R_below HR.out hb')
    have HB1 := Aside0.mk (below_cut hb' HBW.out)
    clear hb' hi1
    go_loopg [5, 6] l.length (fun kq v5 v6 W => ∃ (i j : Nat) (cur : List Mv), v5 = .int .i64 (i : Int) ∧ v6 = .int .i64 (j : Int) ∧ Aside0 (l.length - j ≤ kq) ∧ Aside0 (Kept l i j cur) ∧ Aside0 (MR W B g c l.length cur) ∧ Aside0 (Below B w W))
    case atStart => exact ⟨i0, i0 + 1, l, rfl, by first | rfl | (have := HZ.out; have := HI0.out; rw [show wrap64 ((i0 : Int) + 1) = ((i0 + 1 : Nat) : Int) from by unfold wrap64; omega]), ⟨by have := HI0.out; omega⟩, HK0, HR1, HB1⟩
    case round =>
      clear HK0 HR1 HB1
      obtain ⟨i, j, cur, rfl, rfl, HIQ, HK, HRW, HB⟩ := hrel
      by_cases hlt : j < l.length
      · have hi0 : (0 : Int) ≤ (j : Int) := by omega
        have hi1 : (j : Int) < (l.length : Int) := by omega
        have hcl := HK.out.len
        have hcj : j < cur.length := by omega
        obtain ⟨ad, ead, hx0, hx1⟩ := at_m (Kd.R_reads' HRW.out).2.2 j (by omega)
        injection ead with ead
        subst ead
        rw [getD_m hcj, kept_get HK.out hlt] at hx0 hx1
        simp only [add_plain] at hx0 hx1
        have hdec : decide ((j : Int) < (l.length : Int)) = true := decide_eq_true hi1
        have hdec2 : decide (j < l.length) = true := decide_eq_true hlt
        have HLT := Aside0.mk hlt
        have HKD : Aside0 (keepM l[j] = false → Kept l i (j + 1) cur) := ⟨fun h => kept_drop HK.out hlt h⟩
        have HKK : Aside0 (keepM l[j] = true → Kept l (i + 1) (j + 1) (cur.take i ++ [l[j]] ++ cur.drop (i + [l[j]].length))) := ⟨fun h => kept_keep HK.out hlt h⟩
        generalize l[j] = x at hx0 hx1 HKD HKK
        have hbx := below_alloc (Below.refl wr.heap.size wr) (Obj.cells #[.int .i64 x.f0, .int .i64 x.f1] 89)
        have HCX := Aside0.mk (idle_calls (wr.alloc (Obj.cells #[.int .i64 x.f0, .int .i64 x.f1] 89)) x)
        have HRX : Aside0 (MR (wr.alloc (Obj.cells #[.int .i64 x.f0, .int .i64 x.f1] 89)) B g c l.length cur) := ⟨Kd.R_below HRW.out hbx⟩
        have HBX : Aside0 (Below B w (wr.alloc (Obj.cells #[.int .i64 x.f0, .int .i64 x.f1] 89))) := ⟨HB.out.trans (below_cut hbx (Nat.le_trans HBW.out HB.out.size))⟩
        have HDX := Aside0.mk (heap_alloc_new wr (Obj.cells #[.int .i64 x.f0, .int .i64 x.f1] 89))
        unfold mvA at HCX
        clear hbx hcj hcl
        cases hq : (x.f0 == x.f1) with
        | true =>
          rw [hq] at HCX
          have HK2 := Aside0.mk (HKD.out (by unfold keepM; rw [hq]; rfl))
          clear hq
          go_wp2_with (go_at_call 56; refine HCX.out.mono ?_; rintro e w2 ⟨rfl, hb'⟩)
          go_roundg (l.length - (j + 1))
          case measure => have := HIQ.out; have := HLT.out; omega
          case rel => exact ⟨i, j + 1, cur, rfl, by first | rfl | (have := HLT.out; have := HZ.out; rw [show wrap64 ((j : Int) + 1) = ((j + 1 : Nat) : Int) from by unfold wrap64; omega]), ⟨Nat.le_refl _⟩, HK2, ⟨Kd.R_below HRX.out hb'⟩, ⟨HBX.out.trans (below_cut hb' (Nat.le_trans HBW.out HBX.out.size))⟩⟩
        | false =>
          rw [hq] at HCX
          have HK2 := Aside0.mk (HKK.out (by unfold keepM; rw [hq]; rfl))
          clear hq
          go_wp2_with fail
          refine HCX.out.mono ?_
          rintro e w2 ⟨rfl, hb'⟩
          have HR2 : Aside0 (MR w2 B g c l.length cur) := ⟨Kd.R_below HRX.out hb'⟩
          have HB2 : Aside0 (Below B w w2) := ⟨HBX.out.trans (below_cut hb' (Nat.le_trans HBW.out HBX.out.size))⟩
          have hd2 := blk_below HDX.out hb'
          have ht0 : w2.cell? ⟨wr.heap.size, 0, none⟩ = some (.int .i64 x.f0) := (blk_cell hd2 0).trans rfl
          have ht1 : w2.cell? ⟨wr.heap.size, 1, none⟩ = some (.int .i64 x.f1) := (blk_cell hd2 1).trans rfl
          have hij := HK.out.ij
          have hlt2 := HLT.out
          obtain ⟨u0, hs0⟩ := Option.isSome_iff_exists.1 (MR.some_ HR2.out (t := i * 2) (by omega))
          obtain ⟨u1, hs1⟩ := Option.isSome_iff_exists.1 (MR.some_ HR2.out (t := i * 2 + 1) (by omega))
          have hf0 := MR.loose HR2.out (by omega) (i * 2)
          have hf1 := MR.loose HR2.out (by omega) (i * 2 + 1)
          have hin0 : (0 : Int) ≤ (i : Int) := Int.natCast_nonneg _
          have hin1 : (i : Int) < (l.length : Int) := by omega
          clear hb' hd2 hij hlt2 hlt
          go_wp2
          have hput := put_R [x] i cur w2 HR2.out (by have h1_ := HK.out.ij; have h2_ := HLT.out; simp; omega)
          go_roundg (l.length - (j + 1))
          case measure => have := HIQ.out; have := HLT.out; omega
          case rel => exact ⟨i + 1, j + 1, _, by first | rfl | (have := HLT.out; have := HK.out.ij; have := HZ.out; rw [show wrap64 ((i : Int) + 1) = ((i + 1 : Nat) : Int) from by unfold wrap64; omega]), by first | rfl | (have := HLT.out; have := HZ.out; rw [show wrap64 ((j : Int) + 1) = ((j + 1 : Nat) : Int) from by unfold wrap64; omega]), ⟨Nat.le_refl _⟩, HK2, ⟨hput.1⟩, ⟨(HB2.out.setCell HBG.out _).setCell HBG.out _⟩⟩
      · have e_ : j = l.length := by have := HK.out.jn; omega
        subst e_
        have hdec : decide ((l.length : Int) < (l.length : Int)) = false := decide_eq_false (by omega)
        have hdec2 : decide (l.length < l.length) = false := decide_eq_false hlt
        have hil := HK.out.ij
        have hclr := fun ty => run_clear2 wr ty g (i * 2) (l.length - i) (c - i) (by omega) (fun t ht => MR.some_ HRW.out (by omega)) (fun t ht => MR.loose HRW.out (by omega) _)
        have hput := put_R (List.replicate (l.length - i) ⟨0, 0⟩) i cur wr HRW.out (by simp; omega)
        obtain ⟨hR2, hG2⟩ := hput
        have hR3 := Kd.R_take hR2 (m := i) (by rw [← hR2.len.1]; omega)
        have HE : Aside0 ((cur.take i ++ List.replicate (l.length - i) (⟨0, 0⟩ : Mv) ++ cur.drop (i + (List.replicate (l.length - i) (⟨0, 0⟩ : Mv)).length)).take i = l.filter keepM) := ⟨by
          have hx : (cur.take i).length = i := by rw [List.length_take, HK.out.len]; omega
          rw [List.append_assoc, List.take_append_of_le_length (by omega), List.take_of_length_le (by omega), HK.out.front, List.take_length]⟩
        have HR3 := Aside0.mk hR3
        have HB3 : Aside0 (Below B w (wr.setCells g (i * 2) (cells2 (List.replicate (l.length - i) ⟨0, 0⟩)))) := ⟨⟨hG2.os.trans HB.out.os, hG2.tape.trans HB.out.tape, hG2.output.trans HB.out.output, Nat.le_trans HB.out.size hG2.size, fun k hk => (hG2.block k (Nat.lt_of_lt_of_le hk (Nat.le_trans HBW.out HB.out.size)) (by have := HBG.out; intro e_; injection e_; omega)).trans (HB.out.block k hk)⟩⟩
        have hci : (c = i) = False := eq_false (by have := HLC.out; omega)
        have hp1 : ((i : Int) ≤ (l.length : Int)) = True := eq_true (by omega)
        have hp2 : ((i : Int) ≤ (c : Int)) = True := eq_true (by have := HLC.out; omega)
        have hp3 : i ≤ l.length := by omega
        have hp4 : i ≤ c := by have := HLC.out; omega
        clear hlt hR2 hG2 hR3 hil
        go_wp2
        go_ret
        exact ⟨_, rfl, by rw [← HE.out]; exact HR3.out, HB3.out⟩
/-! ### Order -/
def orderR (l : List Mv) (s : Int) : List Mv := if chkM l s = 0 then ordL s (2 * l.length + 2) (l.filter keepM) else []
def muM (l : List Mv) : Nat := 2 * l.length + (if freeI l = none then 1 else 0)
theorem chk_good {l : List Mv} {s : Int} (h : chkM l s = 0) : l.length ≤ 60 ∧ distinct l ∧ (∀ m ∈ l, m.f0 ≠ s ∧ m.f1 ≠ s) := by
  unfold chkM at h
  split at h
  · cases h
  · rename_i h1
    split at h
    · cases h
    · rename_i h2
      split at h
      · cases h
      · rename_i h3
        refine ⟨by omega, ?_, fun m hm => ?_⟩
        · unfold distinct
          rw [List.pairwise_iff_getElem]
          intro i j hi hj hij e
          apply h2
          refine List.any_eq_true.2 ⟨j, List.mem_range.2 hj, List.any_eq_true.2 ⟨l[i], ?_, ?_⟩⟩
          · have : i < (l.take j).length := by rw [List.length_take]; omega
            have h_ := List.getElem_mem this
            rwa [List.getElem_take] at h_
          · rw [getD_m hj, e]; simp
        · have : (l.any fun x => x.f0 == s || x.f1 == s) = false := by simpa using h3
          have := List.any_eq_false.1 this m hm
          simpa using this
theorem chk_start {l : List Mv} {s : Int} (h : chkM l s = 0) : Good s (l.filter keepM) := by
  obtain ⟨_, h1, h2⟩ := chk_good h
  refine ⟨h1.sublist List.filter_sublist, fun m hm => (h2 m (List.mem_filter.1 hm).1).1, fun m hm => ?_⟩
  have := (List.mem_filter.1 hm).2
  unfold keepM at this
  simpa using this
theorem mu_pos {l : List Mv} (h : l ≠ []) : 2 ≤ muM l := by
  unfold muM
  have : 0 < l.length := List.length_pos_iff.2 h
  omega
theorem mu_free {s : Int} {l : List Mv} {i : Nat} (hf : freeI l = some i) (hi : i < l.length) : muM (l.eraseIdx i) < muM l := by
  have := erase_len hi
  unfold muM
  rw [hf, if_neg (show ¬ (some i = none) from by simp)]
  split <;> omega
theorem mu_turn {s : Int} {m : Mv} {l : List Mv} (h : Good s (m :: l)) (hf : freeI (m :: l) = none) : muM ((m :: l).map (turnM m.f0 s)) < muM (m :: l) := by
  have hm0 : m ∈ m :: l := List.mem_cons_self
  have hfree : freeI ((m :: l).map (turnM m.f0 s)) ≠ none := by
    intro hn
    obtain ⟨x, hx, _, e⟩ := freeI_none hn (turnM m.f0 s m) (List.mem_map.2 ⟨m, hm0, rfl⟩)
    rw [turn_f0] at e
    exact turn_unread (h.sp m hm0) x hx e
  unfold muM
  rw [hf, if_pos rfl, if_neg hfree, List.length_map]
  omega
theorem R_away {W W1 : World} {B : Nat} {v u : Value} {xs : List Mv} (h : Kd.R k89 89 W B (fun _ => True) v xs) (hg : W.grownBy W1 u.ownBlock) (hne : ∀ k, v.ownBlock = some k → some k ≠ u.ownBlock) : Kd.R k89 89 W1 B (fun _ => True) v xs := by
  have h1 : Kd.R k89 89 W B (fun k => some k ≠ u.ownBlock) v xs := ⟨fun k hk => hne k hk, h.2.imp_ (fun x cs hp => by
    have := k89_openM hp
    rw [this]
    exact k89_mkM W B _ x)⟩
  exact Kd.R_mono (Kd.R_grown h1 hg (fun k hk => hk)) (fun _ _ => trivial)
theorem clone_f {l : List Mv} (hl : l.length ≤ 60) : api_RMove_55.f l = some l := by
  unfold api_RMove_55.f
  simp
  omega
def half (f : Mv → Mv) (l : List Mv) (i : Nat) : List Mv := (l.take i).map f ++ l.drop i
theorem half_len (f : Mv → Mv) (l : List Mv) (i : Nat) : (half f l i).length = l.length := by unfold half; rw [List.length_append, List.length_map, List.length_take, List.length_drop]; omega
theorem half_get {f : Mv → Mv} {l : List Mv} {i : Nat} (hi : i < l.length) : (half f l i).getD i z89 = l[i] := by
  unfold half
  have ht : ((l.take i).map f).length = i := by rw [List.length_map, List.length_take]; omega
  rw [List.getD_eq_getElem?_getD, List.getElem?_append_right (by omega), ht, Nat.sub_self, List.getElem?_drop, Nat.add_zero, List.getElem?_eq_getElem hi]; rfl
theorem half_next {f : Mv → Mv} {l : List Mv} {i : Nat} (hi : i < l.length) : half f l (i + 1) = (half f l i).set i (f l[i]) := by
  unfold half
  have ht : ((l.take i).map f).length = i := by rw [List.length_map, List.length_take]; omega
  rw [List.set_append_right _ _ (by omega), ht, Nat.sub_self, List.take_succ_eq_append_getElem hi, List.map_append, List.drop_eq_getElem_cons hi]
  simp only [List.set_cons_zero, List.map_cons, List.map_nil, List.append_assoc, List.singleton_append]
theorem half_all (f : Mv → Mv) (l : List Mv) : half f l l.length = l.map f := by unfold half; simp
theorem half_none (f : Mv → Mv) (l : List Mv) : half f l 0 = l := by unfold half; simp
theorem set_same {l : List Mv} {i : Nat} {x : Mv} (hi : i < l.length) (h : l.getD i z89 = x) : l.set i x = l := by
  subst h
  rw [getD_m hi]
  exact List.set_getElem_self hi
theorem put1 {W : World} {B g cap n : Nat} {cur : List Mv} {i : Nat} {x : Mv} (h : MR W B g cap n cur) (hi : i < n) (hx : cur.getD i z89 = x) (s : Int) : MR (W.setCell ⟨g, i * 2 + 1, none⟩ (.int .i64 s)) B g cap n (cur.set i ⟨x.f0, s⟩) ∧ W.grownBy (W.setCell ⟨g, i * 2 + 1, none⟩ (.int .i64 s)) (some g) := by
  have hl := h.len.1
  obtain ⟨c, hc1, hc2, hc3, _⟩ := Kd.R_elem h z89 (i : Int) (by omega) (by omega)
  rw [Int.toNat_natCast, hx] at hc2
  have hcc := k89_openM hc2
  have hs := Kd.R_seg (okp := fun _ => False) h (i : Int) (by omega) (by omega) (c := c) (seg := [.int .i64 s]) (j := 1) hc1 (by simpa using hc3) (show 1 + 1 ≤ 2 by omega) (x' := ⟨x.f0, s⟩) (by
    subst hcc
    exact k89_mkM W B _ ⟨x.f0, s⟩) (fun k hk => hk.elim)
  have e2 : (k89).sz = 2 := rfl
  rw [e2, Int.toNat_natCast] at hs
  exact hs
set_option maxHeartbeats 16000000 in
set_option maxRecDepth 100000 in
theorem order_calls (w : World) (A : Option Addr) (c : Nat) (l : List Mv) (s : Int) (hl : Kd.C k89 w A l.length l) (hc : l.length ≤ c) :
    Calls Try.prog 33 #[.slice A l.length c, .int .i64 s] w fun e w' => ∃ v, e = .returned (.tuple #[v, .int .i64 (chkM l s)]) ∧ Kd.R k89 89 w' w.heap.size (fun _ => True) v (orderR l s) ∧ Below w.heap.size w w' := by
  have HL := Aside0.mk hl
  have HC := Aside0.mk hc
  have HCHK := Aside0.mk (mcheck_calls w A c l s hl hc)
  clear hl hc
  generalize hres : orderR l s = res
  have HRES := Aside0.mk hres
  clear hres
  by_cases he : chkM l s = 0
  rotate_left
  · have hd : (chkM l s != 0) = true := by simp [he]
    have hd2 : decide (chkM l s = 0) = false := decide_eq_false he
    have HN : Aside0 (res = []) := ⟨by rw [← HRES.out]; unfold orderR; rw [if_neg he]⟩
    generalize chkM l s = E at hd hd2 HCHK
    clear he
    go_enter Try.func33, Try.ntmps33
    go_wp2_with (go_at_call 53; refine HCHK.out.mono ?_; rintro e w' ⟨rfl, hb'⟩)
    go_ret2
    rw [HN.out]
    exact ⟨_, rfl, Kd.R_nil _ _ _ _ _, hb'⟩
  · have HN : Aside0 (ordL s (2 * l.length + 2) (l.filter keepM) = res) := ⟨by rw [← HRES.out]; unfold orderR; rw [if_pos he]⟩
    have HG := Aside0.mk (chk_start he)
    have H60 := Aside0.mk (chk_good he).1
    rw [he] at HCHK
    rw [he]
    clear he
    have HU85 := Try.underlying85
    go_enter Try.func33, Try.ntmps33
    go_wp2_with fail
    refine HCHK.out.mono ?_
    rintro e w1 ⟨rfl, hb1⟩
    have HB1 := Aside0.mk hb1
    have HCL := Aside0.mk (api_RMove_55.calls A c l l w1 (Kd.C_below HL.out hb1) HC.out (clone_f H60.out))
    clear hb1 HCHK
    go_wp2_with fail
    refine HCL.out.mono ?_
    rintro e w2 ⟨v2, rfl, hr2, hb2⟩
    obtain ⟨A2, c2, rfl⟩ := Kd.R_slice hr2
    have HB2 : Aside0 (Below w.heap.size w w2) := ⟨HB1.out.trans (below_cut hb2 HB1.out.size)⟩
    have HDF := Aside0.mk (delf_calls w2 w.heap.size A2 c2 l (Kd.R_lower hr2 HB1.out.size) H60.out HB2.out.size)
    clear hr2 hb2 HCL
    go_wp2_with fail
    refine HDF.out.mono ?_
    rintro e w3 ⟨v3, rfl, hr3, hb3⟩
    obtain ⟨A3, c3, rfl⟩ := Kd.R_slice hr3
    have HB3 : Aside0 (Below w.heap.size w w3) := ⟨HB2.out.trans hb3⟩
    have HR3 := Aside0.mk hr3
    have HMU : Aside0 (muM (l.filter keepM) < 2 * l.length + 2 + 1) := ⟨by
      have : (l.filter keepM).length ≤ l.length := List.length_filter_le _ _
      unfold muM; split <;> omega⟩
    clear hr3 hb3 HDF
    go_wp2_with fail
    go_loopg [7, 8] (2 * l.length + 2) (fun kq v7 v8 W => ∃ (k : Nat) (left outl : List Mv), Aside0 (k ≤ kq) ∧ Aside0 (Good s left) ∧ Aside0 (muM left < k + 1) ∧ Aside0 (outl ++ ordL s k left = res) ∧ Aside0 (outl.length + k ≤ 130) ∧ Aside0 (left.length ≤ 60) ∧ Aside0 (Kd.R k89 89 W w.heap.size (fun _ => True) v7 left) ∧ Aside0 (Kd.R k89 89 W w.heap.size (fun _ => True) v8 outl) ∧ Aside0 (∀ k, v8.ownBlock = some k → some k ≠ v7.ownBlock) ∧ Aside0 (Below w.heap.size w W))
    case atStart => exact ⟨2 * l.length + 2, l.filter keepM, [], ⟨Nat.le_refl _⟩, HG, HMU, ⟨by rw [← HN.out]; rfl⟩, ⟨by have := H60.out; simp; omega⟩, ⟨Nat.le_trans (List.length_filter_le _ _) H60.out⟩, HR3, ⟨Kd.R_nil _ _ _ _ _⟩, ⟨fun k hk => by simp [Value.ownBlock] at hk⟩, HB3⟩
    case round =>
      clear HB3 HR3 HMU HG HN
      obtain ⟨k, left, outl, HKQ, HG, HMU, HN, HOL, HLL, HR7, HR8, HNE, HB⟩ := hrel
      obtain ⟨A7, c7, e7⟩ := Kd.R_slice HR7.out
      subst e7
      obtain ⟨A8, c8, e8⟩ := Kd.R_slice HR8.out
      subst e8
      cases left with
      | nil =>
        have hd : decide (((([] : List Mv).length : Nat) : Int) > 0) = false := by simp
        have HF : Aside0 (outl = res) := ⟨by rw [← HN.out, ordL_nil, List.append_nil]⟩
        simp only [List.length_nil]
        go_wp2
        go_ret2
        exact ⟨_, rfl, by rw [← HF.out]; exact HR8.out, HB.out⟩
      | cons m t =>
        have hd : decide (((m :: t).length : Int) > 0) = true := decide_eq_true (by rw [List.length_cons]; omega)
        have hd2 : decide ((m :: t).length > 0) = true := decide_eq_true (by simp)
        have hmu := mu_pos (l := m :: t) (by simp)
        obtain ⟨k, rfl⟩ : ∃ q, k = q + 1 := ⟨k - 1, by have := HMU.out; omega⟩
        have HFR := Aside0.mk (free_calls wr A7 c7 (m :: t) (Kd.R_reads' HR7.out).2.2 (by have := HLL.out; omega))
        have hix : idxM (freeAt (m :: t)) (m :: t) = match freeI (m :: t) with | some i => (i : Int) | none => -1 := rfl
        cases hf : freeI (m :: t) with
        | some i =>
          rw [hf] at hix
          rw [hix] at HFR
          have hi := (freeI_some hf).1
          have hos := ordL_some (spare := s) (k := k) hf
          have HF : Aside0 ((outl ++ [(m :: t)[i]]) ++ ordL s k ((m :: t).eraseIdx i) = res) := ⟨by
            rw [← HN.out, hos, List.append_assoc]
            have : (m :: t).getD i m = (m :: t)[i] := by rw [List.getD_eq_getElem?_getD, List.getElem?_eq_getElem hi]; rfl
            rw [this, List.singleton_append]⟩
          have HMF := Aside0.mk (mu_free (s := s) hf hi)
          have HEL := Aside0.mk (erase_len hi)
          have hpos : 0 < (m :: t).length := by simp
          obtain ⟨g, cap, ev, hBg, hgw, _⟩ := Kd.R_form HR7.out hpos
          injection ev with ev1 ev2 ev3
          subst ev1
          subst ev3
          obtain ⟨ad, ead, hx0, hx1⟩ := at_m (Kd.R_reads' HR7.out).2.2 i hi
          injection ead with ead
          subst ead
          rw [getD_m hi] at hx0 hx1
          simp only [add_plain] at hx0 hx1
          have HX0 := Aside0.mk hx0
          have HX1 := Aside0.mk hx1
          generalize (m :: t)[i] = p at HX0 HX1 HF
          have HG2 := Aside0.mk (HG.out.erase i)
          have HGB := Aside0.mk hBg
          have HI := Aside0.mk hi
          generalize m :: t = left at HR7 HFR HF HMF HEL HI HG2 HLL HMU HG hd hd2 ⊢
          obtain ⟨j, hj⟩ : ∃ j, j = i + 1 := ⟨_, rfl⟩
          have hw : wrap64 ((i : Int) + 1) = (j : Int) := by have h1_ := HI.out; have h2_ := HLL.out; rw [hj]; unfold wrap64; omega
          have HJ := Aside0.mk hj
          clear hi hf hix hos hpos hx0 hx1 hBg hgw hmu hj
          go_wp2_with fail
          refine HFR.out.mono ?_
          rintro e w4 ⟨rfl, hb4⟩
          have hx0 := pw_cell_below hb4 HX0.out
          have hx1 := pw_cell_below hb4 HX1.out
          have hge : decide ((i : Int) ≥ 0) = true := decide_eq_true (Int.natCast_nonneg _)
          have hin0 : (0 : Int) ≤ (i : Int) := Int.natCast_nonneg _
          have hin1 : (i : Int) < (left.length : Int) := by have h1_ := HI.out; omega
          have HR74 : Aside0 (MR w4 w.heap.size g c7 left.length left) := ⟨Kd.R_below HR7.out hb4⟩
          have HR84 : Aside0 (Kd.R k89 89 w4 w.heap.size (fun _ => True) (.slice A8 outl.length c8) outl) := ⟨Kd.R_below HR8.out hb4⟩
          have HB4 : Aside0 (Below w.heap.size w w4) := ⟨HB.out.trans (below_cut hb4 HB.out.size)⟩
          have HGW : Aside0 (g < w4.heap.size) := ⟨Kd.R_lt HR74.out g rfl⟩
          clear hb4 HFR
          go_wp2_with (first | ((with_reducible refine gate_builtin (b := .append) (xs := #[.tmp 28, .tmp 33]) rfl ?_); refine Kd.R_append k89 (w0 := w) w.heap.size rfl (.tmp 28) (.tmp 33) 85 89 (.agg #[.int .i64 0, .int .i64 0]) 16 rfl HU85 info89 rfl (by decide) (by decide) (.slice A8 outl.length c8) outl p [.int .i64 p.f0, .int .i64 p.f1] (fun _ => True) (fun _ => False) rfl rfl (k89_mkM _ _ _ p) (fun _ hk => hk.elim) (fun _ _ => trivial) HR84.out HB4.out ?hbs ?hl ?_; (case hbs => exact HB4.out.size); (case hl => have h_ := HOL.out; omega); intro v5 w5 ho hb hg5 hat; have HR85 := Aside0.mk ho; have HB5 := Aside0.mk hb; have HG5 := Aside0.mk hg5; have HAT := Aside0.mk hat; clear ho hb hg5 hat))
          have HR75 : Aside0 (MR w5 w.heap.size g c7 left.length left) := ⟨R_away HR74.out HG5.out (fun k_ hk => by injection hk with hk; subst hk; exact fun e_ => HNE.out _ e_.symm rfl)⟩
          have HN5 : Aside0 (∀ k_, v5.ownBlock = some k_ → some k_ ≠ some g) := ⟨fun k_ hk => by
            rcases HAT.out with h_ | ⟨b_, h_, h2_⟩
            · rw [h_] at hk; exact HNE.out k_ hk
            · rw [h_] at hk; injection hk with hk; subst hk
              intro e_; injection e_ with e_
              have := HGW.out; omega⟩
          have HDL := Aside0.mk (delete_calls w5 w.heap.size g c7 i j left HR75.out HI.out HJ.out)
          refine HDL.out.mono ?_
          rintro e w6 ⟨rfl, hr6, hg6⟩
          have HR86 := Aside0.mk (R_away HR85.out hg6 (u := .slice (some ⟨g, 0, none⟩) 0 0) HN5.out)
          have HB6 : Aside0 (Below w.heap.size w w6) := ⟨⟨hg6.os.trans HB5.out.os, hg6.tape.trans HB5.out.tape, hg6.output.trans HB5.out.output, Nat.le_trans HB5.out.size hg6.size, fun k_ hk => (hg6.block k_ (Nat.lt_of_lt_of_le hk HB5.out.size) (by have := HGB.out; intro e_; injection e_; omega)).trans (HB5.out.block k_ hk)⟩⟩
          have HR76 := Aside0.mk hr6
          clear hr6 hg6 HDL hx0 hx1 hd hd2 hw hge hin0 hin1
          go_wp2
          go_roundg k
          case measure => have := HKQ.out; omega
          case rel => exact ⟨k, left.eraseIdx i, outl ++ [p], ⟨Nat.le_refl _⟩, HG2, ⟨by have h1_ := HMF.out; have h2_ := HMU.out; omega⟩, HF, ⟨by have := HOL.out; simp; omega⟩, ⟨by have h1_ := HEL.out; have h2_ := HLL.out; omega⟩, HR76, HR86, ⟨HN5.out⟩, HB6⟩
        | none =>
          rw [hf] at hix
          rw [hix] at HFR
          have hos := ordL_none (spare := s) (k := k) hf
          have HF : Aside0 ((outl ++ [⟨s, m.f0⟩]) ++ ordL s k ((m :: t).map (turnM m.f0 s)) = res) := ⟨by
            rw [← HN.out, hos, List.append_assoc, List.singleton_append]⟩
          have HMF := Aside0.mk (mu_turn HG.out hf)
          have hpos : 0 < (m :: t).length := by rw [List.length_cons]; omega
          obtain ⟨g, cap, ev, hBg, hgw, _⟩ := Kd.R_form HR7.out hpos
          injection ev with ev1 ev2 ev3
          subst ev1
          subst ev3
          obtain ⟨ad, ead, hx0, hx1⟩ := at_m (Kd.R_reads' HR7.out).2.2 0 hpos
          injection ead with ead
          subst ead
          have hm0 : (m :: t).getD 0 z89 = m := rfl
          rw [hm0] at hx0 hx1
          simp only [add_plain, Nat.zero_mul] at hx0 hx1
          have HX0 := Aside0.mk hx0
          have HG2 : Aside0 (Good s ((m :: t).map (turnM m.f0 s))) := ⟨HG.out.turn⟩
          have HGB := Aside0.mk hBg
          have HPOS := Aside0.mk hpos
          obtain ⟨left, hleft⟩ : ∃ left, left = m :: t := ⟨_, rfl⟩
          rw [← hleft] at HR7 HFR HF HMF HG2 HLL HMU HPOS hd hd2 ⊢
          generalize m.f0 = tt at HX0 HF HMF HG2
          clear hf hix hos hpos hx0 hx1 hBg hgw hmu hleft hm0
          go_wp2_with fail
          refine HFR.out.mono ?_
          rintro e w4 ⟨rfl, hb4⟩
          have hx0 := pw_cell_below hb4 HX0.out
          have hge : decide ((-1 : Int) ≥ 0) = false := by decide
          have hin1 : (0 : Int) < (left.length : Int) := by have h1_ := HPOS.out; omega
          have HR74 : Aside0 (MR w4 w.heap.size g c7 left.length left) := ⟨Kd.R_below HR7.out hb4⟩
          have HR84 : Aside0 (Kd.R k89 89 w4 w.heap.size (fun _ => True) (.slice A8 outl.length c8) outl) := ⟨Kd.R_below HR8.out hb4⟩
          have HB4 : Aside0 (Below w.heap.size w w4) := ⟨HB.out.trans (below_cut hb4 HB.out.size)⟩
          have HGW : Aside0 (g < w4.heap.size) := ⟨Kd.R_lt HR74.out g rfl⟩
          clear hb4 HFR
          go_wp2_with (first | ((with_reducible refine gate_builtin (b := .append) (xs := #[.tmp 44, .tmp 48]) rfl ?_); refine Kd.R_append k89 (w0 := w) w.heap.size rfl (.tmp 44) (.tmp 48) 85 89 (.agg #[.int .i64 0, .int .i64 0]) 16 rfl HU85 info89 rfl (by decide) (by decide) (.slice A8 outl.length c8) outl ⟨s, tt⟩ [.int .i64 s, .int .i64 tt] (fun _ => True) (fun _ => False) rfl rfl (k89_mkM _ _ _ ⟨s, tt⟩) (fun _ hk => hk.elim) (fun _ _ => trivial) HR84.out HB4.out ?hbs ?hl ?_; (case hbs => exact HB4.out.size); (case hl => have h_ := HOL.out; omega); intro v5 w5 ho hb hg5 hat; have HR85 := Aside0.mk ho; have HB5 := Aside0.mk hb; have HG5 := Aside0.mk hg5; have HAT := Aside0.mk hat; clear ho hb hg5 hat))
          have HR75 : Aside0 (MR w5 w.heap.size g c7 left.length left) := ⟨R_away HR74.out HG5.out (fun k_ hk => by injection hk with hk; subst hk; exact fun e_ => HNE.out _ e_.symm rfl)⟩
          have HN5 : Aside0 (∀ k_, v5.ownBlock = some k_ → some k_ ≠ some g) := ⟨fun k_ hk => by
            rcases HAT.out with h_ | ⟨b_, h_, h2_⟩
            · rw [h_] at hk; exact HNE.out k_ hk
            · rw [h_] at hk; injection hk with hk; subst hk
              intro e_; injection e_ with e_
              have := HGW.out; omega⟩
          clear hx0 hge hin1 hd hd2
          go_loopg [52] left.length (fun kq v52 W => ∃ i : Nat, v52 = .int .i64 (i : Int) ∧ Aside0 (i ≤ left.length ∧ kq = left.length - i) ∧ Aside0 (MR W w.heap.size g c7 left.length (half (turnM tt s) left i)) ∧ Aside0 (Kd.R k89 89 W w.heap.size (fun _ => True) v5 (outl ++ [⟨s, tt⟩])) ∧ Aside0 (Below w.heap.size w W))
          case atStart => exact ⟨0, rfl, ⟨Nat.zero_le _, by omega⟩, ⟨by rw [half_none]; exact HR75.out⟩, HR85, HB5⟩
          case round =>
            obtain ⟨i, rfl, HIQ, HRW, HRO, HBI⟩ := hrel
            by_cases hlt : i < left.length
            · have hi0 : (0 : Int) ≤ (i : Int) := by omega
              have hi1 : (i : Int) < (left.length : Int) := by omega
              have hcl := half_len (turnM tt s) left i
              obtain ⟨ad, ead, hx0, hx1⟩ := at_m (Kd.R_reads' HRW.out).2.2 i (by omega)
              injection ead with ead
              subst ead
              have hgt := half_get (f := turnM tt s) hlt
              have hnx := half_next (f := turnM tt s) hlt
              rw [hgt] at hx0 hx1
              simp only [add_plain] at hx0 hx1
              have hdec : decide ((i : Int) < (left.length : Int)) = true := decide_eq_true hi1
              have hdec2 : decide (i < left.length) = true := decide_eq_true hlt
              have hfr := MR.loose HRW.out (by omega) (i * 2 + 1)
              have HLT := Aside0.mk hlt
              have HCL := Aside0.mk hcl
              generalize left[i] = x at hx0 hx1 hgt hnx
              have HNX := Aside0.mk hnx
              have HGT := Aside0.mk hgt
              generalize half (turnM tt s) left i = cur at HRW HCL HNX HGT
              clear hgt hcl hnx hlt
              by_cases hq : x.f1 = tt
              · have hq1 : (x.f1 == tt) = true := by simpa using hq
                have HTX : Aside0 (turnM tt s x = ⟨x.f0, s⟩) := ⟨by unfold turnM; rw [if_pos hq]⟩
                have HPUT := Aside0.mk (put1 HRW.out HLT.out HGT.out s)
                clear hq
                go_wp2
                go_roundg (left.length - (i + 1))
                case measure => have := HIQ.out; have := HLT.out; omega
                case rel => exact ⟨i + 1, by first | rfl | (have := HLT.out; have := HLL.out; rw [show wrap64 ((i : Int) + 1) = ((i + 1 : Nat) : Int) from by unfold wrap64; omega]), ⟨by have := HLT.out; omega, rfl⟩, ⟨by rw [HNX.out, HTX.out]; exact HPUT.out.1⟩, ⟨R_away HRO.out HPUT.out.2 (u := .slice (some ⟨g, 0, none⟩) 0 0) HN5.out⟩, ⟨HBI.out.setCell HGB.out _⟩⟩
              · have hq1 : (x.f1 == tt) = false := by simpa using hq
                have HTX : Aside0 (turnM tt s x = x) := ⟨by unfold turnM; rw [if_neg hq]⟩
                have HSM : Aside0 (cur.set i x = cur) := ⟨set_same (by have h1_ := HCL.out; have h2_ := HLT.out; omega) HGT.out⟩
                clear hq
                go_wp2
                go_roundg (left.length - (i + 1))
                case measure => have := HIQ.out; have := HLT.out; omega
                case rel => exact ⟨i + 1, by first | rfl | (have := HLT.out; have := HLL.out; rw [show wrap64 ((i : Int) + 1) = ((i + 1 : Nat) : Int) from by unfold wrap64; omega]), ⟨by have := HLT.out; omega, rfl⟩, ⟨by rw [HNX.out, HTX.out, HSM.out]; exact HRW.out⟩, HRO, HBI⟩
            · have e_ : i = left.length := by have := HIQ.out; omega
              subst e_
              have hdec : decide ((left.length : Int) < (left.length : Int)) = false := decide_eq_false (by omega)
              have hdec2 : decide (left.length < left.length) = false := decide_eq_false hlt
              rw [half_all] at HRW
              clear hlt HIQ
              go_wp2
              go_roundg k
              case measure => have := HKQ.out; omega
              case rel => exact ⟨k, left.map (turnM tt s), outl ++ [⟨s, tt⟩], ⟨Nat.le_refl _⟩, HG2, ⟨by have h1_ := HMF.out; have h2_ := HMU.out; omega⟩, HF, ⟨by have := HOL.out; simp; omega⟩, ⟨by rw [List.length_map]; exact HLL.out⟩, HRW, HRO, HN5, HBI⟩
end Go.Proofs.Ytchcbncelckgeaa.Mvs
