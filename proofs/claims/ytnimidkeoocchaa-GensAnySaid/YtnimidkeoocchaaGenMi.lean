/- Package gens: minor walked (under way). -/
import Derived.Test.YtnimidkeoocchaaGenRe
import Derived.Test.YtnimidkeoocchaaReach
set_option linter.unusedVariables false
set_option linter.unusedSimpArgs false
namespace Go.Proofs.Ytnimidkeoocchaa.Gen
open Go.RowKit Go.Proofs.YtnimidkeoocchaaW.PrintWords Go.Proofs.YtnimidkeoocchaaW.PrintLast Go.Proofs.YtnimidkeoocchaaW.PrintMore Go.Proofs.Ytnimidkeoocchaa.PG Go.Proofs.Ytnimidkeoocchaa.Hnd

theorem Mi.same {W W' : World} {bs b1 b3 b4 g : Nat} {AS : Option Addr} {cS : Nat} {st : List Bool} {vT : Value} {td : List Int} (h : Mi W bs b1 b3 b4 g AS cS st vT td) (hs : ∀ (k : Nat) cs ty fr, W.heap[k]? = some (Obj.cells cs ty fr) → W'.heap[k]? = W.heap[k]?) : Mi W' bs b1 b3 b4 g AS cS st vT td :=
  ⟨(hs _ _ _ _ h.e1).trans h.e1, (hs _ _ _ _ h.e3).trans h.e3, (hs _ _ _ _ h.e4).trans h.e4, own_same h.sr (fun k hk => by obtain ⟨c, hc⟩ := own_ty h.sr k hk; exact hs _ _ _ _ hc), h.tq.same (fun k hk => by obtain ⟨c, hc⟩ := h.tq.ty k hk; exact hs _ _ _ _ hc), h.g1, h.g3, h.g4⟩
/-- One is taken from the front. -/
theorem Mi.pop {W : World} {bs b1 b3 b4 g : Nat} {AS : Option Addr} {cS : Nat} {st : List Bool} {vT : Value} {td0 : List Int} (h : Mi W bs b1 b3 b4 g AS cS st vT td0) {v2 : Value} {td : List Int} (ht : RowQ W bs 3 v2 (td.map (Value.int .i64))) :
    Mi (W.setCell ⟨b4, 0, none⟩ v2) bs b1 b3 b4 g AS cS st v2 td := by
  have hl : ∀ k, k ≠ b4 → (W.setCell ⟨b4, 0, none⟩ v2).heap[k]? = W.heap[k]? := fun k hn => heap_setCell_other W _ k _ hn
  refine ⟨(hl b1 (blk_ne h.e1 h.e4 (by decide))).trans h.e1, (hl b3 (blk_ne h.e3 h.e4 (by decide))).trans h.e3, by simpa using blk_set h.e4 0 _, own_same h.sr (fun k hk => hl k (fun e => ?_)), ht.same (fun k hk => hl k (fun e => ?_)), h.g1, h.g3, h.g4⟩
  · obtain ⟨c, hc⟩ := own_ty h.sr k hk
    exact blk_ne hc h.e4 (by decide) e
  · obtain ⟨c, hc⟩ := ht.ty k hk
    exact blk_ne hc h.e4 (by decide) e
/-- The memory in which minor begins. -/
def startW (w : World) (g n : Nat) : World := (((w.alloc (Obj.cells #[.pointer (some ⟨g, 0, none⟩)] 24)).alloc (Obj.cells (madeCells #[.bool false] n) 4)).alloc (Obj.cells #[.slice (some ⟨w.heap.size + 1, 0, none⟩) n n] 48)).alloc (Obj.cells #[.slice none 0 0] 29)
theorem startW_below (w : World) (g n : Nat) : Below w.heap.size w (startW w g n) := below_alloc (below_alloc (below_alloc (below_alloc (Below.refl _ _) _) _) _) _
theorem Mi.start (w : World) (g n : Nat) (hn : n ≤ 1000) : Mi (startW w g n) w.heap.size w.heap.size (w.heap.size + 1 + 1) (w.heap.size + 1 + 1 + 1) g (some ⟨w.heap.size + 1, 0, none⟩) n (List.replicate n false) (.slice none 0 0) [] := by
  obtain ⟨W1, h1⟩ : ∃ W1, W1 = w.alloc (Obj.cells #[.pointer (some ⟨g, 0, none⟩)] 24) := ⟨_, rfl⟩
  obtain ⟨W2, h2⟩ : ∃ W2, W2 = W1.alloc (Obj.cells (madeCells #[.bool false] n) 4) := ⟨_, rfl⟩
  obtain ⟨W3, h3⟩ : ∃ W3, W3 = W2.alloc (Obj.cells #[.slice (some ⟨w.heap.size + 1, 0, none⟩) n n] 48) := ⟨_, rfl⟩
  have e : startW w g n = W3.alloc (Obj.cells #[.slice none 0 0] 29) := by rw [h3, h2, h1]; rfl
  have s1 : W1.heap.size = w.heap.size + 1 := by rw [h1]; exact blk_size
  have s2 : W2.heap.size = w.heap.size + 1 + 1 := by rw [h2, blk_size, s1]
  have s3 : W3.heap.size = w.heap.size + 1 + 1 + 1 := by rw [h3, blk_size, s2]
  have b1 : W1.heap[w.heap.size]? = some (.cells #[.pointer (some ⟨g, 0, none⟩)] 24 (0, 0)) := by rw [h1]; exact blk_new w _
  have b2 : W2.heap[w.heap.size]? = some (.cells #[.pointer (some ⟨g, 0, none⟩)] 24 (0, 0)) := by rw [h2]; exact blk_alloc b1 _
  have b3 : W3.heap[w.heap.size]? = some (.cells #[.pointer (some ⟨g, 0, none⟩)] 24 (0, 0)) := by rw [h3]; exact blk_alloc b2 _
  have c3 : W3.heap[w.heap.size + 1 + 1]? = some (.cells #[.slice (some ⟨w.heap.size + 1, 0, none⟩) n n] 48 (0, 0)) := by rw [h3, ← s2]; exact blk_new W2 _
  have o2 := Go.Proofs.Ytnimidkeoocchaa.Rch.own_made_bool W1 w.heap.size 4 n (by rw [s1]; omega) (by omega)
  rw [← h2, s1] at o2
  rw [e]
  refine ⟨blk_alloc b3 _, ?_, ?_, ?_, RowQ.nil _ _ _, Nat.le_refl _, by omega, by omega⟩
  · rw [List.length_replicate]; exact blk_alloc c3 _
  · rw [← s3]; exact blk_new W3 _
  · rw [List.length_replicate]
    have o3 := (o2.alloc (Obj.cells #[.slice (some ⟨w.heap.size + 1, 0, none⟩) n n] 48)).alloc (Obj.cells #[.slice none 0 0] 29)
    rw [← h3] at o3
    exact o3
/-- The first i held young ones are marked. -/
def HeldTo (l : List Th) (st : List Bool) (i : Nat) : Prop := ∀ n, n < i → (thAt l n).f2 = true → youngB l (n : Int) = true → st.getD n false = true
theorem HeldTo.next {l : List Th} {st st' : List Bool} {i : Nat} (h : HeldTo l st i) (hs : ∀ n : Nat, st.getD n false = true → st'.getD n false = true) (hi : (thAt l i).f2 = true → youngB l (i : Int) = true → st'.getD i false = true) : HeldTo l st' (i + 1) := by
  intro n hn h1 h2
  by_cases e : n = i
  · subst e; exact hi h1 h2
  · exact hs n (h n (by omega) h1 h2)
theorem reachL_mono {l : List Th} {ks : List Int} {s : List Bool × List Int} (hk : ∀ k ∈ ks, k < (s.1.length : Int)) (n : Nat) (h : s.1.getD n false = true) : (reachL l s ks).1.getD n false = true := by
  rw [reachL_get ks s hk n, h]; rfl
theorem reachL_has {l : List Th} {ks : List Int} {s : List Bool × List Int} (hk : ∀ k ∈ ks, k < (s.1.length : Int)) {k : Int} (hm : k ∈ ks) (hy : youngB l k = true) : (reachL l s ks).1.getD k.toNat false = true := by
  rw [reachL_get ks s hk]
  have h0 := youngB_nat hy
  refine Bool.or_eq_true_iff.2 (.inr (List.any_eq_true.2 ⟨k, hm, ?_⟩))
  rw [hy]; simp; omega
/-- Young places of the remembered ones that were gone through are marked. -/
def RemTo (l : List Th) (rm left : Int → Bool) (st : List Bool) : Prop := ∀ x : Int, 0 ≤ x → x < l.length → rm x = true → left x = false → ∀ k ∈ (thAt l x.toNat).f0, youngB l k = true → st.getD k.toNat false = true
/-- Young places of marked ones that are not to be gone through any more are marked. -/
def DoneTo (l : List Th) (st : List Bool) (td : List Int) : Prop := ∀ n : Nat, st.getD n false = true → (n : Int) ∈ td ∨ ∀ k ∈ (thAt l n).f0, youngB l k = true → st.getD k.toNat false = true
theorem RemTo.next {l : List Th} {rm left : Int → Bool} {st st' : List Bool} {m : Int} (h : RemTo l rm left st) (hs : ∀ n : Nat, st.getD n false = true → st'.getD n false = true) (hm : ∀ k ∈ (thAt l m.toNat).f0, youngB l k = true → st'.getD k.toNat false = true) : RemTo l rm (fun z => left z && !(z == m)) st' := by
  intro x h0 h1 h2 h3 k hk hy
  by_cases e : x = m
  · subst e; exact hm k hk hy
  · have h4 : left x = false := by
      have e2 : (x == m) = false := by simpa using e
      simpa [e2] using h3
    exact hs _ (h x h0 h1 h2 h4 k hk hy)
/-- In the third loop. -/
structure P3 (l : List Th) (rm : Int → Bool) (st : List Bool) (td : List Int) : Prop where
  len : st.length = l.length
  yr : ∀ n : Nat, st.getD n false = true → YR l rm n
  td2 : ∀ x ∈ td, 0 ≤ x ∧ st.getD x.toNat false = true
  sum : td.length + st.count false ≤ 1000
  done : DoneTo l st td
  held : HeldTo l st l.length
  remd : RemTo l rm (fun _ => false) st
theorem P3.start {l : List Th} {rm left : Int → Bool} {st : List Bool} {td : List Int} (h : Pre l rm st td) (hh : HeldTo l st l.length) (hr : RemTo l rm left st) (hl : ∀ x, 0 ≤ x → x < (l.length : Int) → left x = false) : P3 l rm st td :=
  ⟨h.len, fun n hn => (h.yr n hn).1, h.td2, h.sum, fun n hn => .inl (h.td1 n hn), hh, fun x h0 h1 h2 _ => hr x h0 h1 h2 (hl x h0 h1)⟩
theorem P3.step {l : List Th} {rm : Int → Bool} {st : List Bool} {x : Int} {td : List Int} (h : P3 l rm st (x :: td)) (hk : ∀ k ∈ (thAt l x.toNat).f0, k < (l.length : Int)) : P3 l rm (reachL l (st, td) (thAt l x.toNat).f0).1 (reachL l (st, td) (thAt l x.toNat).f0).2 ∧ (reachL l (st, td) (thAt l x.toNat).f0).2.length + (reachL l (st, td) (thAt l x.toNat).f0).1.count false + 1 = (x :: td).length + st.count false := by
  have hks : ∀ k ∈ (thAt l x.toNat).f0, k < (((st, td) : List Bool × List Int).1.length : Int) := fun k hk2 => by show k < (st.length : Int); rw [h.len]; exact hk k hk2
  have hg := reachL_get (l := l) _ (st, td) hks
  have ht := reachL_todo (l := l) _ (st, td) hks
  have hs := reachL_sum (l := l) _ (st, td) hks
  have hmono := fun n hn => reachL_mono (l := l) (s := (st, td)) hks n hn
  obtain ⟨hx0, hx1⟩ := h.td2 x (List.mem_cons_self ..)
  refine ⟨⟨by rw [(reachL_len l _ (st, td)).1]; exact h.len, fun n hn => ?_, fun y hy => ?_, ?_, fun n hn => ?_, fun n hn h1 h2 => hmono n (h.held n hn h1 h2), fun y h0 h1 h2 h3 k hk2 hy => hmono _ (h.remd y h0 h1 h2 h3 k hk2 hy)⟩, ?_⟩
  · rw [hg n] at hn
    rcases Bool.or_eq_true_iff.1 hn with h1 | h1
    · exact h.yr n h1
    · obtain ⟨k, hk1, hk2⟩ := List.any_eq_true.1 h1
      simp only [Bool.and_eq_true, decide_eq_true_eq] at hk2
      obtain ⟨h2, rfl⟩ := hk2
      have hyx := h.yr x.toNat hx1
      rw [Int.toNat_of_nonneg hx0] at hyx
      exact YR.next hyx hk1 h2
  · rcases (ht y).1 hy with h1 | ⟨h1, _, h2⟩
    · obtain ⟨h3, h4⟩ := h.td2 y (List.mem_cons_of_mem _ h1)
      exact ⟨h3, hmono _ h4⟩
    · exact ⟨h1, h2⟩
  · rw [hs]
    have := h.sum
    simp only [List.length_cons] at this ⊢
    omega
  · cases hc : st.getD n false with
    | false => exact .inl ((ht _).2 (.inr ⟨by omega, by rw [Int.toNat_natCast]; exact hc, by rw [Int.toNat_natCast]; exact hn⟩))
    | true =>
      rcases h.done n hc with h1 | h1
      · rcases List.mem_cons.1 h1 with h2 | h2
        · refine .inr (fun k hk2 hy => ?_)
          have e : x.toNat = n := by omega
          rw [← e] at hk2
          exact reachL_has hks hk2 hy
        · exact .inl ((ht _).2 (.inl h2))
      · exact .inr (fun k hk2 hy => hmono _ (h1 k hk2 hy))
  · rw [hs]; simp only [List.length_cons]; omega
/-- What minor has marked at the end. -/
structure Mkd (l : List Th) (rm : Int → Bool) (st : List Bool) : Prop where
  len : st.length = l.length
  yr : ∀ n : Nat, st.getD n false = true ↔ YR l rm n
theorem P3.mkd {l : List Th} {rm : Int → Bool} {st : List Bool} (h : P3 l rm st []) : Mkd l rm st := by
  refine ⟨h.len, fun n => ⟨h.yr n, fun hn => ?_⟩⟩
  have hall : ∀ k, YR l rm k → st.getD k.toNat false = true := by
    intro k hk
    induction hk with
    | held h1 h2 h3 => rw [Int.toNat_natCast]; exact h.held _ h1 h2 h3
    | rem h1 h2 h3 h4 h5 => exact h.remd _ h2 h3 h1 rfl _ h4 h5
    | next _ h2 h3 ih =>
      rcases h.done _ ih with h4 | h4
      · simp at h4
      · exact h4 _ h2 h3
  have := hall n hn
  rwa [Int.toNat_natCast] at this
set_option maxHeartbeats 16000000 in
set_option maxRecDepth 100000 in
theorem minor_calls (w : World) {ok : Nat → Prop} {g : Nat} {nur : Int} {mb cn : Nat} {rm : Int → Bool} {v : Value} {ps : List Value} {l : List Th} (h : GS w ok g nur mb cn rm v ps l) (ho : OkL l) (hok : ∀ k, ok k → k < w.heap.size) (hcn : cn ≤ 100000) (hrm : ∀ x, I64 x → rm x = true → 0 ≤ x ∧ x < (l.length : Int)) :
    Calls Try.prog 41 #[.pointer (some ⟨g, 0, none⟩)] w fun e w' => ∃ st, Mkd l rm st ∧ e = .returned (.int .i64 (collN st [0] l : Int)) ∧ (∃ ps', GS w' ok g nur mb 0 (fun _ => false) v ps' (collL st [0] l)) ∧ Fr ok w w' := by
  have HM := Aside0.mk h
  have HOK := Aside0.mk hok
  have HCN := Aside0.mk hcn
  have HRM := Aside0.mk hrm
  have c1 := h.c1
  obtain ⟨AV, cV, ev, hcv⟩ := own_shape h.row
  subst ev
  have c1' : (w.alloc (Obj.cells #[.pointer (some ⟨g, 0, none⟩)] 24)).cell? ⟨g, 1, none⟩ = some (.slice AV l.length cV) := pw_cell_below (below_alloc (Below.refl _ _) _) c1
  have HZ := Aside0.mk ho.len
  have hz0 := ho.len
  have hmk : ∀ W : World, (Instr.makeSlice 48 (.int .i64 (l.length : Int)) (.int .i64 (l.length : Int))).run Try.prog W = .ok (.slice (some ⟨W.heap.size, 0, none⟩) l.length l.length) (W.alloc (.cells (madeCells #[.bool false] l.length) 4)) := by
    intro W
    exact run_make_row' 48 4 (.bool false) 1 Try.underlying48 (by kernel_rfl) rfl .i64 .i64 l.length (by omega) (by omega) W
  have c4 : (startW w g l.length).cell? ⟨g, 1, none⟩ = some (.slice AV l.length cV) := pw_cell_below (startW_below w g l.length) c1
  unfold startW at c4
  have hki := Try.underlying3
  have hmt := Try.underlying59
  have hrf : ∀ n, (List.replicate l.length false).getD n false = false := fun n => by rw [List.getD_eq_getElem?_getD, List.getElem?_replicate]; split <;> rfl
  have HPR : Aside0 (Pre l rm (List.replicate l.length false) []) := ⟨⟨by simp, fun n hn => absurd ((hrf n).symm.trans hn) (by decide), fun n hn => absurd ((hrf n).symm.trans hn) (by decide), fun x hx => by simp at hx, by simp; exact HZ.out⟩⟩
  have HSB := Aside0.mk (startW_below w g l.length)
  have HMI := Aside0.mk (Mi.start w g l.length HZ.out)
  unfold startW at HSB HMI
  have HO := Aside0.mk ho
  clear h hok hcn hrm ho hrf
  go_enter Try.func41, Try.ntmps41
  go_wp2
  clear c1 c1' c4 hmk
  go_loopg [22] l.length (fun kq v22 W => ∃ (i : Nat) (vT : Value) (st : List Bool) (td : List Int), v22 = .int .i64 (i : Int) ∧ Aside0 (i ≤ l.length ∧ kq = l.length - i) ∧ Aside0 (Mi W w.heap.size w.heap.size (w.heap.size + 1 + 1) (w.heap.size + 1 + 1 + 1) g (some ⟨w.heap.size + 1, 0, none⟩) l.length st vT td) ∧ Aside0 (Pre l rm st td ∧ HeldTo l st i) ∧ Aside0 (Below w.heap.size w W))
  case atStart => exact ⟨0, _, _, _, rfl, ⟨Nat.zero_le _, by omega⟩, HMI, ⟨HPR.out, fun n hn => absurd hn (Nat.not_lt_zero _)⟩, HSB⟩
  case round =>
    obtain ⟨i, vT, st, td, rfl, HIQ, HW, HP, HB⟩ := hrel
    by_cases hlt : i < l.length
    · have HM1 := Aside0.mk (HM.out.below HB.out)
      obtain ⟨q, cap, A, c, e1, hqo, x0, x1, x2, hpe, hpc, hpC⟩ := HM1.out.at_ i hlt
      injection e1 with e1 e2 e3
      subst e1
      clear e2 e3
      have hi0 : (0 : Int) ≤ (i : Int) := by omega
      have hi1 : (i : Int) < (l.length : Int) := by omega
      have hdec : decide ((i : Int) < (l.length : Int)) = true := decide_eq_true hi1
      have hdec2 : decide (i < l.length) = true := decide_eq_true hlt
      have HLT := Aside0.mk hlt
      have HW64 : Aside0 (wrap64 ((i : Int) + 1) = ((i + 1 : Nat) : Int)) := ⟨by have := HZ.out; unfold wrap64; omega⟩
      have hbx := below_alloc (Below.refl wr.heap.size wr) (Obj.cells #[.slice A (l[i]).f0.length c, .int .i64 l[i].f1, .bool l[i].f2] 69)
      have HBX : Aside0 (Below wr.heap.size wr (wr.alloc (Obj.cells #[.slice A (l[i]).f0.length c, .int .i64 l[i].f1, .bool l[i].f2] 69))) := ⟨hbx⟩
      have hf2 : l[i].f2 = (thAt l i).f2 := by rw [thAt_eq hlt]
      cases hq : l[i].f2 with
      | false =>
        rw [hq] at x2 HBX hf2
        have HHT : Aside0 (HeldTo l st (i + 1)) := ⟨HP.out.2.next (fun _ h => h) (fun h => by rw [← hf2] at h; cases h)⟩
        generalize l[i].f1 = y at x1 HBX
        generalize l[i].f0 = y0 at x0 HBX
        clear hqo hpe hpc hpC hbx hlt hf2 hq
        go_wp2_with fail
        go_roundg (l.length - (i + 1))
        case measure => have := HIQ.out; have := HLT.out; omega
        case rel => exact ⟨i + 1, vT, st, td, by first | rfl | rw [HW64.out], ⟨by have := HLT.out; omega, rfl⟩, ⟨HW.out.below HBX.out⟩, ⟨HP.out.1, HHT.out⟩, ⟨below_step HB.out HBX.out⟩⟩
      | true =>
        rw [hq] at x2 HBX hf2
        generalize l[i].f1 = y at x1 HBX
        generalize l[i].f0 = y0 at x0 HBX
        obtain ⟨wx, hwx⟩ : ∃ wx, wx = (wr.alloc (Obj.cells #[.slice A y0.length c, .int .i64 y, .bool true] 69)).alloc (Obj.cells #[.int .i64 (i : Int)] 3) := ⟨_, rfl⟩
        have HBW : Aside0 (Below wr.heap.size wr wx) := ⟨by rw [hwx]; exact below_alloc HBX.out _⟩
        have hlit : wx.heap[wr.heap.size + 1]? = some (.cells #[.int .i64 (i : Int)] 3 (0, 0)) := by
          rw [hwx]
          have h_ := blk_new (wr.alloc (Obj.cells #[.slice A y0.length c, .int .i64 y, .bool true] 69)) (Obj.cells #[.int .i64 (i : Int)] 3)
          rwa [blk_size] at h_
        have hki2 : ∀ k ∈ [(i : Int)], k < (l.length : Int) := fun k hk => by rw [List.mem_singleton] at hk; rw [hk]; exact hi1
        have HSRI := HW.out.sr_in (n := l.length) HP.out.1.len.symm
        have HCALL := Aside0.mk (reach_calls wx (HM1.out.below HBW.out) HOK.out (HW.out.below HBW.out) HP.out.1.len (by have := HP.out.1.sum; omega) (some ⟨wr.heap.size + 1, 0, none⟩) 1 [(i : Int)]
          (fun W hW => C_block (d := Kd.int .i64) (hW.obj hlit (fun hs => by have := (HSRI _ hs).2; omega)) rfl) hki2 (by simp) (Nat.le_trans HB.out.size HBW.out.size))
        have HBWX : Aside0 (Below w.heap.size w wx) := ⟨below_step HB.out HBW.out⟩
        have hks : ∀ k ∈ [(i : Int)], k < (((st, td) : List Bool × List Int).1.length : Int) := fun k hk => by show k < (st.length : Int); rw [HP.out.1.len]; exact hki2 k hk
        have HP2 : Aside0 (Pre l rm (reachL l (st, td) [(i : Int)]).1 (reachL l (st, td) [(i : Int)]).2 ∧ HeldTo l (reachL l (st, td) [(i : Int)]).1 (i + 1)) := ⟨HP.out.1.reach hki2 (fun k hk hy => by
            rw [List.mem_singleton] at hk; subst hk
            exact YR.held HLT.out hf2.symm hy),
          HP.out.2.next (fun n hn => reachL_mono hks n hn) (fun _ hy => by
            have h_ := reachL_has hks (List.mem_singleton.2 rfl) hy
            rwa [Int.toNat_natCast] at h_)⟩
        obtain ⟨st2, hst2⟩ : ∃ s, s = (reachL l (st, td) [(i : Int)]).1 := ⟨_, rfl⟩
        obtain ⟨td2, htd2⟩ : ∃ s, s = (reachL l (st, td) [(i : Int)]).2 := ⟨_, rfl⟩
        rw [← hst2, ← htd2] at HCALL HP2
        have HWX := Aside0.mk hwx.symm
        clear hqo hpe hpc hpC hbx hlt hf2 hq hst2 htd2 hks hki2 HSRI hlit hwx
        go_wp2_with fail
        rw [HWX.out]
        refine HCALL.out.mono ?_
        rintro e w3 ⟨rfl, ⟨vT3, hmi3⟩, hb3, hf3⟩
        have HMI3 := Aside0.mk hmi3
        have HB3 : Aside0 (Below w.heap.size w w3) := ⟨HBWX.out.trans hb3⟩
        clear hmi3 hb3 hf3
        go_wp2_with fail
        go_roundg (l.length - (i + 1))
        case measure => have := HIQ.out; have := HLT.out; omega
        case rel => exact ⟨i + 1, vT3, st2, td2, by first | rfl | rw [HW64.out], ⟨by have := HLT.out; omega, rfl⟩, HMI3, HP2, HB3⟩
    · have e_ : i = l.length := by have := HIQ.out; omega
      subst e_
      have hdec : decide ((l.length : Int) < (l.length : Int)) = false := decide_eq_false (by omega)
      have hdec2 : decide (l.length < l.length) = false := decide_eq_false hlt
      obtain ⟨wo, rfl⟩ : ∃ wo, wo = wr := ⟨wr, rfl⟩
      have HM1 := Aside0.mk (HM.out.below HB.out)
      have d1 : wo.cell? ⟨w.heap.size, 0, none⟩ = some (.pointer (some ⟨g, 0, none⟩)) := (blk_cell HW.out.e1 0).trans rfl
      have d2 : wo.cell? ⟨g, 2, none⟩ = some (.map (some mb)) := HM1.out.c2
      clear hlt HIQ
      go_wp2_with (first | (at_range; refine range_set rfl _ rfl hki hmt HM1.out.set rfl ?_; intro w0 cnt hcnt hrg0 hg0 hs0))
      go_frame
      have HRG0 := Aside0.mk hrg0
      have HR0 : Aside0 (w.heap.size ≤ wo.heap.size) := ⟨HB.out.size⟩
      have HB0 : Aside0 (Below wo.heap.size wo w0) := ⟨⟨hg0.os, hg0.tape, hg0.output, hg0.size, fun k hk => hg0.block k hk (by simp)⟩⟩
      have HM0 := Aside0.mk (HW.out.below HB0.out)
      have HBW0 : Aside0 (Below w.heap.size w w0) := ⟨below_step HB.out HB0.out⟩
      clear hcnt hrg0 hg0 d1 d2
      go_loopg [8] cnt (fun kq v8 W => ∃ (left : Int → Bool) (vT : Value) (st : List Bool) (td : List Int), Aside0 (SetR Try.prog 3 W mb wo.heap.size cn rm left kq) ∧ Aside0 (Mi W w.heap.size w.heap.size (w.heap.size + 1 + 1) (w.heap.size + 1 + 1 + 1) g (some ⟨w.heap.size + 1, 0, none⟩) l.length st vT td) ∧ Aside0 (Pre l rm st td ∧ HeldTo l st l.length ∧ RemTo l rm left st) ∧ Aside0 (Below w.heap.size w W))
      case atStart => exact ⟨rm, _, _, _, HRG0, HM0, ⟨HP.out.1, HP.out.2, fun x _ _ h1 h2 => by rw [h1] at h2; cases h2⟩, HBW0⟩
      case round =>
        clear HW HP HB HM1 HRG0 HB0 HM0 HBW0
        obtain ⟨left, vT, st, td, HSR, HW, HP, HB⟩ := hrel
        go_wp2_with (first | (at_next; refine next_set rfl _ rfl hki HSR.out rfl ?_ ?_))
        · intro hdone
          have HP3 : Aside0 (P3 l rm st td) := ⟨P3.start HP.out.1 HP.out.2.1 HP.out.2.2 (fun x h0 h1 => hdone x (by have := HO.out.len; unfold I64; omega))⟩
          clear hdone HSR HP
          go_wp2_with fail
          obtain ⟨wq, rfl⟩ : ∃ wq, wq = wr := ⟨wr, rfl⟩
          go_loopg [9] (td.length + st.count false) (fun kq v9 W => ∃ (vT : Value) (st : List Bool) (td : List Int), Aside0 (kq = td.length + st.count false) ∧ Aside0 (Mi W w.heap.size w.heap.size (w.heap.size + 1 + 1) (w.heap.size + 1 + 1 + 1) g (some ⟨w.heap.size + 1, 0, none⟩) l.length st vT td) ∧ Aside0 (P3 l rm st td) ∧ Aside0 (Below w.heap.size w W))
          case atStart => exact ⟨_, _, _, ⟨rfl⟩, HW, HP3, HB⟩
          case round =>
            clear HW HP3 HB
            obtain ⟨vT, st, td, HKQ, HW, HP, HB⟩ := hrel
            have HM1 := Aside0.mk (HM.out.below HB.out)
            obtain ⟨AT, cT, eT, hcT⟩ := HW.out.tq.shape
            rw [List.length_map] at eT hcT
            subst eT
            have d4 : wr.cell? ⟨w.heap.size + 1 + 1 + 1, 0, none⟩ = some (.slice AT td.length cT) := (blk_cell HW.out.e4 0).trans rfl
            have f4 : wr.frozen? ⟨w.heap.size + 1 + 1 + 1, 0, none⟩ = false := blk_frozen HW.out.e4 0
            rcases td with _ | ⟨x, td⟩
            · have hd0 : decide ((0 : Int) < (((([] : List Int).length : Nat)) : Int)) = false := by decide
              have hd1 : decide (0 < ([] : List Int).length) = false := by decide
              have HMK := Aside0.mk HP.out.mkd
              obtain ⟨W4, hW4⟩ : ∃ W4, W4 = wr.alloc (Obj.cells #[.int .i64 0] 3) := ⟨_, rfl⟩
              have hb4 : Below wr.heap.size wr W4 := by rw [hW4]; exact below_alloc (Below.refl _ _) _
              have HX4 : Aside0 (W4.heap[wr.heap.size]? = some (.cells #[.int .i64 0] 3 (0, 0))) := ⟨by rw [hW4]; exact blk_new _ _⟩
              have HB4 : Aside0 (Below w.heap.size w W4) := ⟨below_step HB.out hb4⟩
              have HWS := Aside0.mk (HW.out.below hb4).sr
              have d1 : wr.cell? ⟨w.heap.size, 0, none⟩ = some (.pointer (some ⟨g, 0, none⟩)) := (blk_cell HW.out.e1 0).trans rfl
              have hSL := HP.out.len
              have d3 : wr.cell? ⟨w.heap.size + 1 + 1, 0, none⟩ = some (.slice (some ⟨w.heap.size + 1, 0, none⟩) st.length l.length) := (blk_cell HW.out.e3 0).trans rfl
              have HCOL := Aside0.mk (collect_calls W4 (HM.out.below HB4.out) HO.out st (some ⟨w.heap.size + 1, 0, none⟩) l.length (fun W hW => own_CB (own_same HWS.out (fun k hk => hW.blk k (HWS.out.lt k hk).2 (fun h1 => by have := (HWS.out.lt k hk).1; have := HOK.out k h1; omega)))) hSL [0] wr.heap.size 1 (fun W hW j hj => by
                have e := hW.obj HX4.out (fun ho => by have h1 := HOK.out _ ho; have h2 := HB.out.size; omega)
                rw [Nat.zero_add, blk_cell e j]
                rcases j with _ | j
                · rfl
                · simp at hj) (by simp))
              simp only [List.length_cons, List.length_nil, Nat.zero_add] at HCOL
              obtain ⟨sl, hsl⟩ : ∃ sl, sl = collL st [0] l := ⟨_, rfl⟩
              obtain ⟨cm, hcm⟩ : ∃ cm, cm = collN st [0] l := ⟨_, rfl⟩
              have HSE : Aside0 (sl = collL st [0] l ∧ cm = collN st [0] l) := ⟨hsl, hcm⟩
              rw [← hsl, ← hcm] at HCOL
              have HW4E := Aside0.mk hW4.symm
              clear hW4 hb4 hsl hcm hSL
              go_wp2_with fail
              rw [HW4E.out]
              refine HCOL.out.mono ?_
              rintro e w5 ⟨rfl, ⟨ps', hg5⟩, hf5⟩
              go_wp2_with fail
              go_ret
              refine ⟨st, HMK.out, ?_, ⟨ps', ?_⟩, (Fr.of_below HB4.out).trans hf5⟩
              · rw [← HSE.out.2]; rfl
              · rw [← HSE.out.1]; exact hg5
            · obtain ⟨b, off, cap, e1, hget⟩ := HW.out.tq.get (by simp)
              rw [List.length_map] at e1
              injection e1 with e1 e2 e3
              subst e1
              subst e3
              have d5 : wr.cell? ⟨b, off, none⟩ = some (.int .i64 x) := hget 0 (by simp)
              have hd0 : decide ((0 : Int) < ((((x :: td).length : Nat)) : Int)) = true := by simp
              have hd1 : decide (0 < (x :: td).length) = true := by simp
              have HX := HP.out.td2 x (List.mem_cons_self ..)
              obtain ⟨m, rfl⟩ : ∃ m : Nat, x = m := ⟨x.toNat, by omega⟩
              have hm : m < l.length := by
                have h_ := HX.2
                rw [Int.toNat_natCast] at h_
                rw [← HP.out.len]
                apply Classical.byContradiction
                intro hn
                rw [List.getD_eq_getElem?_getD, List.getElem?_eq_none (by omega)] at h_
                cases h_
              have d1 : wr.cell? ⟨w.heap.size, 0, none⟩ = some (.pointer (some ⟨g, 0, none⟩)) := (blk_cell HW.out.e1 0).trans rfl
              have hcx : 1 ≤ cT := by simp at hcT; omega
              by_cases hc1 : cT = 1
              · subst hc1
                have HPO := Aside0.mk (HW.out.pop (v2 := .slice (some ⟨b, off, none⟩) td.length 0) (td := td) (by have h_ := RowQ.tail1 (x := .int .i64 (m : Int)) (xs := td.map (Value.int .i64)) HW.out.tq; rwa [List.length_map] at h_))
                have hg4 : w.heap.size + 1 + 1 + 1 ≠ g := by have := HOK.out g HM.out.gok; omega
                obtain ⟨WP, hWP⟩ : ∃ WP, WP = wr.setCell ⟨w.heap.size + 1 + 1 + 1, 0, none⟩ (.slice (some ⟨b, off, none⟩) td.length 0) := ⟨_, rfl⟩
                have HBP : Aside0 (Below w.heap.size w WP) := ⟨by rw [hWP]; exact HB.out.setCell (p := ⟨w.heap.size + 1 + 1 + 1, 0, none⟩) (by show w.heap.size ≤ w.heap.size + 1 + 1 + 1; omega) _⟩
                have HMP := Aside0.mk (HM.out.below HBP.out)
                rw [← hWP] at HPO
                have c1 := HMP.out.c1
                obtain ⟨q, capq, A, c, e1, hqo, x0, x1, x2, hpe, hpc, hpC⟩ := HMP.out.at_ m hm
                rw [e1] at c1
                have hi0 : (0 : Int) ≤ (m : Int) := by omega
                have hi1 : (m : Int) < (l.length : Int) := by omega
                have d1 : WP.cell? ⟨w.heap.size, 0, none⟩ = some (.pointer (some ⟨g, 0, none⟩)) := (blk_cell HPO.out.e1 0).trans rfl
                have HSRI := HPO.out.sr_in (n := l.length) HP.out.len.symm
                have hki2 : ∀ k ∈ l[m].f0, k < (l.length : Int) := (HO.out.pl _ (List.getElem_mem hm)).2
                have HCALL := Aside0.mk (reach_calls WP HMP.out HOK.out HPO.out HP.out.len (by have := HP.out.sum; simp at this; omega) A c l[m].f0
                  (fun W hW => by
                    have h_ := (HMP.out.fr (W' := W) hW (fun k hk hs => by have h1_ := (HSRI k hs).1; have h2_ := HOK.out k hk; omega))
                    exact h_.atC hm (by rw [List.getElem?_eq_getElem (by have := h_.len; omega), hpe]) (by rw [thAt_eq hm])) hki2 (HO.out.pl _ (List.getElem_mem hm)).1 HBP.out.size)
                have HST := HP.out.step (by rw [Int.toNat_natCast, thAt_eq hm]; exact hki2)
                rw [Int.toNat_natCast, thAt_eq hm] at HST
                have HST := Aside0.mk HST
                obtain ⟨st2, hst2⟩ : ∃ s, s = (reachL l (st, td) l[m].f0).1 := ⟨_, rfl⟩
                obtain ⟨td2, htd2⟩ : ∃ s, s = (reachL l (st, td) l[m].f0).2 := ⟨_, rfl⟩
                rw [← hst2, ← htd2] at HCALL HST
                generalize l[m].f0 = fs at x0 HCALL
                clear e2 hget HX e1 hqo x1 x2 hpe hpc hpC hki2 HSRI hst2 htd2 hg4
                subst hWP
                go_wp2_with fail
                refine HCALL.out.mono ?_
                rintro e w3 ⟨rfl, ⟨vT3, hmi3⟩, hb3, hf3⟩
                have HMI3 := Aside0.mk hmi3
                have HB3 : Aside0 (Below w.heap.size w w3) := ⟨HBP.out.trans hb3⟩
                clear hmi3 hb3 hf3
                go_wp2_with fail
                go_roundg (td2.length + st2.count false)
                case measure => have := HKQ.out; have := HST.out.2; omega
                case rel => exact ⟨vT3, st2, td2, ⟨rfl⟩, HMI3, ⟨HST.out.1⟩, HB3⟩
              · skip
                have HPO := Aside0.mk (HW.out.pop (v2 := .slice (some ⟨b, off + 1, none⟩) td.length (cT - 1)) (td := td) (by have h_ := RowQ.tail (x := .int .i64 (m : Int)) (xs := td.map (Value.int .i64)) HW.out.tq; rwa [List.length_map] at h_))
                have hg4 : w.heap.size + 1 + 1 + 1 ≠ g := by have := HOK.out g HM.out.gok; omega
                obtain ⟨WP, hWP⟩ : ∃ WP, WP = wr.setCell ⟨w.heap.size + 1 + 1 + 1, 0, none⟩ (.slice (some ⟨b, off + 1, none⟩) td.length (cT - 1)) := ⟨_, rfl⟩
                have HBP : Aside0 (Below w.heap.size w WP) := ⟨by rw [hWP]; exact HB.out.setCell (p := ⟨w.heap.size + 1 + 1 + 1, 0, none⟩) (by show w.heap.size ≤ w.heap.size + 1 + 1 + 1; omega) _⟩
                have HMP := Aside0.mk (HM.out.below HBP.out)
                rw [← hWP] at HPO
                have c1 := HMP.out.c1
                obtain ⟨q, capq, A, c, e1, hqo, x0, x1, x2, hpe, hpc, hpC⟩ := HMP.out.at_ m hm
                rw [e1] at c1
                have hi0 : (0 : Int) ≤ (m : Int) := by omega
                have hi1 : (m : Int) < (l.length : Int) := by omega
                have d1 : WP.cell? ⟨w.heap.size, 0, none⟩ = some (.pointer (some ⟨g, 0, none⟩)) := (blk_cell HPO.out.e1 0).trans rfl
                have HSRI := HPO.out.sr_in (n := l.length) HP.out.len.symm
                have hki2 : ∀ k ∈ l[m].f0, k < (l.length : Int) := (HO.out.pl _ (List.getElem_mem hm)).2
                have HCALL := Aside0.mk (reach_calls WP HMP.out HOK.out HPO.out HP.out.len (by have := HP.out.sum; simp at this; omega) A c l[m].f0
                  (fun W hW => by
                    have h_ := (HMP.out.fr (W' := W) hW (fun k hk hs => by have h1_ := (HSRI k hs).1; have h2_ := HOK.out k hk; omega))
                    exact h_.atC hm (by rw [List.getElem?_eq_getElem (by have := h_.len; omega), hpe]) (by rw [thAt_eq hm])) hki2 (HO.out.pl _ (List.getElem_mem hm)).1 HBP.out.size)
                have HST := HP.out.step (by rw [Int.toNat_natCast, thAt_eq hm]; exact hki2)
                rw [Int.toNat_natCast, thAt_eq hm] at HST
                have HST := Aside0.mk HST
                obtain ⟨st2, hst2⟩ : ∃ s, s = (reachL l (st, td) l[m].f0).1 := ⟨_, rfl⟩
                obtain ⟨td2, htd2⟩ : ∃ s, s = (reachL l (st, td) l[m].f0).2 := ⟨_, rfl⟩
                rw [← hst2, ← htd2] at HCALL HST
                generalize l[m].f0 = fs at x0 HCALL
                clear e2 hget HX e1 hqo x1 x2 hpe hpc hpC hki2 HSRI hst2 htd2 hg4
                subst hWP
                go_wp2_with fail
                refine HCALL.out.mono ?_
                rintro e w3 ⟨rfl, ⟨vT3, hmi3⟩, hb3, hf3⟩
                have HMI3 := Aside0.mk hmi3
                have HB3 : Aside0 (Below w.heap.size w w3) := ⟨HBP.out.trans hb3⟩
                clear hmi3 hb3 hf3
                go_wp2_with fail
                go_roundg (td2.length + st2.count false)
                case measure => have := HKQ.out; have := HST.out.2; omega
                case rel => exact ⟨vT3, st2, td2, ⟨rfl⟩, HMI3, ⟨HST.out.1⟩, HB3⟩
        · intro x w1 cnt1 hx hl hs hsr hlt hgr hsz hen
          have hin := HRM.out x hx hs
          obtain ⟨m, rfl⟩ : ∃ m : Nat, x = m := ⟨x.toNat, by omega⟩
          have hm : m < l.length := by omega
          have hrge : w.heap.size ≤ wo.heap.size := HR0.out
          have HB1 : Aside0 (Below w.heap.size w w1) := ⟨HB.out.grown hgr HB.out.size (fun k hk => by injection hk with hk; omega)⟩
          have HM1 := Aside0.mk (HM.out.below HB1.out)
          have c1 := HM1.out.c1
          obtain ⟨q, cap, A, c, e1, hqo, x0, x1, x2, hpe, hpc, hpC⟩ := HM1.out.at_ m hm
          rw [e1] at c1
          have hi0 : (0 : Int) ≤ (m : Int) := by omega
          have hi1 : (m : Int) < (l.length : Int) := by omega
          have HWM : Aside0 (Mi w1 w.heap.size w.heap.size (w.heap.size + 1 + 1) (w.heap.size + 1 + 1 + 1) g (some ⟨w.heap.size + 1, 0, none⟩) l.length st vT td) := ⟨HW.out.same (fun k cs ty fr hk => hgr.block k (blk_lt hk) (fun e => HSR.out.ne hk (Option.some.inj e).symm))⟩
          have d1 : w1.cell? ⟨w.heap.size, 0, none⟩ = some (.pointer (some ⟨g, 0, none⟩)) := (blk_cell HWM.out.e1 0).trans rfl
          have HSRI := HWM.out.sr_in (n := l.length) HP.out.1.len.symm
          have hki2 : ∀ k ∈ l[m].f0, k < (l.length : Int) := (HO.out.pl _ (List.getElem_mem hm)).2
          have hks : ∀ k ∈ l[m].f0, k < (((st, td) : List Bool × List Int).1.length : Int) := fun k hk => by show k < (st.length : Int); rw [HP.out.1.len]; exact hki2 k hk
          have hf0 : l[m].f0 = (thAt l m).f0 := by rw [thAt_eq hm]
          have HCALL := Aside0.mk (reach_calls w1 HM1.out HOK.out HWM.out HP.out.1.len (by have := HP.out.1.sum; omega) A c l[m].f0
            (fun W hW => by
              have h_ := (HM1.out.fr (W' := W) hW (fun k hk hs => by have h1_ := (HSRI k hs).1; have h2_ := HOK.out k hk; omega))
              exact h_.atC hm (by rw [List.getElem?_eq_getElem (by have := h_.len; omega), hpe]) (by rw [thAt_eq hm])) hki2 (HO.out.pl _ (List.getElem_mem hm)).1 HB1.out.size)
          have HP2 : Aside0 (Pre l rm (reachL l (st, td) l[m].f0).1 (reachL l (st, td) l[m].f0).2 ∧ HeldTo l (reachL l (st, td) l[m].f0).1 l.length ∧ RemTo l rm (fun z => left z && !(z == (m : Int))) (reachL l (st, td) l[m].f0).1) := ⟨HP.out.1.reach hki2 (fun k hk hy => YR.rem hs hi0 hi1 (by rw [Int.toNat_natCast, ← hf0]; exact hk) hy),
            fun n hn h1 h2 => reachL_mono hks n (HP.out.2.1 n hn h1 h2), HP.out.2.2.next (fun n hn => reachL_mono hks n hn) (fun k hk hy => reachL_has hks (by rw [Int.toNat_natCast, ← hf0] at hk; exact hk) hy)⟩
          obtain ⟨st2, hst2⟩ : ∃ s, s = (reachL l (st, td) l[m].f0).1 := ⟨_, rfl⟩
          obtain ⟨td2, htd2⟩ : ∃ s, s = (reachL l (st, td) l[m].f0).2 := ⟨_, rfl⟩
          rw [← hst2, ← htd2] at HCALL HP2
          have HSR1 := Aside0.mk hsr
          have HLT := Aside0.mk hlt
          have HSRN : Aside0 (∀ k, Sr (w.heap.size + 1 + 1 + 1) (.slice (some ⟨w.heap.size + 1, 0, none⟩) l.length l.length) vT k → k ≠ wo.heap.size ∧ k ≠ mb) := ⟨by
            have hmbk := HOK.out mb HM.out.mok
            intro k hk
            refine ⟨?_, fun e => by have := (HSRI k hk).1; omega⟩
            rintro rfl
            rcases hk with h1 | h1 | h1
            · exact HSR1.out.ne HWM.out.e4 h1
            · obtain ⟨cs_, hcs⟩ := own_ty HWM.out.sr _ (by rw [HP.out.1.len]; exact h1)
              exact HSR1.out.ne hcs rfl
            · obtain ⟨cs_, hcs⟩ := HWM.out.tq.ty _ h1
              exact HSR1.out.ne hcs rfl⟩
          generalize l[m].f0 = fs at x0 HCALL
          clear hin hx hl hs hsr hlt hgr hpe hpc hpC x1 x2 hqo e1 hst2 htd2 hks hki2 HSRI hf0 hrge
          go_wp2_with fail
          refine HCALL.out.mono ?_
          rintro e w3 ⟨rfl, ⟨vT3, hmi3⟩, hb3, hf3⟩
          have HSR3 := Aside0.mk (HSR1.out.same (hf3.blk mb HSR1.out.isSet.lt (fun h_ => (HSRN.out _ h_).2 rfl)) (hf3.blk _ HSR1.out.lt (fun h_ => (HSRN.out _ h_).1 rfl)))
          have HMI3 := Aside0.mk hmi3
          have HB3 : Aside0 (Below w.heap.size w w3) := ⟨HB1.out.trans hb3⟩
          clear hmi3 hb3 hf3
          go_wp2_with fail
          go_roundg cnt1
          case measure => exact HLT.out
          case rel => exact ⟨_, vT3, st2, td2, HSR3, HMI3, HP2, HB3⟩
end Go.Proofs.Ytnimidkeoocchaa.Gen
