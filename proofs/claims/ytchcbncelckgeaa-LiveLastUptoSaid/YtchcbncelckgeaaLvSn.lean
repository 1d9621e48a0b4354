/- Package live walked: Spans. -/
import Derived.Test.YtchcbncelckgeaaLvSk
set_option linter.unusedVariables false
set_option linter.unusedSimpArgs false
namespace Go.Proofs.Ytchcbncelckgeaa.Lv
open Go.RowKit Go.Proofs.YtchcbncelckgeaaW.PrintWords Go.Proofs.YtchcbncelckgeaaW.PrintLast Go.Proofs.YtchcbncelckgeaaW.PrintMore Go.Proofs.Ytchcbncelckgeaa.PZ Go.Proofs.Ytchcbncelckgeaa.Hnd Go.Lib
attribute [local go_sem] max2_int min2_int max_two min_two max_three min_three max_four min_four

def insS (t : TT) (o : List SP) (i : Nat) : List SP :=
  if 0 ≤ (rd_T103 t.f3 (i : Int)).f5 then askS t.f2 (t.f3.length : Int) (i : Int) (askS t.f2 (t.f3.length : Int) (i : Int) o (asksL (rd_T103 t.f3 (i : Int)))) (valuesL (rd_T31 t.f4 (rd_T103 t.f3 (i : Int)).f5)) else askS t.f2 (t.f3.length : Int) (i : Int) o (asksL (rd_T103 t.f3 (i : Int)))
def spTo (t : TT) (i : Nat) : List SP := (List.range i).foldl (insS t) (List.replicate t.f3.length ⟨-1, -1⟩)
def turnS (lp : Int) (o : List SP) (v : Int) : List SP := o.set v.toNat ⟨v, mx (rd_T105 o v).f1 lp⟩
def spBack (t : TT) : List SP := askS t.f2 (t.f3.length : Int) (t.f3.length : Int) (spTo t t.f3.length) (valuesL t.f6)
def spansL (t : TT) : List SP := if 0 < t.f2 then (valuesL t.f5).foldl (turnS t.f2) (spBack t) else spBack t
theorem insS_len (t : TT) (o : List SP) (i : Nat) : (insS t o i).length = o.length := by unfold insS; split <;> simp only [askS_len]
theorem spTo_len (t : TT) (i : Nat) : (spTo t i).length = t.f3.length := by
  unfold spTo
  induction i with
  | zero => simp
  | succ i ih => rw [List.range_succ, List.foldl_append]; simp only [List.foldl_cons, List.foldl_nil]; rw [insS_len, ih]
theorem spTo_succ (t : TT) (i : Nat) : spTo t (i + 1) = insS t (spTo t i) i := by unfold spTo; rw [List.range_succ, List.foldl_append]; rfl
theorem turn_len (lp : Int) (l : List Int) : ∀ o : List SP, (l.foldl (turnS lp) o).length = o.length := by
  induction l with
  | nil => intro o; rfl
  | cons v l ih => intro o; rw [List.foldl_cons, ih]; unfold turnS; rw [List.length_set]
theorem allB_mem {ins : List TI} {l : List Int} {at_ : Int} (h : allB ins l at_ = true) : ∀ v ∈ l, 0 ≤ v ∧ v < at_ ∧ v < (ins.length : Int) := by
  intro v hv
  unfold allB at h
  have h1 : l.any (badV ins at_) = false := by simpa using h
  have h2 := List.any_eq_false.1 h1 v hv
  unfold badV at h2
  by_cases a0 : v < 0
  · rw [if_pos a0] at h2; exact absurd rfl h2
  · rw [if_neg a0] at h2
    by_cases a1 : at_ ≤ v
    · rw [if_pos a1] at h2; exact absurd rfl h2
    · rw [if_neg a1] at h2
      by_cases a2 : (ins.length : Int) ≤ v
      · rw [if_pos a2] at h2; exact absurd rfl h2
      · exact ⟨by omega, by omega, by omega⟩
theorem oneB_parts {ins : List TI} {exs : List TX} {i : Int} (h : oneB ins exs i = true) : allB ins (asksL (rd_T103 ins i)) i = true ∧ (rd_T103 ins i).f5 < (exs.length : Int) ∧ -1 ≤ (rd_T103 ins i).f5 ∧ (0 ≤ (rd_T103 ins i).f5 → allB ins (valuesL (rd_T31 exs (rd_T103 ins i).f5)) i = true) := by
  unfold oneB at h
  simp only [Bool.and_eq_true, decide_eq_true_eq] at h
  obtain ⟨_, h1, h2, h3, h4⟩ := h
  refine ⟨h1, h3, h2, fun h0 => ?_⟩
  rw [if_pos h0] at h4
  exact h4
/-- A list that a call has handed over, told apart from one older block. -/
theorem R_apart {d : Kd Int} {w w' : World} {b : Nat} {A : Option Addr} {c : Nat} {l : List Int} {e : Nat} (h : d.R e w' w.heap.size (fun _ => True) (.slice A l.length c) l) (hb : b < w.heap.size) : d.F w' (fun k => k ≠ b) A l.length l := Kd.R_F (Kd.R_mono (Kd.R_bound h) (fun k hk => by have := hk.2.1; omega))
theorem ask_calls_n (w : World) {A3 : Option Addr} {c3 : Nat} {A4 : Option Addr} {c4 : Nat} {A7 : Option Addr} {c7 : Nat} {A8 : Option Addr} {c8 : Nat} {A11 : Option Addr} {c11 : Nat} {A12 : Option Addr} {c12 : Nat} (t : TT) (b1 b5 b6 b2 : Nat) (o : List SP) (n : Nat) (hol : o.length = n) (at_ : Int) (A : Option Addr) (c : Nat) (l : List Int)
    (h1 : w.heap[b1]? = some (.cells #[.int .i64 t.f0, .int .i64 t.f1, .int .i64 t.f2, .slice A3 t.f3.length c3, .slice A4 t.f4.length c4, .int .i64 t.f5.f0, .int .i64 t.f5.f1, .slice A7 t.f5.f2.length c7, .slice A8 t.f5.f3.length c8, .int .i64 t.f6.f0, .int .i64 t.f6.f1, .slice A11 t.f6.f2.length c11, .slice A12 t.f6.f3.length c12] 97 (0, 0))) (h5 : w.heap[b5]? = some (.cells #[.int .i64 (n : Int)] 3 (0, 0))) (h6 : w.heap[b6]? = some (.cells #[.slice (some ⟨b2, 0, none⟩) n n] 98 (0, 0))) (h2 : w.heap[b2]? = some (.cells (cellsS o).toArray 105 (0, 0)))
    (hl : (Kd.int .i64).F w (fun k => k ≠ b2) A l.length l) (hz : l.length ≤ 2000000) (hv : ∀ v ∈ l, 0 ≤ v ∧ v < (n : Int)) :
    Calls Try.prog 63 #[.int .i64 at_, .slice A l.length c, .pointer (some ⟨b1, 0, none⟩), .pointer (some ⟨b5, 0, none⟩), .pointer (some ⟨b6, 0, none⟩)] w fun e w' => e = .returned (.tuple #[]) ∧ w'.heap[b2]? = some (.cells (cellsS (askS t.f2 (n : Int) at_ o l)).toArray 105 (0, 0)) ∧ Kb b2 w w' := by
  subst hol
  exact ask_calls w t b1 b5 b6 b2 o at_ A c l h1 h5 h6 h2 hl hz hv
/-- A call of a function value, by its contract, in a region that draws its order. -/
theorem goesC_ {P : Program} {ops : Array Oper} {Q : Exit → Act → World → Prop} {oi : Oper} {N : Option Tmp} {a : Act} {w : World} {K : Act → World → Prop} {f : FuncId} {fn : Func} {ags : Array Operand} {ts : Array TypeId} {s : Tmp} (hf : P.funcs[f]? = some fn) (hname : (fn.name == "runtime.NumGoroutine") = false) (hb : fn.body.isSome = true) (args caps all_ : Array Value) (hall : args ++ caps = all_)
    (hw : Region.wanted oi (yielded ops a.tmps) = true) (hN : oi.dst = N) (hop : oi.op = .call { callee := .value (.tmp s), args := ags, argTypes := ts }) (hs : a.eval (.tmp s) = .func (.func f) #[] caps) (hargs : ags.map a.eval = args)
    (h : Calls P f all_ w fun e w' => ∃ v, e = .returned v ∧ K (a.put N v) w') : if Region.wanted oi (yielded ops a.tmps) = true then Oper.wp P oi a w K Q else K (a.put N undef) w := by
  subst hall
  refine call_ f (args ++ caps) hw hN ?_ h
  have he := enters_ hf hname hb (args ++ caps) w
  unfold execOp
  simp [hop, resolve, Deferred.ofValue, invoke, hs, hargs, he]
set_option maxHeartbeats 16000000 in
set_option maxRecDepth 100000 in
theorem spans_calls (w : World) {A3 : Option Addr} {c3 : Nat} {A4 : Option Addr} {c4 : Nat} {A7 : Option Addr} {c7 : Nat} {A8 : Option Addr} {c8 : Nat} {A11 : Option Addr} {c11 : Nat} {A12 : Option Addr} {c12 : Nat} (t : TT) (hm : TMem w (A3 := A3) (c3 := c3) (A4 := A4) (c4 := c4) (A7 := A7) (c7 := c7) (A8 := A8) (c8 := c8) (A11 := A11) (c11 := c11) (A12 := A12) (c12 := c12) t) (hz : TSz t) :
    Calls Try.prog 37 #[.agg #[.int .i64 t.f0, .int .i64 t.f1, .int .i64 t.f2, .slice A3 t.f3.length c3, .slice A4 t.f4.length c4, .int .i64 t.f5.f0, .int .i64 t.f5.f1, .slice A7 t.f5.f2.length c7, .slice A8 t.f5.f3.length c8, .int .i64 t.f6.f0, .int .i64 t.f6.f1, .slice A11 t.f6.f2.length c11, .slice A12 t.f6.f3.length c12]] w fun e w' => ∃ (v : Value) (er : Int), e = .returned (.tuple #[v, .int .i64 er]) ∧ (er = 0 ↔ GoodT t.f2 t.f3 t.f4 t.f5 t.f6) ∧ (er ≠ 0 → v = .slice none 0 0) ∧ (er = 0 → ∃ b2, v = .slice (some ⟨b2, 0, none⟩) t.f3.length t.f3.length ∧ w.heap.size ≤ b2 ∧ w'.heap[b2]? = some (.cells (cellsS (spansL t)).toArray 105 (0, 0))) ∧ Below w.heap.size w w' := by
  obtain ⟨o1, ho1⟩ : ∃ ob, ob = Obj.cells #[.int .i64 t.f0, .int .i64 t.f1, .int .i64 t.f2, .slice A3 t.f3.length c3, .slice A4 t.f4.length c4, .int .i64 t.f5.f0, .int .i64 t.f5.f1, .slice A7 t.f5.f2.length c7, .slice A8 t.f5.f3.length c8, .int .i64 t.f6.f0, .int .i64 t.f6.f1, .slice A11 t.f6.f2.length c11, .slice A12 t.f6.f3.length c12] 97 := ⟨_, rfl⟩
  have hal := below_alloc (Below.refl w.heap.size w) o1
  have HT : Aside0 ((w.alloc o1).heap[w.heap.size]? = some (.cells #[.int .i64 t.f0, .int .i64 t.f1, .int .i64 t.f2, .slice A3 t.f3.length c3, .slice A4 t.f4.length c4, .int .i64 t.f5.f0, .int .i64 t.f5.f1, .slice A7 t.f5.f2.length c7, .slice A8 t.f5.f3.length c8, .int .i64 t.f6.f0, .int .i64 t.f6.f1, .slice A11 t.f6.f2.length c11, .slice A12 t.f6.f3.length c12] 97 (0, 0))) := ⟨by rw [ho1]; exact blk_new w _⟩
  have HB := Aside0.mk hal
  have HM := Aside0.mk hm
  have HZ := Aside0.mk hz
  clear hal hm hz
  go_enter Try.func37, Try.ntmps37
  go_upto_region 1 with fail
  rw [← ho1]
  clear ho1
  generalize w.alloc o1 = wa at HT HB ⊢
  have t0 := (blk_cell HT.out 0).trans rfl
  have t1 := (blk_cell HT.out 1).trans rfl
  have t2 := (blk_cell HT.out 2).trans rfl
  have t3 := (blk_cell HT.out 3).trans rfl
  have t4 := (blk_cell HT.out 4).trans rfl
  have t5 := (blk_cell HT.out 5).trans rfl
  have t6 := (blk_cell HT.out 6).trans rfl
  have t7 := (blk_cell HT.out 7).trans rfl
  have t8 := (blk_cell HT.out 8).trans rfl
  have t9 := (blk_cell HT.out 9).trans rfl
  have t10 := (blk_cell HT.out 10).trans rfl
  have t11 := (blk_cell HT.out 11).trans rfl
  have t12 := (blk_cell HT.out 12).trans rfl
  go_wp2_with fail
  refine (check_calls _ t (HM.out.below HB.out) HZ.out).mono ?_
  rintro e w2 ⟨er, rfl, hiff, hb2⟩
  have HB2 := Aside0.mk (below_step HB.out hb2)
  have HT2 := Aside0.mk (blk_below HT.out hb2)
  have HIFF := Aside0.mk hiff
  clear hiff hb2 HB HT t0 t1 t2 t3 t4 t5 t6 t7 t8 t9 t10 t11 t12
  by_cases her : er = 0
  · subst her
    have HGD : Aside0 (GoodT t.f2 t.f3 t.f4 t.f5 t.f6) := ⟨HIFF.out.1 (by first | rfl | trivial)⟩
    have he0 : ((0 : Int) != 0) = false := by decide
    obtain ⟨o5, ho5⟩ : ∃ ob, ob = Obj.cells #[.int .i64 (t.f3.length : Int)] 3 := ⟨_, rfl⟩
    obtain ⟨oL, hoL⟩ : ∃ ob, ob = Obj.cells #[.int .i64 (-1), .int .i64 (-1)] 105 := ⟨_, rfl⟩
    have hal5 := below_alloc (Below.refl w2.heap.size w2) o5
    have halL := below_alloc hal5 oL
    have hsz5 : (w2.alloc o5).heap.size = w2.heap.size + 1 := Array.size_push _
    have HB3 := Aside0.mk (below_step HB2.out halL)
    have HT3 := Aside0.mk (blk_below HT2.out halL)
    have H53 : Aside0 (((w2.alloc o5).alloc oL).heap[w2.heap.size]? = some (.cells #[.int .i64 (t.f3.length : Int)] 3 (0, 0))) := ⟨blk_alloc (by rw [ho5]; exact blk_new w2 _) _⟩
    have HL3 : Aside0 (((w2.alloc o5).alloc oL).heap[w2.heap.size + 1]? = some (.cells #[.int .i64 (-1), .int .i64 (-1)] 105 (0, 0))) := ⟨by
      have h_ := blk_new (w2.alloc o5) oL
      rw [hsz5] at h_
      rw [hoL] at h_ ⊢
      exact h_⟩
    have t3 := (blk_cell HT2.out 3).trans rfl
    have n5 : ((w2.alloc o5).alloc oL).cell? ⟨w2.heap.size, 0, none⟩ = some (.int .i64 (t.f3.length : Int)) := (blk_cell H53.out 0).trans rfl
    rw [ho5, hoL] at n5
    clear hal5 halL
    go_wp2_with fail
    rw [← ho5, ← hoL]
    have hn5 : Aside0 (w2.heap.size < ((w2.alloc o5).alloc oL).heap.size ∧ w2.heap.size ≤ ((w2.alloc o5).alloc oL).heap.size) := ⟨⟨blk_lt H53.out, Nat.le_of_lt (blk_lt H53.out)⟩⟩
    refine (repeat_calls _ (w2.heap.size + 1) t.f3.length HL3.out HGD.out.n).mono ?_
    rintro e w5 ⟨b2, rfl, hb2le, hb2c, hb5⟩
    clear n5 t3 hsz5 ho5 hoL HL3
    generalize (w2.alloc o5).alloc oL = w4 at HB3 HT3 H53 hn5 hb2le hb5
    have HB5 := Aside0.mk (below_step HB3.out hb5)
    have HT5 := Aside0.mk (blk_below HT3.out hb5)
    have H55 := Aside0.mk (blk_below H53.out hb5)
    have HBL : Aside0 (w2.heap.size < b2 ∧ w.heap.size ≤ w2.heap.size) := ⟨⟨Nat.lt_of_lt_of_le hn5.out.1 hb2le, HB2.out.size⟩⟩
    generalize w2.heap.size = b5 at H55 HBL ⊢
    obtain ⟨o6, ho6⟩ : ∃ ob, ob = Obj.cells #[.slice (some ⟨b2, 0, none⟩) t.f3.length t.f3.length] 98 := ⟨_, rfl⟩
    have hal6 := below_alloc (Below.refl w5.heap.size w5) o6
    have HB6 := Aside0.mk (below_step HB5.out hal6)
    have HT6 := Aside0.mk (blk_below HT5.out hal6)
    have H56 := Aside0.mk (blk_below H55.out hal6)
    have H66 : Aside0 ((w5.alloc o6).heap[w5.heap.size]? = some (.cells #[.slice (some ⟨b2, 0, none⟩) t.f3.length t.f3.length] 98 (0, 0))) := ⟨by rw [ho6]; exact blk_new w5 _⟩
    have H26 : Aside0 ((w5.alloc o6).heap[b2]? = some (.cells (cellsS (spTo t 0)).toArray 105 (0, 0))) := ⟨by
      have h_ := blk_below hb2c hal6
      rw [← cellsS_rep] at h_
      exact h_⟩
    have s3 : (w5.alloc o6).cell? ⟨w.heap.size, 3, none⟩ = some (.slice A3 t.f3.length c3) := (blk_cell HT6.out 3).trans rfl
    rw [ho6] at s3
    clear hal6 HB2 HT2 HB3 HT3 H53 hn5 hb2le hb2c hb5 HB5 HT5 H55
    go_upto_region 8 with fail
    rw [← ho6]
    clear ho6 s3
    generalize w5.alloc o6 = w6 at HB6 HT6 H56 H66 H26 ⊢
    generalize w5.heap.size = b6 at H66 ⊢
    have HLT2 : Aside0 (b2 < w6.heap.size) := ⟨blk_lt H26.out⟩
    obtain ⟨b1, hb1⟩ : ∃ b1, b1 = w.heap.size := ⟨_, rfl⟩
    have HN2 : Aside0 (b1 ≠ b2 ∧ b5 ≠ b2 ∧ b6 ≠ b2) := ⟨⟨by have := HBL.out; omega, by have := HBL.out; omega, fun e => by
      have h_ := H66.out
      rw [e, H26.out] at h_
      injection h_ with h_
      injection h_ with _ h_
      exact absurd h_ (by decide)⟩⟩
    rw [← hb1] at HT6 ⊢
    have HB1 := Aside0.mk hb1
    clear hb1
    have HNL : Aside0 (t.f3.length ≤ 300) := ⟨HGD.out.n⟩
    go_loopg [28] t.f3.length (fun kq v28 W => ∃ i : Nat, v28 = .int .i64 (i : Int) ∧ Aside0 (i ≤ t.f3.length ∧ kq = t.f3.length - i) ∧ Aside0 (W.heap[b2]? = some (.cells (cellsS (spTo t i)).toArray 105 (0, 0))) ∧ Aside0 (Kb b2 w6 W))
    case atStart => exact ⟨0, rfl, ⟨Nat.zero_le _, by omega⟩, H26, ⟨Kb.refl _ _⟩⟩
    case round =>
      obtain ⟨i, rfl, HIQ, HS, HK⟩ := hrel
      have hbw : Below w.heap.size w wr := HB6.out.trans (below_cut HK.out.below (by have := HBL.out; omega))
      have HBW := Aside0.mk hbw
      clear hbw
      by_cases hlt : i < t.f3.length
      · have hi0 : (0 : Int) ≤ (i : Int) := by omega
        have hi1 : (i : Int) < (t.f3.length : Int) := by omega
        have hdec : decide ((i : Int) < (t.f3.length : Int)) = true := decide_eq_true hi1
        have hdec2 : decide (i < t.f3.length) = true := decide_eq_true hlt
        have HLT := Aside0.mk hlt
        have HW64 : Aside0 (wrap64 ((i : Int) + 1) = ((i + 1 : Nat) : Int)) := ⟨by have := HNL.out; unfold wrap64; omega⟩
        obtain ⟨ad, eA, y0, y1, y2, y3, y4, y5, y6, y7⟩ := at_T103 (HM.out.below HBW.out).i (i : Int) (by omega) (by omega)
        subst eA
        rw [Int.toNat_natCast] at y0 y1 y2 y3 y4 y5 y6 y7
        obtain ⟨x, hx⟩ : ∃ x, x = rd_T103 t.f3 (i : Int) := ⟨_, rfl⟩
        rw [← hx] at y0 y1 y2 y3 y4 y5 y6 y7
        obtain ⟨h1p, h2p, h3p, h4p⟩ := oneB_parts (HGD.out.one i hlt)
        rw [← hx] at h1p h2p h3p h4p
        have HVA : Aside0 (∀ v ∈ asksL x, 0 ≤ v ∧ v < (i : Int) ∧ v < (t.f3.length : Int)) := ⟨allB_mem h1p⟩
        have H2P := Aside0.mk (And.intro h2p h3p)
        have H4P := Aside0.mk h4p
        have HX := Aside0.mk hx
        obtain ⟨o9, ho9⟩ : ∃ ob, ob = Obj.cells #[.int .i64 x.f0, .int .i64 x.f1, .int .i64 x.f2, .int .i64 x.f3, .int .i64 x.f4, .int .i64 x.f5, .int .i64 x.f6.f0, .int .i64 x.f6.f1] 103 := ⟨_, rfl⟩
        have hal := below_alloc (Below.refl wr.heap.size wr) o9
        have HK9 : Aside0 (Kb b2 w6 (wr.alloc o9)) := ⟨HK.out.trans (Kb.of_below hal (blk_lt HS.out))⟩
        have HS9 := Aside0.mk (blk_below HS.out hal)
        have HX9 : Aside0 ((wr.alloc o9).heap[wr.heap.size]? = some (.cells #[.int .i64 x.f0, .int .i64 x.f1, .int .i64 x.f2, .int .i64 x.f3, .int .i64 x.f4, .int .i64 x.f5, .int .i64 x.f6.f0, .int .i64 x.f6.f1] 103 (0, 0))) := ⟨by rw [ho9]; exact blk_new wr _⟩
        have HB9 := Aside0.mk (below_step HBW.out hal)
        have HLB : Aside0 (b2 < (wr.alloc o9).heap.size ∧ wr.heap.size ≠ b2) := ⟨⟨blk_lt HS9.out, fun e => by have := blk_lt HS.out; omega⟩⟩
        clear h1p h2p h3p h4p hx hlt hal HS HK HBW
        go_upto_region 10 with fail
        rw [← ho9]
        clear ho9 y0 y1 y2 y3 y4 y5 y6 y7
        generalize wr.alloc o9 = w9 at HK9 HS9 HX9 HB9 HLB ⊢
        generalize wr.heap.size = b9 at HX9 HLB ⊢
        have x0 := (blk_cell HX9.out 0).trans rfl
        have x1 := (blk_cell HX9.out 1).trans rfl
        have x2 := (blk_cell HX9.out 2).trans rfl
        have x3 := (blk_cell HX9.out 3).trans rfl
        have x4 := (blk_cell HX9.out 4).trans rfl
        have x5 := (blk_cell HX9.out 5).trans rfl
        have x6 := (blk_cell HX9.out 6).trans rfl
        have x7 := (blk_cell HX9.out 7).trans rfl
        go_wp2_with fail
        refine (asks_calls _ x).mono ?_
        rintro e wq ⟨vq, rfl, hRQ, hbq⟩
        obtain ⟨AQ, cq, rfl⟩ := Kd.R_slice hRQ
        have HRQ := Aside0.mk (R_apart hRQ HLB.out.1)
        have HKq : Aside0 (Kb b2 w6 wq) := ⟨HK9.out.trans (Kb.of_below hbq HLB.out.1)⟩
        have HSq := Aside0.mk (blk_below HS9.out hbq)
        have HXq := Aside0.mk (blk_below HX9.out hbq)
        have HBq := Aside0.mk (below_step HB9.out hbq)
        have HCQ : Aside0 (Calls Try.prog 63 #[.int .i64 (i : Int), .slice AQ (asksL x).length cq, .pointer (some ⟨b1, 0, none⟩), .pointer (some ⟨b5, 0, none⟩), .pointer (some ⟨b6, 0, none⟩)] wq fun e w' => e = .returned (.tuple #[]) ∧ w'.heap[b2]? = some (.cells (cellsS (askS t.f2 (t.f3.length : Int) (i : Int) (spTo t i) (asksL x))).toArray 105 (0, 0)) ∧ Kb b2 wq w') := ⟨by
          have hol : (spTo t i).length = t.f3.length := spTo_len t i
          have h_ := ask_calls wq t b1 b5 b6 b2 (spTo t i) (i : Int) AQ cq (asksL x) (HKq.out.blk HT6.out HN2.out.1) (by rw [hol]; exact HKq.out.blk H56.out HN2.out.2.1) (by rw [hol]; exact HKq.out.blk H66.out HN2.out.2.2) HSq.out HRQ.out (by have := asks_len x; omega) (fun v hv => by have h1_ := HVA.out v hv; rw [hol]; exact ⟨h1_.1, h1_.2.2⟩)
          rw [hol] at h_
          exact h_⟩
        clear hRQ hbq x0 x1 x2 x3 x4 x5 x6 x7 HK9 HS9 HX9 HB9
        go_wp2_with fail
        refine HCQ.out.mono ?_
        rintro e wu ⟨rfl, hsu, hku⟩
        have HSu := Aside0.mk hsu
        have HKu := Aside0.mk (HKq.out.trans hku)
        have HXu := Aside0.mk (hku.blk HXq.out HLB.out.2)
        have HBu : Aside0 (Below w.heap.size w wu) := ⟨HBq.out.trans (below_cut hku.below (by have := HBL.out; omega))⟩
        have HLu : Aside0 (b2 < wu.heap.size) := ⟨blk_lt hsu⟩
        clear hsu hku HCQ HKq HSq HXq HBq HRQ
        have x5 := (blk_cell HXu.out 5).trans rfl
        by_cases h5 : 0 ≤ x.f5
        · have hd5 : decide (0 ≤ x.f5) = true := decide_eq_true h5
          have hd5b : decide (x.f5 ≥ 0) = true := decide_eq_true h5
          have p5 : x.f5 < (t.f4.length : Int) := H2P.out.1
          obtain ⟨adE, Y2, d2, Y3, d3, eE, u0, u1, u2, u3, hyc2, hyK2, hyc3, hyK3⟩ := at_T31 (HM.out.below HBu.out).e x.f5 h5 p5
          subst eE
          have HYE : Aside0 (spTo t (i + 1) = askS t.f2 (t.f3.length : Int) (i : Int) (askS t.f2 (t.f3.length : Int) (i : Int) (spTo t i) (asksL x)) (valuesL (rd_T31 t.f4 x.f5))) := ⟨by rw [spTo_succ]; unfold insS; rw [← HX.out, if_pos h5]⟩
          have hva := allB_mem (H4P.out h5)
          have hyz : bigX (rd_T31 t.f4 x.f5) ≤ 1048576 := by
            have hlt : x.f5.toNat < t.f4.length := by omega
            have e_ : rd_T31 t.f4 x.f5 = t.f4[x.f5.toNat] := by unfold rd_T31; rw [List.getD_eq_getElem?_getD, List.getElem?_eq_getElem hlt]; rfl
            rw [e_]
            exact HZ.out.x _ (List.getElem_mem hlt)
          generalize rd_T31 t.f4 x.f5 = y at u0 u1 u2 u3 hyc2 hyK2 hyc3 hyK3 hyz hva HYE
          obtain ⟨KV, hKV⟩ := valsV_f y (by omega)
          have HKV := Aside0.mk hKV
          have HVY := Aside0.mk hva
          have HVL : Aside0 ((valuesL y).length ≤ 2000000) := ⟨by have := valuesL_len y; omega⟩
          have t4 := (blk_cell (HKu.out.blk HT6.out HN2.out.1) 4).trans rfl
          clear hKV hyz hva
          go_wp2_with fail
          refine (live_Values.calls KV y.f0 y.f1 Y2 d2 y.f2 Y3 d3 y.f3 (valuesL y) _ hyK2 hyc2 hyK3 hyc3 HKV.out).mono ?_
          rintro e wv ⟨vv, rfl, hRV, hbv⟩
          obtain ⟨AV_, cv, rfl⟩ := Kd.R_slice hRV
          have HRV := Aside0.mk (R_apart hRV HLu.out)
          have HKv : Aside0 (Kb b2 w6 wv) := ⟨HKu.out.trans (Kb.of_below hbv HLu.out)⟩
          have HSv := Aside0.mk (blk_below HSu.out hbv)
          have HCV : Aside0 (Calls Try.prog 63 #[.int .i64 (i : Int), .slice AV_ (valuesL y).length cv, .pointer (some ⟨b1, 0, none⟩), .pointer (some ⟨b5, 0, none⟩), .pointer (some ⟨b6, 0, none⟩)] wv fun e w' => e = .returned (.tuple #[]) ∧ w'.heap[b2]? = some (.cells (cellsS (spTo t (i + 1))).toArray 105 (0, 0)) ∧ Kb b2 wv w') := ⟨by
            have hol : (askS t.f2 (t.f3.length : Int) (i : Int) (spTo t i) (asksL x)).length = t.f3.length := by rw [askS_len, spTo_len]
            have h_ := ask_calls wv t b1 b5 b6 b2 (askS t.f2 (t.f3.length : Int) (i : Int) (spTo t i) (asksL x)) (i : Int) AV_ cv (valuesL y) (HKv.out.blk HT6.out HN2.out.1) (by rw [hol]; exact HKv.out.blk H56.out HN2.out.2.1) (by rw [hol]; exact HKv.out.blk H66.out HN2.out.2.2) HSv.out HRV.out HVL.out (fun v hv => by have h1_ := HVY.out v hv; rw [hol]; exact ⟨h1_.1, h1_.2.2⟩)
            rw [hol, ← HYE.out] at h_
            exact h_⟩
          clear hRV hbv x5 u0 u1 u2 u3 hyc2 hyK2 hyc3 hyK3 t4
          go_wp2_with fail
          refine HCV.out.mono ?_
          rintro e wz ⟨rfl, hsz, hkz⟩
          have HSz := Aside0.mk hsz
          have HKz := Aside0.mk (HKv.out.trans hkz)
          clear hsz hkz HCV HKv HSv
          go_wp2_with fail
          go_roundg (t.f3.length - (i + 1))
          case measure => have := HIQ.out; have := HLT.out; omega
          case rel => exact ⟨i + 1, by first | rfl | rw [HW64.out], ⟨by have := HLT.out; omega, rfl⟩, HSz, HKz⟩
        · have hd5 : decide (0 ≤ x.f5) = false := decide_eq_false h5
          have hd5b : decide (x.f5 ≥ 0) = false := decide_eq_false h5
          have HYE : Aside0 (spTo t (i + 1) = askS t.f2 (t.f3.length : Int) (i : Int) (spTo t i) (asksL x)) := ⟨by rw [spTo_succ]; unfold insS; rw [← HX.out, if_neg h5]⟩
          clear h5
          go_wp2_with fail
          go_roundg (t.f3.length - (i + 1))
          case measure => have := HIQ.out; have := HLT.out; omega
          case rel => exact ⟨i + 1, by first | rfl | rw [HW64.out], ⟨by have := HLT.out; omega, rfl⟩, ⟨by rw [HYE.out]; exact HSu.out⟩, HKu⟩
      · have e_ : i = t.f3.length := by have := HIQ.out; omega
        subst e_
        have hdec : decide ((t.f3.length : Int) < (t.f3.length : Int)) = false := decide_eq_false (by omega)
        have hdec2 : decide (t.f3.length < t.f3.length) = false := decide_eq_false hlt
        have HMa := Aside0.mk (HM.out.below HBW.out)
        have HTa := Aside0.mk (HK.out.blk HT6.out HN2.out.1)
        have H5a := Aside0.mk (HK.out.blk H56.out HN2.out.2.1)
        have H6a := Aside0.mk (HK.out.blk H66.out HN2.out.2.2)
        have HLa : Aside0 (b2 < wr.heap.size) := ⟨blk_lt HS.out⟩
        clear hlt HIQ HK HT6 H56 H66 H26 HB6 HLT2
        generalize wr = wa2 at HMa HTa H5a H6a HLa HS HBW ⊢
        obtain ⟨KV, hKV⟩ := valsV_f t.f6 (Nat.le_trans HZ.out.ba (by decide))
        have HKV := Aside0.mk hKV
        have HVL : Aside0 ((valuesL t.f6).length ≤ 2000000) := ⟨Nat.le_trans (valuesL_len t.f6) (Nat.le_trans HZ.out.ba (by decide))⟩
        have HVB : Aside0 (∀ v ∈ valuesL t.f6, 0 ≤ v ∧ v < (t.f3.length : Int) ∧ v < (t.f3.length : Int)) := ⟨allB_mem (HGD.out.ex t.f6 (List.mem_cons_self ..))⟩
        have n5 := (blk_cell H5a.out 0).trans rfl
        have t9 := (blk_cell HTa.out 9).trans rfl
        have t10 := (blk_cell HTa.out 10).trans rfl
        have t11 := (blk_cell HTa.out 11).trans rfl
        have t12 := (blk_cell HTa.out 12).trans rfl
        clear hKV
        go_wp2_with fail
        refine start_ (n := 6) (S := fun w' => Kb b2 wa2 w' ∧ w'.heap[b2]? = some (.cells (cellsS (spTo t t.f3.length)).toArray 105 (0, 0)) ∧ w'.cell? ⟨b5, 0, none⟩ = some (.int .i64 (t.f3.length : Int)) ∧ w'.cell? ⟨b1, 9, none⟩ = some (.int .i64 t.f6.f0) ∧ w'.cell? ⟨b1, 10, none⟩ = some (.int .i64 t.f6.f1) ∧ w'.cell? ⟨b1, 11, none⟩ = some (.slice A11 t.f6.f2.length c11) ∧ w'.cell? ⟨b1, 12, none⟩ = some (.slice A12 t.f6.f3.length c12)) (ds := [5]) #[false, false, false, false, false, false] (by kernel_rfl) rfl rfl ⟨⟨below_drew (Below.refl _ _), fun _ _ _ => rfl⟩, HS.out, n5, t9, t10, t11, t12⟩ (fun hHeld => ?_)
        generalize wa2.drew = wd at hHeld ⊢
        refine pure_ (i := 0) (N := some 52) (v := ?_) (a' := ?_) #[true, false, false, false, false, false] rfl rfl (by kernel_rfl) (fun _ _ _ h => h) (Or.inl ⟨by rfl, ?_⟩) ?_ ?_
        rotate_left
        · intro w'
          go_simp
          with_reducible rfl
        rotate_left
        · simp only [Act.put, List.setIfInBounds_toArray, List.set_cons_zero, List.set_cons_succ, i64_w, i32_w]
          rfl
        refine pure_ (i := 2) (N := some 54) (v := ?_) (a' := ?_) #[true, false, true, false, false, false] rfl rfl (by kernel_rfl) (fun _ _ _ h => h) (Or.inl ⟨by rfl, ?_⟩) ?_ ?_
        rotate_left
        · intro w'
          go_simp
          with_reducible rfl
        rotate_left
        · simp only [Act.put, List.setIfInBounds_toArray, List.set_cons_zero, List.set_cons_succ, i64_w, i32_w]
          rfl
        refine take_ (i := 1) (N := some 53) (v := ?_) (a' := ?_) #[true, true, true, false, false, false] rfl rfl (by kernel_rfl) (fun _ _ _ h => h) (Or.inl ⟨by rfl, ?_⟩) hHeld ?_ ?_
        rotate_left
        · rintro w' ⟨s0, s1, s2, s3, s4, s5, s6⟩
          go_simp
          with_reducible rfl
        rotate_left
        · simp only [Act.put, List.setIfInBounds_toArray, List.set_cons_zero, List.set_cons_succ, i64_w, i32_w]
          rfl
        refine take_ (i := 3) (N := some 55) (v := ?_) (a' := ?_) #[true, true, true, true, false, false] rfl rfl (by kernel_rfl) (fun _ _ _ h => h) (Or.inl ⟨by rfl, ?_⟩) hHeld ?_ ?_
        rotate_left
        · rintro w' ⟨s0, s1, s2, s3, s4, s5, s6⟩
          go_simp
          with_reducible rfl
        rotate_left
        · simp only [Act.put, List.setIfInBounds_toArray, List.set_cons_zero, List.set_cons_succ, i64_w, i32_w]
          rfl
        refine one_ (i := 4) (N := some 56) #[true, true, true, true, true, false] rfl rfl (by kernel_rfl) (by decide) (fun K hK => ?_)
        refine goes_ Try.func65 (by kernel_rfl) rfl #[.agg #[.int .i64 t.f6.f0, .int .i64 t.f6.f1, .slice A11 t.f6.f2.length c11, .slice A12 t.f6.f3.length c12]] (by rfl) rfl rfl (by simp only [List.map_toArray, List.map_cons, List.map_nil]; rfl) ?_
        with_reducible refine (live_Values.calls KV t.f6.f0 t.f6.f1 A11 c11 t.f6.f2 A12 c12 t.f6.f3 (valuesL t.f6) _ (HM.out.below (HBW.out.trans (below_cut hHeld.1.below (by have := HBL.out; omega)))).bs HM.out.bsc (HM.out.below (HBW.out.trans (below_cut hHeld.1.below (by have := HBL.out; omega)))).bm HM.out.bmc HKV.out).mono ?_
        rintro e w7 ⟨v7, rfl, hR7, hb7⟩
        refine ⟨_, rfl, ?_⟩
        obtain ⟨AV_, cv, rfl⟩ := Kd.R_slice hR7
        have hF7 := R_apart hR7 (blk_lt hHeld.2.1)
        clear hR7
        refine hK.out _ _ ⟨hHeld.1.trans (Kb.of_below hb7 (blk_lt hHeld.2.1)), blk_below hHeld.2.1 hb7, pw_cell_below hb7 hHeld.2.2.1, pw_cell_below hb7 hHeld.2.2.2.1, pw_cell_below hb7 hHeld.2.2.2.2.1, pw_cell_below hb7 hHeld.2.2.2.2.2.1, pw_cell_below hb7 hHeld.2.2.2.2.2.2⟩ (fun hHeld => ?_)
        clear hK K
        refine norm_ (a' := ?_) ?_ ?_
        rotate_left
        · show Act.put _ (some 56) _ = _
          simp only [Act.put, List.setIfInBounds_toArray, List.set_cons_zero, List.set_cons_succ, i64_w, i32_w]
          rfl
        refine last_ (i := 5) (N := some 57) #[true, true, true, true, true, true] rfl rfl (by kernel_rfl) (by decide) (fun K hK => ?_)
        refine goesC_ Try.func63 (by kernel_rfl) rfl #[.int .i64 (t.f3.length : Int), .slice AV_ (valuesL t.f6).length cv] #[.pointer (some ⟨b1, 0, none⟩), .pointer (some ⟨b5, 0, none⟩), .pointer (some ⟨b6, 0, none⟩)] #[.int .i64 (t.f3.length : Int), .slice AV_ (valuesL t.f6).length cv, .pointer (some ⟨b1, 0, none⟩), .pointer (some ⟨b5, 0, none⟩), .pointer (some ⟨b6, 0, none⟩)] rfl (by rfl) rfl rfl rfl (by simp only [List.map_toArray, List.map_cons, List.map_nil]; rfl) ?_
        with_reducible refine (ask_calls_n _ t b1 b5 b6 b2 (spTo t t.f3.length) t.f3.length (spTo_len t _) (t.f3.length : Int) AV_ cv (valuesL t.f6) (hHeld.1.blk HTa.out HN2.out.1) (hHeld.1.blk H5a.out HN2.out.2.1) (hHeld.1.blk H6a.out HN2.out.2.2) hHeld.2.1 hF7 HVL.out (fun v hv => ⟨(HVB.out v hv).1, (HVB.out v hv).2.1⟩)).mono ?_
        rintro e w8 ⟨rfl, h8, hk8⟩
        refine ⟨_, rfl, ?_⟩
        have HK8 := Aside0.mk (hHeld.1.trans hk8)
        have HS8 := Aside0.mk h8
        refine hK.out _ _ ?_
        clear hK K
        refine norm_ (a' := ?_) ?_ ?_
        rotate_left
        · show Act.put _ (some 57) _ = _
          simp only [Act.put, List.setIfInBounds_toArray, List.set_cons_zero, List.set_cons_succ, i64_w, i32_w]
          rfl
        refine done_ (by kernel_rfl) ?_
        clear n5 t9 t10 t11 t12 h8 hk8
        have HB8 : Aside0 (Below w.heap.size w w8) := ⟨HBW.out.trans (below_cut HK8.out.below (by have := HBL.out; omega))⟩
        have HT8 := Aside0.mk (HK8.out.blk HTa.out HN2.out.1)
        have H68 := Aside0.mk (HK8.out.blk H6a.out HN2.out.2.2)
        have HL8 : Aside0 (b2 < w8.heap.size) := ⟨blk_lt HS8.out⟩
        have hs8 := HS8.out
        rw [show askS t.f2 (t.f3.length : Int) (t.f3.length : Int) (spTo t t.f3.length) (valuesL t.f6) = spBack t from rfl] at hs8
        have HS9 := Aside0.mk hs8
        clear hs8 HS8 HK8 HTa H5a H6a HLa HS HBW HMa HKV HVL HVB
        have t2 := (blk_cell HT8.out 2).trans rfl
        by_cases hlp : t.f2 > 0
        · have hd1 : decide (t.f2 > 0) = true := decide_eq_true hlp
          have hd2 : decide (0 < t.f2) = true := decide_eq_true hlp
          obtain ⟨KT, hKT⟩ := valsV_f t.f5 (Nat.le_trans HZ.out.tu (by decide))
          have HKT := Aside0.mk hKT
          have HVL : Aside0 ((valuesL t.f5).length ≤ 2000000) := ⟨Nat.le_trans (valuesL_len t.f5) (Nat.le_trans HZ.out.tu (by decide))⟩
          have HVT : Aside0 (∀ v ∈ valuesL t.f5, 0 ≤ v ∧ v < t.f2 ∧ v < (t.f3.length : Int)) := ⟨allB_mem (HGD.out.tr hlp)⟩
          have HLP := Aside0.mk hlp
          have t5 := (blk_cell HT8.out 5).trans rfl
          have t6 := (blk_cell HT8.out 6).trans rfl
          have t7 := (blk_cell HT8.out 7).trans rfl
          have t8 := (blk_cell HT8.out 8).trans rfl
          clear hKT hlp
          go_wp2_with fail
          refine (live_Values.calls KT t.f5.f0 t.f5.f1 A7 c7 t.f5.f2 A8 c8 t.f5.f3 (valuesL t.f5) _ (HM.out.below HB8.out).ts HM.out.tsc (HM.out.below HB8.out).tm HM.out.tmc HKT.out).mono ?_
          rintro e wk ⟨vv, rfl, hRV, hbv⟩
          obtain ⟨AV_, cv, rfl⟩ := Kd.R_slice hRV
          have HRV := Aside0.mk (R_apart hRV HL8.out)
          have HTk := Aside0.mk (blk_below HT8.out hbv)
          have H6k := Aside0.mk (blk_below H68.out hbv)
          have HSk := Aside0.mk (blk_below HS9.out hbv)
          have HBk := Aside0.mk (below_step HB8.out hbv)
          clear hRV hbv t2 t5 t6 t7 t8 HT8 H68 HS9 HB8
          generalize hl : valuesL t.f5 = l at HRV HVL HVT ⊢
          have HLE := Aside0.mk hl
          clear hl
          go_wp2_with fail
          go_loopg [65] l.length (fun kq v65 W => ∃ i : Nat, v65 = .int .i64 (i : Int) ∧ Aside0 (i ≤ l.length ∧ kq = l.length - i) ∧ Aside0 (W.heap[b2]? = some (.cells (cellsS ((l.take i).foldl (turnS t.f2) (spBack t))).toArray 105 (0, 0))) ∧ Aside0 (Kb b2 wk W))
          case atStart => exact ⟨0, rfl, ⟨Nat.zero_le _, by omega⟩, HSk, ⟨Kb.refl _ _⟩⟩
          case round =>
            obtain ⟨i, rfl, HIQ, HS, HK⟩ := hrel
            by_cases hlt : i < l.length
            · have hi0 : (0 : Int) ≤ (i : Int) := by omega
              have hi1 : (i : Int) < (l.length : Int) := by omega
              obtain ⟨ad, e, hx⟩ := Kd.at_int (Kd.F_now (Kd.F_step HRV.out (fun k hk hlt => HK.out.keep k hlt hk))) (i : Int) (by omega) (by omega)
              rw [Int.toNat_natCast, rdI hlt] at hx
              subst e
              have hdec : decide ((i : Int) < (l.length : Int)) = true := decide_eq_true hi1
              have hdec2 : decide (i < l.length) = true := decide_eq_true hlt
              have HLT := Aside0.mk hlt
              have HW64 : Aside0 (wrap64 ((i : Int) + 1) = ((i + 1 : Nat) : Int)) := ⟨by have := HVL.out; unfold wrap64; omega⟩
              have hvv := HVT.out l[i] (List.getElem_mem hlt)
              have HTK : Aside0 ((l.take (i + 1)).foldl (turnS t.f2) (spBack t) = turnS t.f2 ((l.take i).foldl (turnS t.f2) (spBack t)) l[i]) := ⟨by rw [List.take_succ_eq_append_getElem hlt, List.foldl_append]; rfl⟩
              obtain ⟨v, hv⟩ : ∃ v, v = l[i] := ⟨_, rfl⟩
              rw [← hv] at hx hvv HTK
              obtain ⟨q, hq⟩ : ∃ q, q = (l.take i).foldl (turnS t.f2) (spBack t) := ⟨_, rfl⟩
              have HQL : Aside0 (q.length = t.f3.length) := ⟨by rw [hq, turn_len]; unfold spBack; rw [askS_len, spTo_len]⟩
              rw [← hq] at HTK HS
              have hvl : v.toNat < q.length := by rw [HQL.out]; omega
              have p0 : (0 : Int) ≤ v := hvv.1
              have p1 : v < (t.f3.length : Int) := hvv.2.2
              have HVL2 := Aside0.mk hvl
              have hcg := cellsS_get q v.toNat hvl
              have hrd : (rd_T105 q v) = q[v.toNat] := by unfold rd_T105; rw [List.getD_eq_getElem?_getD, List.getElem?_eq_getElem hvl]; rfl
              have k2 := (blk_cell (HK.out.blk HTk.out HN2.out.1) 2).trans rfl
              have k6 := (blk_cell (HK.out.blk H6k.out HN2.out.2.2) 0).trans rfl
              rw [← hrd] at hcg
              have HCG := Aside0.mk hcg
              clear hv hq hvv hvl hrd hcg hlt
              go_wp2_with fail
              have HSd : Aside0 (wr.drew.heap[b2]? = some (.cells (cellsS q).toArray 105 (0, 0))) := ⟨HS.out⟩
              have c0d : wr.drew.cell? ⟨b2, v.toNat * 2, none⟩ = some (.int .i64 (rd_T105 q v).f0) := by rw [blk_cell HSd.out, Nat.mul_comm]; simpa using HCG.out.1
              have c1d : wr.drew.cell? ⟨b2, v.toNat * 2 + 1, none⟩ = some (.int .i64 (rd_T105 q v).f1) := by rw [blk_cell HSd.out, Nat.mul_comm]; simpa using HCG.out.2
              have u1 := c1d
              have HKd : Aside0 (Kb b2 wk wr.drew) := ⟨HK.out.trans ⟨below_drew (Below.refl b2 wr), fun _ _ _ => rfl⟩⟩
              refine start_ (n := 14) (S := fun w' => w'.cell? ⟨b6, 0, none⟩ = some (.slice (some ⟨b2, 0, none⟩) t.f3.length t.f3.length) ∧ w'.cell? ⟨b2, v.toNat * 2 + 1, none⟩ = some (.int .i64 (rd_T105 q v).f1) ∧ w'.cell? ⟨b1, 2, none⟩ = some (.int .i64 t.f2)) (ds := [13]) #[false, false, false, false, false, false, false, false, false, false, false, false, false, false] (by kernel_rfl) rfl rfl ⟨k6, u1, k2⟩ (fun hHeld => ?_)
              generalize wr.drew = wd at hHeld HSd HKd c0d c1d ⊢
              refine pure_ (i := 1) (N := some 70) (v := ?_) (a' := ?_) #[false, true, false, false, false, false, false, false, false, false, false, false, false, false] rfl rfl (by kernel_rfl) (fun _ _ _ h => h) (Or.inl ⟨by rfl, ?_⟩) ?_ ?_
              rotate_left
              · intro w'
                go_simp
                with_reducible rfl
              rotate_left
              · simp only [Act.put, List.setIfInBounds_toArray, List.set_cons_zero, List.set_cons_succ, i64_w, i32_w]
                rfl
              refine pure_ (i := 2) (N := some 71) (v := ?_) (a' := ?_) #[false, true, true, false, false, false, false, false, false, false, false, false, false, false] rfl rfl (by kernel_rfl) (fun _ _ _ h => h) (Or.inl ⟨by rfl, ?_⟩) ?_ ?_
              rotate_left
              · intro w'
                go_simp
                with_reducible rfl
              rotate_left
              · simp only [Act.put, List.setIfInBounds_toArray, List.set_cons_zero, List.set_cons_succ, i64_w, i32_w]
                rfl
              refine pure_ (i := 4) (N := some 73) (v := ?_) (a' := ?_) #[false, true, true, false, true, false, false, false, false, false, false, false, false, false] rfl rfl (by kernel_rfl) (fun _ _ _ h => h) (Or.inl ⟨by rfl, ?_⟩) ?_ ?_
              rotate_left
              · intro w'
                go_simp
                with_reducible rfl
              rotate_left
              · simp only [Act.put, List.setIfInBounds_toArray, List.set_cons_zero, List.set_cons_succ, i64_w, i32_w]
                rfl
              refine pure_ (i := 8) (N := some 77) (v := ?_) (a' := ?_) #[false, true, true, false, true, false, false, false, true, false, false, false, false, false] rfl rfl (by kernel_rfl) (fun _ _ _ h => h) (Or.inl ⟨by rfl, ?_⟩) ?_ ?_
              rotate_left
              · intro w'
                go_simp
                with_reducible rfl
              rotate_left
              · simp only [Act.put, List.setIfInBounds_toArray, List.set_cons_zero, List.set_cons_succ, i64_w, i32_w]
                rfl
              refine take_ (i := 0) (N := some 69) (v := ?_) (a' := ?_) #[true, true, true, false, true, false, false, false, true, false, false, false, false, false] rfl rfl (by kernel_rfl) (fun _ _ _ h => h) (Or.inl ⟨by rfl, ?_⟩) hHeld ?_ ?_
              rotate_left
              · rintro w' ⟨s0, s1, s2⟩
                go_simp
                with_reducible rfl
              rotate_left
              · simp only [Act.put, List.setIfInBounds_toArray, List.set_cons_zero, List.set_cons_succ, i64_w, i32_w]
                rfl
              refine take_ (i := 3) (N := some 72) (v := ?_) (a' := ?_) #[true, true, true, true, true, false, false, false, true, false, false, false, false, false] rfl rfl (by kernel_rfl) (fun _ _ _ h => h) (Or.inl ⟨by rfl, ?_⟩) hHeld ?_ ?_
              rotate_left
              · rintro w' ⟨s0, s1, s2⟩
                go_simp
                with_reducible rfl
              rotate_left
              · simp only [Act.put, List.setIfInBounds_toArray, List.set_cons_zero, List.set_cons_succ, i64_w, i32_w]
                rfl
              refine pure_ (i := 5) (N := some 74) (v := ?_) (a' := ?_) #[true, true, true, true, true, true, false, false, true, false, false, false, false, false] rfl rfl (by kernel_rfl) (fun _ _ _ h => h) (Or.inl ⟨by rfl, ?_⟩) ?_ ?_
              rotate_left
              · intro w'
                go_simp
                with_reducible rfl
              rotate_left
              · simp only [Act.put, List.setIfInBounds_toArray, List.set_cons_zero, List.set_cons_succ, i64_w, i32_w]
                rfl
              refine pure_ (i := 6) (N := some 75) (v := ?_) (a' := ?_) #[true, true, true, true, true, true, true, false, true, false, false, false, false, false] rfl rfl (by kernel_rfl) (fun _ _ _ h => h) (Or.inl ⟨by rfl, ?_⟩) ?_ ?_
              rotate_left
              · intro w'
                go_simp
                with_reducible rfl
              rotate_left
              · simp only [Act.put, List.setIfInBounds_toArray, List.set_cons_zero, List.set_cons_succ, i64_w, i32_w]
                rfl
              refine take_ (i := 7) (N := some 76) (v := ?_) (a' := ?_) #[true, true, true, true, true, true, true, true, true, false, false, false, false, false] rfl rfl (by kernel_rfl) (fun _ _ _ h => h) (Or.inl ⟨by rfl, ?_⟩) hHeld ?_ ?_
              rotate_left
              · rintro w' ⟨s0, s1, s2⟩
                go_simp
                with_reducible rfl
              rotate_left
              · simp only [Act.put, List.setIfInBounds_toArray, List.set_cons_zero, List.set_cons_succ, i64_w, i32_w]
                rfl
              refine take_ (i := 9) (N := some 78) (v := ?_) (a' := ?_) #[true, true, true, true, true, true, true, true, true, true, false, false, false, false] rfl rfl (by kernel_rfl) (fun _ _ _ h => h) (Or.inl ⟨by rfl, ?_⟩) hHeld ?_ ?_
              rotate_left
              · rintro w' ⟨s0, s1, s2⟩
                go_simp
                with_reducible rfl
              rotate_left
              · simp only [Act.put, List.setIfInBounds_toArray, List.set_cons_zero, List.set_cons_succ, i64_w, i32_w]
                rfl
              refine pure_ (i := 10) (N := some 79) (v := ?_) (a' := ?_) #[true, true, true, true, true, true, true, true, true, true, true, false, false, false] rfl rfl (by kernel_rfl) (fun _ _ _ h => h) (Or.inl ⟨by rfl, ?_⟩) ?_ ?_
              rotate_left
              · intro w'
                go_simp
                with_reducible rfl
              rotate_left
              · simp only [Act.put, List.setIfInBounds_toArray, List.set_cons_zero, List.set_cons_succ, i64_w, i32_w]
                rfl
              refine pure_ (i := 11) (N := some 80) (v := ?_) (a' := ?_) #[true, true, true, true, true, true, true, true, true, true, true, true, false, false] rfl rfl (by kernel_rfl) (fun _ _ _ h => h) (Or.inl ⟨by rfl, ?_⟩) ?_ ?_
              rotate_left
              · intro w'
                go_simp
                with_reducible rfl
              rotate_left
              · simp only [Act.put, List.setIfInBounds_toArray, List.set_cons_zero, List.set_cons_succ, i64_w, i32_w]
                rfl
              refine pure_ (i := 12) (N := some 81) (v := ?_) (a' := ?_) #[true, true, true, true, true, true, true, true, true, true, true, true, true, false] rfl rfl (by kernel_rfl) (fun _ _ _ h => h) (Or.inl ⟨by rfl, ?_⟩) ?_ ?_
              rotate_left
              · intro w'
                go_simp
                with_reducible rfl
              rotate_left
              · simp only [Act.put, List.setIfInBounds_toArray, List.set_cons_zero, List.set_cons_succ, i64_w, i32_w]
                rfl
              refine last_ (i := 13) (N := none) #[true, true, true, true, true, true, true, true, true, true, true, true, true, true] rfl rfl (by kernel_rfl) (by decide) (fun K hK => ?_)
              have hf0 := blk_frozen HSd.out (v.toNat * 2)
              have hf1 := blk_frozen HSd.out (v.toNat * 2 + 1)
              have hc0 := c0d
              have hc1 := c1d
              refine skip_ (w1 := ?_) (by rfl) rfl ?_ ?_
              rotate_left
              · go_simp
                rfl
              refine hK.out _ _ ?_
              clear hK K
              refine done_ (by kernel_rfl) ?_
              generalize hwz : World.setCell (World.setCell wd _ _) _ _ = wz
              have HSz : Aside0 (wz.heap[b2]? = some (.cells (cellsS (turnS t.f2 q v)).toArray 105 (0, 0))) := ⟨by
                rw [← hwz]
                have h_ := blk_set (blk_set HSd.out (v.toNat * 2) (.int .i64 v)) (v.toNat * 2 + 1) (.int .i64 (mx (rd_T105 q v).f1 t.f2))
                have e_ := cellsS_set q v.toNat v (mx (rd_T105 q v).f1 t.f2) HVL2.out
                unfold turnS
                rw [← e_, Nat.mul_comm 2 v.toNat]
                simpa [mx] using h_⟩
              have HKz : Aside0 (Kb b2 wk wz) := ⟨HKd.out.trans ⟨by
                rw [← hwz]
                exact ((Below.refl b2 wd).setCell (p := ⟨b2, v.toNat * 2, none⟩) (Nat.le_refl _) _).setCell (p := ⟨b2, v.toNat * 2 + 1, none⟩) (Nat.le_refl _) _, fun k hk hne => by
                rw [← hwz]
                exact (heap_setCell_other _ _ k _ hne).trans (heap_setCell_other wd _ k _ hne)⟩⟩
              clear hwz k2 k6 hx c0d c1d u1 HK HKd HSd
              generalize (if (rd_T105 q v).f1 < t.f2 then t.f2 else (rd_T105 q v).f1) = mxv
              try clear hf0 hf1 hc0 hc1
              go_wp2_with fail
              go_roundg (l.length - (i + 1))
              case measure => have := HIQ.out; have := HLT.out; omega
              case rel => exact ⟨i + 1, by first | rfl | rw [HW64.out], ⟨by have := HLT.out; omega, rfl⟩, ⟨by rw [HTK.out]; exact HSz.out⟩, HKz⟩
            · have e_ : i = l.length := by have := HIQ.out; omega
              subst e_
              have hdec : decide ((l.length : Int) < (l.length : Int)) = false := decide_eq_false (by omega)
              have hdec2 : decide (l.length < l.length) = false := decide_eq_false hlt
              have hs := HS.out
              rw [List.take_length, ← HLE.out] at hs
              have HS2 : Aside0 (wr.heap[b2]? = some (.cells (cellsS (spansL t)).toArray 105 (0, 0))) := ⟨by unfold spansL; rw [if_pos HLP.out]; exact hs⟩
              have HBn : Aside0 (Below w.heap.size w wr) := ⟨HBk.out.trans (below_cut HK.out.below (by have := HBL.out; omega))⟩
              have k6 := (blk_cell (HK.out.blk H6k.out HN2.out.2.2) 0).trans rfl
              clear hlt HIQ hs HS HK
              go_wp2_with fail
              go_ret2
              exact ⟨_, _, rfl, ⟨fun _ => HGD.out, fun _ => rfl⟩, fun h => absurd rfl h, fun _ => ⟨b2, rfl, (by have := HBL.out; omega), HS2.out⟩, HBn.out⟩
        · have hd1 : decide (t.f2 > 0) = false := decide_eq_false hlp
          have hd2 : decide (0 < t.f2) = false := decide_eq_false hlp
          have HS2 : Aside0 (w8.heap[b2]? = some (.cells (cellsS (spansL t)).toArray 105 (0, 0))) := ⟨by unfold spansL; rw [if_neg hlp]; exact HS9.out⟩
          have k6 := (blk_cell H68.out 0).trans rfl
          clear hlp
          go_wp2_with fail
          go_ret2
          exact ⟨_, _, rfl, ⟨fun _ => HGD.out, fun _ => rfl⟩, fun h => absurd rfl h, fun _ => ⟨b2, rfl, (by have := HBL.out; omega), HS2.out⟩, HB8.out⟩
  · have he1 : (er != 0) = true := bne_iff_ne.mpr her
    have HE := Aside0.mk her
    clear her
    go_wp2_with fail
    go_ret2
    exact ⟨_, _, rfl, HIFF.out, fun _ => rfl, fun h => absurd h HE.out, HB2.out⟩
end Go.Proofs.Ytchcbncelckgeaa.Lv
