/- Package owns walked: the graph without one thing. -/
import Derived.Test.YtoleplbmkdhgeaaOwnKe
set_option linter.unusedVariables false
set_option linter.unusedSimpArgs false
namespace Go.Proofs.Ytoleplbmkdhgeaa.Own
open Go.RowKit Go.Proofs.YtoleplbmkdhgeaaW.PrintWords Go.Proofs.YtoleplbmkdhgeaaW.PrintLast Go.Proofs.YtoleplbmkdhgeaaW.PrintMore Go.Proofs.Ytoleplbmkdhgeaa.PN Go.Proofs.Ytoleplbmkdhgeaa.Hnd Go.Lib Go.Proofs.Ytoleplbmkdhgeaa.Chk

/-- A list without one thing. -/
def stripL (n : Int) (l : List Int) : List Int := l.filter (fun x => decide (x ≠ n))
theorem strip_next (n : Int) (l : List Int) (i : Nat) (h : i < l.length) : stripL n (l.take (i + 1)) = stripL n (l.take i) ++ (if l[i] = n then [] else [l[i]]) := by
  unfold stripL
  rw [List.take_succ_eq_append_getElem h, List.filter_append]
  congr 1
  by_cases h0 : l[i] = n
  · rw [if_pos h0]; simp [h0]
  · rw [if_neg h0]; simp [h0]
theorem strip_len (n : Int) (l : List Int) : (stripL n l).length ≤ l.length := List.length_filter_le _ _
theorem rdW {l : List Int} {i : Nat} (h : i < l.length) : rd l i = l[i] := by unfold rd; simp [List.getD_eq_getElem?_getD, h]
set_option maxHeartbeats 16000000 in
set_option maxRecDepth 100000 in
theorem strip_calls (W : World) (g : Nat) (n : Int) (hg : W.heap[g]? = some (.cells #[.int .i64 n] 3 (0, 0))) (A : Option Addr) (l : List Int) (c : Nat) (hl : (Kd.int .i64).C W A l.length l) (hz : l.length ≤ 1000000) :
    Calls Try.prog 42 #[.slice A l.length c, .pointer (some ⟨g, 0, none⟩)] W fun e w' => ∃ v, e = .returned v ∧ w'.ownsRow W.heap.size 3 1 v (stripL n l).length (nums .i64 (stripL n l)) ∧ Below W.heap.size W w' := by
  have HG := Aside0.mk hg
  have HC := Aside0.mk hl
  have HZ := Aside0.mk hz
  have HU := Try.underlying23
  clear hg hl hz
  go_enter Try.func42, Try.ntmps42
  go_wp2_with fail
  go_loopg [4, 9] l.length (fun kq v4 v9 w' => ∃ (i : Nat) (A' : Option Addr) (c' : Nat), v9 = .int .i64 (i : Int) ∧ v4 = .slice A' (stripL n (l.take i)).length c' ∧ Aside0 (i ≤ l.length ∧ kq = l.length - i) ∧ Aside0 (w'.ownsRow W.heap.size 3 1 (.slice A' (stripL n (l.take i)).length c') (stripL n (l.take i)).length (nums .i64 (stripL n (l.take i)))) ∧ Aside0 (Below W.heap.size W w'))
  case atStart => exact ⟨0, none, 0, rfl, rfl, ⟨Nat.zero_le _, by omega⟩, ⟨⟨by simp [stripL, nums], .inl ⟨rfl, rfl⟩⟩⟩, ⟨Below.refl _ _⟩⟩
  case round =>
    obtain ⟨i, A', c', rfl, rfl, HIQ, HO, HBi⟩ := hrel
    by_cases hlt : i < l.length
    · have hi0 : (0 : Int) ≤ (i : Int) := by omega
      have hi1 : (i : Int) < (l.length : Int) := by omega
      have hdec : decide ((i : Int) < (l.length : Int)) = true := decide_eq_true hi1
      have hdec2 : decide (i < l.length) = true := decide_eq_true hlt
      have HLT := Aside0.mk hlt
      have HIW : Aside0 (wrap64 ((i : Int) + 1) = ((i + 1 : Nat) : Int)) := ⟨by have := HZ.out; unfold wrap64; omega⟩
      have HKS := Aside0.mk (strip_next n l i hlt)
      have HKL : Aside0 ((stripL n (l.take i)).length ≤ 1000000) := ⟨by have := strip_len n (l.take i); rw [List.length_take] at this; have := HZ.out; omega⟩
      obtain ⟨ad, e, hx⟩ := Kd.at_int (Kd.C_below HC.out HBi.out) (i : Int) (by omega) (by omega)
      rw [Int.toNat_natCast, rdW hlt] at hx
      subst e
      have n0 : wr.cell? ⟨g, 0, none⟩ = some (.int .i64 n) := (blk_cell (blk_below HG.out HBi.out) 0).trans rfl
      generalize stripL n (l.take i) = xs at HO HKS HKL ⊢
      generalize l[i] = y at hx HKS
      have HBS : Aside0 (W.heap.size ≤ wr.heap.size) := ⟨HBi.out.size⟩
      clear hlt
      by_cases h4 : y = n
      · have d5 : (y != n) = false := by rw [h4]; simp
        have d6 : (y == n) = true := by rw [h4]; simp
        have HKE : Aside0 (stripL n (l.take (i + 1)) = xs) := ⟨by rw [HKS.out, if_pos h4, List.append_nil]⟩
        clear h4
        go_wp2_with fail
        go_roundg (l.length - (i + 1))
        case measure => have := HIQ.out; have := HLT.out; omega
        case rel => exact ⟨i + 1, A', c', by first | rfl | rw [HIW.out], by rw [HKE.out], ⟨by have := HLT.out; omega, rfl⟩, ⟨by rw [HKE.out]; exact HO.out⟩, HBi⟩
      · have d5 : (y != n) = true := bne_iff_ne.mpr h4
        have d6 : (y == n) = false := beq_eq_false_iff_ne.mpr h4
        have HKE : Aside0 (stripL n (l.take (i + 1)) = xs ++ [y]) := ⟨by rw [HKS.out, if_neg h4]⟩
        clear h4
        go_wp2_with (((with_reducible refine gate_builtin (b := .append) (xs := #[.tmp 16, .tmp 18]) rfl ?_); (refine print_append_num (w0 := W) W.heap.size rfl (.tmp 16) (.tmp 18) 23 3 .i64 8 rfl HU infoI (by decide) (.slice A' xs.length c') xs y rfl rfl HO.out HBi.out HBS.out ?hl ?_; (case hl => have h_ := HKL.out; omega); intro v6 w6 ho hb hg hat; obtain ⟨A6, c6_, e6_, _⟩ := own_shape ho; subst e6_; have HO6 := Aside0.mk ho; have HB6 := Aside0.mk hb; clear ho hb hg hat)))
        go_roundg (l.length - (i + 1))
        case measure => have := HIQ.out; have := HLT.out; omega
        case rel => exact ⟨i + 1, A6, c6_, by first | rfl | rw [HIW.out], by rw [HKE.out]; first | rfl | simp, ⟨by have := HLT.out; omega, rfl⟩, ⟨by rw [HKE.out]; exact HO6.out⟩, HB6⟩
    · have ei : i = l.length := by have := HIQ.out; omega
      subst ei
      have hdec : decide ((l.length : Int) < (l.length : Int)) = false := decide_eq_false (by omega)
      have hdec2 : decide (l.length < l.length) = false := decide_eq_false hlt
      have HE : Aside0 (stripL n (l.take l.length) = stripL n l) := ⟨by rw [List.take_length]⟩
      clear hlt
      go_wp2_with fail
      go_ret
      rw [← HE.out]
      exact ⟨_, rfl, HO.out, HBi.out⟩

theorem at_row {w : World} {A : Option Addr} {n : Nat} {has : List (List Int)} (h : Kd.C (Kd.slice 3 (Kd.int .i64)) w A n has) (i : Nat) (hi : i < n) :
    ∃ ad B c, A = some ad ∧ w.cell? (ad.add i) = some (.slice B (has.getD i []).length c) ∧ (has.getD i []).length ≤ c ∧ Kd.C (Kd.int .i64) w B (has.getD i []).length (has.getD i []) := by
  obtain ⟨ad, cs, e, hl, hK, hc⟩ := Kd.C_get h [] (i : Int) (by omega) (by omega)
  obtain ⟨B, c, rfl, h1, h2⟩ := hK
  rw [Int.toNat_natCast] at hc h1 h2
  exact ⟨ad, B, c, e, by have h_ := hc 0 _ rfl; simpa [Kd.slice] using h_, h1, h2⟩
theorem R_flat {α : Type} {d : Kd α} {e B : Nat} {W W1 : World} {v : Value} {xs : List α} (hE : d.E = []) (h : d.R e W B (fun _ => True) v xs) (hm : ∀ k, v.ownBlock = some k → W1.heap[k]? = W.heap[k]?) : d.R e W1 B (fun _ => True) v xs :=
  Kd.R_mono (Kd.R_step (Kd.R_tight hE h) (fun k hk _ => hm k hk.symm)) (fun _ _ => trivial)
/-- A call of a function value, by its contract, in a region that draws its order. -/
theorem goesC_ {P : Program} {ops : Array Oper} {Q : Exit → Go.Act → World → Prop} {oi : Oper} {N : Option Tmp} {a : Go.Act} {w : World} {K : Go.Act → World → Prop} {f : FuncId} {fn : Func} {ags : Array Operand} {ts : Array TypeId} {s : Tmp} (hf : P.funcs[f]? = some fn) (hname : (fn.name == "runtime.NumGoroutine") = false) (hb : fn.body.isSome = true) (args caps all_ : Array Value) (hall : args ++ caps = all_)
    (hw : Region.wanted oi (yielded ops a.tmps) = true) (hN : oi.dst = N) (hop : oi.op = .call { callee := .value (.tmp s), args := ags, argTypes := ts }) (hs : a.eval (.tmp s) = .func (.func f) #[] caps) (hargs : ags.map a.eval = args)
    (h : Calls P f all_ w fun e w' => ∃ v, e = .returned v ∧ K (a.put N v) w') : if Region.wanted oi (yielded ops a.tmps) = true then Oper.wp P oi a w K Q else K (a.put N undef) w := by
  subst hall
  refine call_ f (args ++ caps) hw hN ?_ h
  have he := enters_ hf hname hb (args ++ caps) w
  unfold execOp
  simp [hop, resolve, Deferred.ofValue, invoke, hs, hargs, he]
theorem info_sl : (Try.prog.info? 23).map (fun i => (i.zero, i.size, i.bytes)) = some (some (.slice none 0 0), 1, 24) := by kernel_rfl
abbrev KH : Kd (List Int) := Kd.slice 3 (Kd.int .i64)
def outAt (n : Int) (has : List (List Int)) (k : Nat) : List Int := if (k : Int) = n then [] else stripL n (has.getD k [])
def outTo (n : Int) (has : List (List Int)) (m : Nat) : List (List Int) := (List.range m).map (outAt n has)
theorem outTo_succ (n : Int) (has : List (List Int)) (m : Nat) : outTo n has (m + 1) = outTo n has m ++ [outAt n has m] := by unfold outTo; rw [List.range_succ, List.map_append]; rfl
theorem outTo_len (n : Int) (has : List (List Int)) (m : Nat) : (outTo n has m).length = m := by unfold outTo; simp
set_option maxHeartbeats 32000000 in
set_option maxRecDepth 100000 in
theorem without_calls (w : World) (has : List (List Int)) (roots : List Int) (AH : Option Addr) (cH : Nat) (AR : Option Addr) (cR : Nat) (n : Int) (hH : Kd.C KH w AH has.length has) (hcH : has.length ≤ cH) (hR : Kd.C (Kd.int .i64) w AR roots.length roots) (hcR : roots.length ≤ cR) (hz : has.length ≤ 1000) (hzr : roots.length ≤ 100000) (hzl : ∀ l ∈ has, l.length ≤ 100000) :
    Calls Try.prog 27 #[.agg #[.slice AH has.length cH, .slice AR roots.length cR], .int .i64 n] w fun e w' => ∃ A c B d, e = .returned (.agg #[.slice A has.length c, .slice B (stripL n roots).length d]) ∧ KH.R 23 w' w.heap.size (fun _ => True) (.slice A has.length c) (outTo n has has.length) ∧ (Kd.int .i64).R 3 w' w.heap.size (fun _ => True) (.slice B (stripL n roots).length d) (stripL n roots) ∧ Below w.heap.size w w' := by
  obtain ⟨o1, ho1⟩ : ∃ ob, ob = Obj.cells #[.slice AH has.length cH, .slice AR roots.length cR] 25 := ⟨_, rfl⟩
  obtain ⟨o2, ho2⟩ : ∃ ob, ob = Obj.cells #[.int .i64 n] 3 := ⟨_, rfl⟩
  obtain ⟨o3, ho3⟩ : ∃ ob, ob = Obj.cells #[.slice none 0 0, .slice none 0 0] 25 := ⟨_, rfl⟩
  have hal := below_alloc (below_alloc (below_alloc (Below.refl w.heap.size w) o1) o2) o3
  have s1 : (w.alloc o1).heap.size = w.heap.size + 1 := by simp
  have s2 : ((w.alloc o1).alloc o2).heap.size = w.heap.size + 1 + 1 := by simp
  have HB := Aside0.mk hal
  have H1 : Aside0 ((((w.alloc o1).alloc o2).alloc o3).heap[w.heap.size]? = some (.cells #[.slice AH has.length cH, .slice AR roots.length cR] 25 (0, 0))) := ⟨blk_alloc (blk_alloc (by rw [ho1]; exact blk_new w _) _) _⟩
  have H2 : Aside0 ((((w.alloc o1).alloc o2).alloc o3).heap[w.heap.size + 1]? = some (.cells #[.int .i64 n] 3 (0, 0))) := ⟨blk_alloc (by have h_ := blk_new (w.alloc o1) o2; rw [s1] at h_; rw [ho2] at h_ ⊢; exact h_) _⟩
  have H3 : Aside0 ((((w.alloc o1).alloc o2).alloc o3).heap[w.heap.size + 1 + 1]? = some (.cells #[.slice none 0 0, .slice none 0 0] 25 (0, 0))) := ⟨by have h_ := blk_new ((w.alloc o1).alloc o2) o3; rw [s2] at h_; rw [ho3] at h_ ⊢; exact h_⟩
  have HH := Aside0.mk (And.intro hH hcH)
  have HR := Aside0.mk (And.intro hR hcR)
  have HZ := Aside0.mk (And.intro hz (And.intro hzr hzl))
  have HU36 := Try.underlying22
  have HU29 := Try.underlying23
  clear hal s1 s2 hH hcH hR hcR hz hzr hzl
  go_enter Try.func27, Try.ntmps27
  go_upto_region 1 with fail
  rw [← ho1, ← ho2, ← ho3]
  clear ho1 ho2 ho3
  generalize ((w.alloc o1).alloc o2).alloc o3 = w1 at HB H1 H2 H3 ⊢
  have y0 := (blk_cell H1.out 0).trans rfl
  have y1 := (blk_cell H1.out 1).trans rfl
  go_wp2_with fail
  refine (strip_calls w1 (w.heap.size + 1) n H2.out AR roots cR (Kd.C_below HR.out.1 HB.out) (by have := HZ.out.2.1; omega)).mono ?_
  rintro e w2 ⟨v, rfl, ho, hb2⟩
  obtain ⟨B, d, ev, hd⟩ := own_shape ho
  subst ev
  have HRT := Aside0.mk ho
  have HB2 := Aside0.mk (below_step HB.out hb2)
  have H12 := Aside0.mk (blk_below H1.out hb2)
  have H22 := Aside0.mk (blk_below H2.out hb2)
  have H32 := Aside0.mk (blk_below H3.out hb2)
  have HS1 : Aside0 (w.heap.size + 1 + 1 < w1.heap.size) := ⟨blk_lt H3.out⟩
  clear ho hb2 hd HB H1 H2 H3 y0 y1
  have y0 := (blk_cell H12.out 0).trans rfl
  have y1 := (blk_cell H12.out 1).trans rfl
  go_upto_region 3 with fail
  -- LOOP
  obtain ⟨o4, ho4⟩ : ∃ ob, ob = Obj.cells #[.slice none 0 0, .slice B (stripL n roots).length d] 25 := ⟨_, rfl⟩
  rw [← ho4]
  have hb4 := below_alloc (Below.refl w2.heap.size w2) o4
  have H44 : Aside0 ((w2.alloc o4).heap[w2.heap.size]? = some (.cells #[.slice none 0 0, .slice B (stripL n roots).length d] 25 (0, 0))) := ⟨by rw [ho4]; exact blk_new w2 _⟩
  have HB4 := Aside0.mk (below_step HB2.out hb4)
  have H14 := Aside0.mk (blk_below H12.out hb4)
  have H24 := Aside0.mk (blk_below H22.out hb4)
  have H34 := Aside0.mk (blk_below H32.out hb4)
  have HRT4 : Aside0 ((Kd.int .i64).R 3 (w2.alloc o4) w.heap.size (fun _ => True) (.slice B (stripL n roots).length d) (stripL n roots)) := ⟨Kd.R_below (Kd.R_of_own (enc := Value.int .i64) (h1 := fun _ => rfl) (own_lower HRT.out (by have := HS1.out; omega)) (fun k hk => trivial)) hb4⟩
  have HSG : Aside0 (w.heap.size + 1 + 1 < w2.heap.size) := ⟨blk_lt H32.out⟩
  clear hb4 HB2 H12 H22 H32 HRT ho4 y0 y1
  generalize w2.alloc o4 = w4 at H44 HB4 H14 H24 H34 HRT4 ⊢
  generalize w2.heap.size = g at H44 HSG ⊢
  have y0 := (blk_cell H14.out 0).trans rfl
  go_upto_region 4 with fail
  clear y0
  go_loopg [18] has.length (fun kq v18 w' => ∃ (i : Nat) (vh : Value), v18 = .int .i64 (i : Int) ∧ Aside0 (i ≤ has.length ∧ kq = has.length - i) ∧ Aside0 (w'.heap[g]? = some (.cells #[vh, .slice B (stripL n roots).length d] 25 (0, 0))) ∧ Aside0 (w'.heap[w.heap.size + 1]? = some (.cells #[.int .i64 n] 3 (0, 0))) ∧ Aside0 (w'.heap[w.heap.size + 1 + 1]? = some (.cells #[.slice none 0 0, .slice none 0 0] 25 (0, 0))) ∧ Aside0 (KH.R 23 w' w.heap.size (fun k => some k ≠ (Value.slice B (stripL n roots).length d).ownBlock) vh (outTo n has i)) ∧ Aside0 ((Kd.int .i64).R 3 w' w.heap.size (fun _ => True) (.slice B (stripL n roots).length d) (stripL n roots)) ∧ Aside0 (Below w.heap.size w w'))
  case atStart => exact ⟨0, .slice none 0 0, rfl, ⟨Nat.zero_le _, by omega⟩, H44, H24, H34, ⟨by simpa [outTo] using Kd.R_nil _ _ _ _ _⟩, HRT4, HB4⟩
  case round =>
    clear H44 H24 H34 H14 HRT4 HB4 HS1 HR
    obtain ⟨i, vh, rfl, HIQ, HG, H2r, H3r, HRH, HRR, HB⟩ := hrel
    by_cases hlt : i < has.length
    · have hi0 : (0 : Int) ≤ (i : Int) := by omega
      have hi1 : (i : Int) < (has.length : Int) := by omega
      have hdec : decide ((i : Int) < (has.length : Int)) = true := decide_eq_true hi1
      have hdec2 : decide (i < has.length) = true := decide_eq_true hlt
      have HLT := Aside0.mk hlt
      have HIW : Aside0 (wrap64 ((i : Int) + 1) = ((i + 1 : Nat) : Int)) := ⟨by have := HZ.out.1; have := HLT.out; unfold wrap64; omega⟩
      have HSN := Aside0.mk (outTo_succ n has i)
      have HXL : Aside0 ((outTo n has i).length ≤ 1000) := ⟨by rw [outTo_len]; have := HZ.out.1; omega⟩
      obtain ⟨xs, hxs⟩ : ∃ xs, xs = outTo n has i := ⟨_, rfl⟩
      rw [← hxs] at HRH HSN HXL
      clear hxs
      obtain ⟨Aq, cq, eq_⟩ := Kd.R_slice HRH.out
      subst eq_
      have n0 : wr.cell? ⟨w.heap.size + 1, 0, none⟩ = some (.int .i64 n) := (blk_cell H2r.out 0).trans rfl
      have hg0 : wr.cell? ⟨g, 0, none⟩ = some (.slice Aq xs.length cq) := (blk_cell HG.out 0).trans rfl
      obtain ⟨adH, Ai, ci, e, hrow0, hci, hCi⟩ := at_row (Kd.C_below HH.out.1 HB.out) i hlt
      subst e
      have HCI := Aside0.mk hCi
      have HLL : Aside0 ((has.getD i []).length ≤ 100000) := ⟨HZ.out.2.2 _ (by rw [List.getD_eq_getElem?_getD, List.getElem?_eq_getElem hlt]; exact List.getElem_mem hlt)⟩
      have HOA : Aside0 (outAt n has i = if (i : Int) = n then [] else stripL n (has.getD i [])) := ⟨rfl⟩
      have HGS : Aside0 (g < wr.heap.size) := ⟨blk_lt HG.out⟩
      generalize has.getD i [] = row at hrow0 hci HCI HLL HOA
      clear hCi hlt
      by_cases hkn : (i : Int) = n
      · have d5 : ((i : Int) == n) = true := by rw [beq_iff_eq]; exact hkn
        have HQE : Aside0 (outAt n has i = stripL n []) := ⟨by rw [HOA.out, if_pos hkn]; rfl⟩
        clear hkn
        go_upto_region 8 with fail
        refine start_ (n := 9) (S := fun w' => Below wr.heap.size wr w' ∧ w'.cell? ⟨g, 0, none⟩ = some (.slice Aq xs.length cq)) (ds := [6, 8]) #[false, false, false, false, false, false, false, false, false] (by kernel_rfl) rfl rfl ⟨(below_drew (Below.refl _ _)), hg0⟩ (fun hHeld => ?_)
        generalize hwd : wr.drew = wd at hHeld ⊢
        have hWD : wr.heap.size ≤ wd.heap.size := hHeld.1.size
        have hBW : w.heap.size ≤ wd.heap.size := Nat.le_trans HB.out.size hWD
        clear hwd
        refine pure_ (i := 0) (N := some 26) (v := ?_) (a' := ?_) #[true, false, false, false, false, false, false, false, false] rfl rfl (by kernel_rfl) (fun _ _ _ h => h) (Or.inl ⟨by rfl, ?_⟩) ?_ ?_
        rotate_left
        · intro w'
          go_simp
          with_reducible rfl
        rotate_left
        · simp only [Act.put, List.setIfInBounds_toArray, List.set_cons_zero, List.set_cons_succ, i64_w, i32_w]
          rfl
        refine pure_ (i := 2) (N := some 28) (v := ?_) (a' := ?_) #[true, false, true, false, false, false, false, false, false] rfl rfl (by kernel_rfl) (fun _ _ _ h => h) (Or.inl ⟨by rfl, ?_⟩) ?_ ?_
        rotate_left
        · intro w'
          go_simp
          with_reducible rfl
        rotate_left
        · simp only [Act.put, List.setIfInBounds_toArray, List.set_cons_zero, List.set_cons_succ, i64_w, i32_w]
          rfl
        refine pure_ (i := 3) (N := some 29) (v := ?_) (a' := ?_) #[true, false, true, true, false, false, false, false, false] rfl rfl (by kernel_rfl) (fun _ _ _ h => h) (Or.inl ⟨by rfl, ?_⟩) ?_ ?_
        rotate_left
        · intro w'
          go_simp
          with_reducible rfl
        rotate_left
        · simp only [Act.put, List.setIfInBounds_toArray, List.set_cons_zero, List.set_cons_succ, i64_w, i32_w]
          rfl
        refine take_ (i := 1) (N := some 27) (v := ?_) (a' := ?_) #[true, true, true, true, false, false, false, false, false] rfl rfl (by kernel_rfl) (fun _ _ _ h => h) (Or.inl ⟨by rfl, ?_⟩) hHeld ?_ ?_
        rotate_left
        · rintro w' ⟨s0, s1⟩
          go_simp
          with_reducible rfl
        rotate_left
        · simp only [Act.put, List.setIfInBounds_toArray, List.set_cons_zero, List.set_cons_succ, i64_w, i32_w]
          rfl
        refine one_ (i := 4) (N := some 30) #[true, true, true, true, true, false, false, false, false] rfl rfl (by kernel_rfl) (by decide) (fun K hK => ?_)
        refine goesC_ Try.func42 (by kernel_rfl) rfl #[.slice none ([] : List Int).length 0] #[.pointer (some ⟨w.heap.size + 1, 0, none⟩)] #[.slice none ([] : List Int).length 0, .pointer (some ⟨w.heap.size + 1, 0, none⟩)] rfl (by rfl) rfl rfl rfl (by simp only [List.map_toArray, List.map_cons, List.map_nil]; rfl) ?_
        with_reducible refine (strip_calls _ (w.heap.size + 1) n (blk_below H2r.out hHeld.1) none [] 0 (Kd.C_nil _ _) (by simp)).mono ?_
        rintro e w6 ⟨v6, rfl, ho6, hb6⟩
        refine ⟨_, rfl, ?_⟩
        rw [← HQE.out] at ho6
        obtain ⟨A6, c6, e6, hc6⟩ := own_shape ho6
        subst e6
        clear hc6
        refine hK.out _ _ ⟨below_step hHeld.1 hb6, cell_deeper hHeld.2 hb6 (Nat.lt_of_lt_of_le HGS.out hHeld.1.size)⟩ (fun hHeld => ?_)
        clear hK K
        refine norm_ (a' := ?_) ?_ ?_
        rotate_left
        · show Act.put _ (some 30) _ = _
          simp only [Act.put, List.setIfInBounds_toArray, List.set_cons_zero, List.set_cons_succ, i64_w, i32_w]
          rfl
        refine one_ (i := 5) (N := some 31) #[true, true, true, true, true, true, false, false, false] rfl rfl (by kernel_rfl) (by decide) (fun K hK => ?_)
        have HW6 := Aside0.mk hHeld.1
        have HO6 := Aside0.mk ho6
        refine value_ (w1 := ?_) (v := ?_) (by rfl) rfl ?_ ?_
        rotate_left 2
        · go_simp
          constructor
          · rfl
          · rfl
        refine hK.out _ _ ⟨hHeld.1.alloc (Nat.le_trans hHeld.1.size (Nat.le_refl _)) _, pw_cell_below (below_alloc (Below.refl _ _) _) hHeld.2⟩ (fun hHeld => ?_)
        clear hK K
        refine norm_ (a' := ?_) ?_ ?_
        rotate_left
        · show Act.put _ (some 31) _ = _
          simp only [Act.put, List.setIfInBounds_toArray, List.set_cons_zero, List.set_cons_succ, i64_w, i32_w]
          rfl
        refine last_ (i := 6) (N := some 32) #[true, true, true, true, true, true, true, false, false] rfl rfl (by kernel_rfl) (by decide) (fun K hK => ?_)
        refine Kd.R_append_step KH (w0 := w) w.heap.size (by rfl) (.tmp 27) (.tmp 31) 22 23 (.slice none 0 0) 24 rfl HU36 info_sl rfl (by decide) (by decide) (.slice Aq xs.length cq) xs (outAt n has i) [.slice A6 (outAt n has i).length c6] (fun k => some k ≠ (Value.slice B (stripL n roots).length d).ownBlock) (fun k => some k = (Value.slice A6 (outAt n has i).length c6).ownBlock) rfl rfl ?hp7 ?hok7 ?hfr7 (Kd.R_below HRH.out HW6.out) (HB.out.trans (below_cut HW6.out HB.out.size)) ?hbs7 ?hl7 ?_
        case hp7 => exact ⟨_, rfl, Kd.R_of_own (enc := Value.int .i64) (h1 := fun _ => rfl) (own_lower HO6.out hBW) (fun k hk => hk.symm)⟩
        case hok7 => exact fun k hk => ⟨fun e_ => by have h1_ := (HO6.out.lt k hk.symm).1; have h2_ := Kd.R_lt HRR.out k e_.symm; have h3_ := hWD; omega, fun e_ => by have h1_ := (HO6.out.lt k hk.symm).1; have h2_ := Kd.R_lt HRH.out k e_.symm; have h3_ := hWD; omega⟩
        case hfr7 => exact fun k hk e_ => by have h2_ := Kd.R_lt HRR.out k e_.symm; have h3_ := HW6.out.size; omega
        case hbs7 => exact Nat.le_trans HB.out.size HW6.out.size
        case hl7 => have h_ := HXL.out; omega
        intro v7 w7 ho7 hb7 hg7 hat7
        obtain ⟨A7, c7, e7⟩ := Kd.R_slice ho7
        subst e7
        have HO7 := Aside0.mk ho7
        have HB7 := Aside0.mk hb7
        have HG7 := Aside0.mk hg7
        have HAT7 := Aside0.mk hat7
        have HGB7 := Aside0.mk (blk_grown (blk_below HG.out HW6.out) hg7 (Kd.R_ne (Kd.R_below HRH.out HW6.out) (blk_below HG.out HW6.out) (by decide)))
        clear ho7 hb7 hg7 hat7
        refine hK.out _ _ ?_
        clear hK K
        refine norm_ (a' := ?_) ?_ ?_
        rotate_left
        · show Act.put _ (some 32) _ = _
          simp only [Act.put, List.setIfInBounds_toArray, List.set_cons_zero, List.set_cons_succ, i64_w, i32_w]
          rfl
        refine pure_ (i := 7) (N := some 33) (v := ?_) (a' := ?_) #[true, true, true, true, true, true, true, true, false] rfl rfl (by kernel_rfl) (fun _ _ _ h => h) (Or.inl ⟨by rfl, ?_⟩) ?_ ?_
        rotate_left
        · intro w'
          go_simp
          with_reducible rfl
        rotate_left
        · simp only [Act.put, List.setIfInBounds_toArray, List.set_cons_zero, List.set_cons_succ, i64_w, i32_w]
          rfl
        refine last_ (i := 8) (N := none) #[true, true, true, true, true, true, true, true, true] rfl rfl (by kernel_rfl) (by decide) (fun K hK => ?_)
        have hd7 : w7.cell? ⟨g, 0, none⟩ = some (.slice Aq xs.length cq) := (blk_cell HGB7.out 0).trans rfl
        have hf7 : w7.frozen? ⟨g, 0, none⟩ = false := blk_frozen HGB7.out 0
        refine skip_ (w1 := ?_) (by rfl) rfl ?_ ?_
        rotate_left
        · go_simp
          rfl
        refine hK.out _ _ ?_
        clear hK K
        refine done_ (by kernel_rfl) ?_
        generalize hw8 : World.setCell w7 _ _ = w8
        have HGB8 : Aside0 (w8.heap[g]? = some (.cells #[.slice A7 (xs ++ [outAt n has i]).length c7, .slice B (stripL n roots).length d] 25 (0, 0))) := ⟨by rw [← hw8]; simpa using blk_set HGB7.out 0 (.slice A7 (xs ++ [outAt n has i]).length c7)⟩
        have hkeep : ∀ k, k < w7.heap.size → k ≠ g → w8.heap[k]? = w7.heap[k]? := fun k _ hk => by rw [← hw8]; exact heap_setCell_other w7 _ k _ hk
        have hB17 : Below w.heap.size w w8 := by rw [← hw8]; exact HB7.out.setCell (p := ⟨g, 0, none⟩) (by show w.heap.size ≤ g; have := HSG.out; omega) _
        have HB8 := Aside0.mk hB17
        have hX7 := blk_grown (blk_below H2r.out HW6.out) HG7.out (Kd.R_ne (Kd.R_below HRH.out HW6.out) (blk_below H2r.out HW6.out) (by decide))
        have H28 : Aside0 (w8.heap[w.heap.size + 1]? = some (.cells #[.int .i64 n] 3 (0, 0))) := ⟨(hkeep _ (blk_lt hX7) (by have := HSG.out; omega)).trans hX7⟩
        have hY7 := blk_grown (blk_below H3r.out HW6.out) HG7.out (Kd.R_ne (Kd.R_below HRH.out HW6.out) (blk_below H3r.out HW6.out) (by decide))
        have H38 : Aside0 (w8.heap[w.heap.size + 1 + 1]? = some (.cells #[.slice none 0 0, .slice none 0 0] 25 (0, 0))) := ⟨(hkeep _ (blk_lt hY7) (by have := HSG.out; omega)).trans hY7⟩
        have HRR7 : (Kd.int .i64).R 3 w7 w.heap.size (fun _ => True) (.slice B (stripL n roots).length d) (stripL n roots) := R_flat rfl (Kd.R_below HRR.out HW6.out) (fun k hk => HG7.out.block k (Kd.R_lt (Kd.R_below HRR.out HW6.out) k hk) (fun e_ => by
          obtain ⟨cs_, hcs⟩ := Kd.R_typed (Kd.R_below HRR.out HW6.out) k hk
          exact Kd.R_ne (Kd.R_below HRH.out HW6.out) hcs (by decide) e_))
        have HRR8 : Aside0 ((Kd.int .i64).R 3 w8 w.heap.size (fun _ => True) (.slice B (stripL n roots).length d) (stripL n roots)) := ⟨R_flat rfl HRR7 (fun k hk => hkeep k (Kd.R_lt HRR7 k hk) (fun e_ => by subst e_; exact Kd.R_ne HRR7 HGB7.out (by decide) hk.symm))⟩
        have HRH8 : Aside0 (KH.R 23 w8 w.heap.size (fun k => some k ≠ (Value.slice B (stripL n roots).length d).ownBlock) (.slice A7 (xs ++ [outAt n has i]).length c7) (xs ++ [outAt n has i])) := ⟨by
          have h_ := Kd.R_apart' (v := .slice (some ⟨g, 0, none⟩) 0 0) HO7.out (e' := 25) (fun k hk => by simp [Value.ownBlock] at hk; subst hk; exact ⟨_, HGB7.out⟩) (by decide)
          refine Kd.R_mono (Kd.R_step h_ (fun k hk hlt => hkeep k hlt (fun e_ => hk.2 (by rw [e_]; rfl)))) (fun k hk => hk.1)⟩
        clear hw8 hkeep hB17 hX7 hY7 HRR7 hg0 n0
        go_wp2_with fail
        go_roundg (has.length - (i + 1))
        case measure => have := HIQ.out; have := HLT.out; omega
        case rel =>
          refine ⟨i + 1, _, ?_, ⟨by have := HLT.out; omega, rfl⟩, HGB8, H28, H38, ⟨?_⟩, HRR8, HB8⟩
          · first | rfl | rw [HIW.out]
          · rw [HSN.out]; exact HRH8.out
      · have d5 : ((i : Int) == n) = false := by exact beq_eq_false_iff_ne.mpr hkn
        have HQE : Aside0 (outAt n has i = stripL n row) := ⟨by rw [HOA.out, if_neg hkn]⟩
        clear hkn
        go_upto_region 8 with fail
        refine start_ (n := 9) (S := fun w' => Below wr.heap.size wr w' ∧ w'.cell? ⟨g, 0, none⟩ = some (.slice Aq xs.length cq)) (ds := [6, 8]) #[false, false, false, false, false, false, false, false, false] (by kernel_rfl) rfl rfl ⟨(below_drew (Below.refl _ _)), hg0⟩ (fun hHeld => ?_)
        generalize hwd : wr.drew = wd at hHeld ⊢
        have hWD : wr.heap.size ≤ wd.heap.size := hHeld.1.size
        have hBW : w.heap.size ≤ wd.heap.size := Nat.le_trans HB.out.size hWD
        clear hwd
        refine pure_ (i := 0) (N := some 26) (v := ?_) (a' := ?_) #[true, false, false, false, false, false, false, false, false] rfl rfl (by kernel_rfl) (fun _ _ _ h => h) (Or.inl ⟨by rfl, ?_⟩) ?_ ?_
        rotate_left
        · intro w'
          go_simp
          with_reducible rfl
        rotate_left
        · simp only [Act.put, List.setIfInBounds_toArray, List.set_cons_zero, List.set_cons_succ, i64_w, i32_w]
          rfl
        refine pure_ (i := 2) (N := some 28) (v := ?_) (a' := ?_) #[true, false, true, false, false, false, false, false, false] rfl rfl (by kernel_rfl) (fun _ _ _ h => h) (Or.inl ⟨by rfl, ?_⟩) ?_ ?_
        rotate_left
        · intro w'
          go_simp
          with_reducible rfl
        rotate_left
        · simp only [Act.put, List.setIfInBounds_toArray, List.set_cons_zero, List.set_cons_succ, i64_w, i32_w]
          rfl
        refine pure_ (i := 3) (N := some 29) (v := ?_) (a' := ?_) #[true, false, true, true, false, false, false, false, false] rfl rfl (by kernel_rfl) (fun _ _ _ h => h) (Or.inl ⟨by rfl, ?_⟩) ?_ ?_
        rotate_left
        · intro w'
          go_simp
          with_reducible rfl
        rotate_left
        · simp only [Act.put, List.setIfInBounds_toArray, List.set_cons_zero, List.set_cons_succ, i64_w, i32_w]
          rfl
        refine take_ (i := 1) (N := some 27) (v := ?_) (a' := ?_) #[true, true, true, true, false, false, false, false, false] rfl rfl (by kernel_rfl) (fun _ _ _ h => h) (Or.inl ⟨by rfl, ?_⟩) hHeld ?_ ?_
        rotate_left
        · rintro w' ⟨s0, s1⟩
          go_simp
          with_reducible rfl
        rotate_left
        · simp only [Act.put, List.setIfInBounds_toArray, List.set_cons_zero, List.set_cons_succ, i64_w, i32_w]
          rfl
        refine one_ (i := 4) (N := some 30) #[true, true, true, true, true, false, false, false, false] rfl rfl (by kernel_rfl) (by decide) (fun K hK => ?_)
        refine goesC_ Try.func42 (by kernel_rfl) rfl #[.slice Ai row.length ci] #[.pointer (some ⟨w.heap.size + 1, 0, none⟩)] #[.slice Ai row.length ci, .pointer (some ⟨w.heap.size + 1, 0, none⟩)] rfl (by rfl) rfl rfl rfl (by simp only [List.map_toArray, List.map_cons, List.map_nil]; rfl) ?_
        with_reducible refine (strip_calls _ (w.heap.size + 1) n (blk_below H2r.out hHeld.1) Ai row ci (Kd.C_below HCI.out hHeld.1) (by have h_ := HLL.out; omega)).mono ?_
        rintro e w6 ⟨v6, rfl, ho6, hb6⟩
        refine ⟨_, rfl, ?_⟩
        rw [← HQE.out] at ho6
        obtain ⟨A6, c6, e6, hc6⟩ := own_shape ho6
        subst e6
        clear hc6
        refine hK.out _ _ ⟨below_step hHeld.1 hb6, cell_deeper hHeld.2 hb6 (Nat.lt_of_lt_of_le HGS.out hHeld.1.size)⟩ (fun hHeld => ?_)
        clear hK K
        refine norm_ (a' := ?_) ?_ ?_
        rotate_left
        · show Act.put _ (some 30) _ = _
          simp only [Act.put, List.setIfInBounds_toArray, List.set_cons_zero, List.set_cons_succ, i64_w, i32_w]
          rfl
        refine one_ (i := 5) (N := some 31) #[true, true, true, true, true, true, false, false, false] rfl rfl (by kernel_rfl) (by decide) (fun K hK => ?_)
        have HW6 := Aside0.mk hHeld.1
        have HO6 := Aside0.mk ho6
        refine value_ (w1 := ?_) (v := ?_) (by rfl) rfl ?_ ?_
        rotate_left 2
        · go_simp
          constructor
          · rfl
          · rfl
        refine hK.out _ _ ⟨hHeld.1.alloc (Nat.le_trans hHeld.1.size (Nat.le_refl _)) _, pw_cell_below (below_alloc (Below.refl _ _) _) hHeld.2⟩ (fun hHeld => ?_)
        clear hK K
        refine norm_ (a' := ?_) ?_ ?_
        rotate_left
        · show Act.put _ (some 31) _ = _
          simp only [Act.put, List.setIfInBounds_toArray, List.set_cons_zero, List.set_cons_succ, i64_w, i32_w]
          rfl
        refine last_ (i := 6) (N := some 32) #[true, true, true, true, true, true, true, false, false] rfl rfl (by kernel_rfl) (by decide) (fun K hK => ?_)
        refine Kd.R_append_step KH (w0 := w) w.heap.size (by rfl) (.tmp 27) (.tmp 31) 22 23 (.slice none 0 0) 24 rfl HU36 info_sl rfl (by decide) (by decide) (.slice Aq xs.length cq) xs (outAt n has i) [.slice A6 (outAt n has i).length c6] (fun k => some k ≠ (Value.slice B (stripL n roots).length d).ownBlock) (fun k => some k = (Value.slice A6 (outAt n has i).length c6).ownBlock) rfl rfl ?hp7 ?hok7 ?hfr7 (Kd.R_below HRH.out HW6.out) (HB.out.trans (below_cut HW6.out HB.out.size)) ?hbs7 ?hl7 ?_
        case hp7 => exact ⟨_, rfl, Kd.R_of_own (enc := Value.int .i64) (h1 := fun _ => rfl) (own_lower HO6.out hBW) (fun k hk => hk.symm)⟩
        case hok7 => exact fun k hk => ⟨fun e_ => by have h1_ := (HO6.out.lt k hk.symm).1; have h2_ := Kd.R_lt HRR.out k e_.symm; have h3_ := hWD; omega, fun e_ => by have h1_ := (HO6.out.lt k hk.symm).1; have h2_ := Kd.R_lt HRH.out k e_.symm; have h3_ := hWD; omega⟩
        case hfr7 => exact fun k hk e_ => by have h2_ := Kd.R_lt HRR.out k e_.symm; have h3_ := HW6.out.size; omega
        case hbs7 => exact Nat.le_trans HB.out.size HW6.out.size
        case hl7 => have h_ := HXL.out; omega
        intro v7 w7 ho7 hb7 hg7 hat7
        obtain ⟨A7, c7, e7⟩ := Kd.R_slice ho7
        subst e7
        have HO7 := Aside0.mk ho7
        have HB7 := Aside0.mk hb7
        have HG7 := Aside0.mk hg7
        have HAT7 := Aside0.mk hat7
        have HGB7 := Aside0.mk (blk_grown (blk_below HG.out HW6.out) hg7 (Kd.R_ne (Kd.R_below HRH.out HW6.out) (blk_below HG.out HW6.out) (by decide)))
        clear ho7 hb7 hg7 hat7
        refine hK.out _ _ ?_
        clear hK K
        refine norm_ (a' := ?_) ?_ ?_
        rotate_left
        · show Act.put _ (some 32) _ = _
          simp only [Act.put, List.setIfInBounds_toArray, List.set_cons_zero, List.set_cons_succ, i64_w, i32_w]
          rfl
        refine pure_ (i := 7) (N := some 33) (v := ?_) (a' := ?_) #[true, true, true, true, true, true, true, true, false] rfl rfl (by kernel_rfl) (fun _ _ _ h => h) (Or.inl ⟨by rfl, ?_⟩) ?_ ?_
        rotate_left
        · intro w'
          go_simp
          with_reducible rfl
        rotate_left
        · simp only [Act.put, List.setIfInBounds_toArray, List.set_cons_zero, List.set_cons_succ, i64_w, i32_w]
          rfl
        refine last_ (i := 8) (N := none) #[true, true, true, true, true, true, true, true, true] rfl rfl (by kernel_rfl) (by decide) (fun K hK => ?_)
        have hd7 : w7.cell? ⟨g, 0, none⟩ = some (.slice Aq xs.length cq) := (blk_cell HGB7.out 0).trans rfl
        have hf7 : w7.frozen? ⟨g, 0, none⟩ = false := blk_frozen HGB7.out 0
        refine skip_ (w1 := ?_) (by rfl) rfl ?_ ?_
        rotate_left
        · go_simp
          rfl
        refine hK.out _ _ ?_
        clear hK K
        refine done_ (by kernel_rfl) ?_
        generalize hw8 : World.setCell w7 _ _ = w8
        have HGB8 : Aside0 (w8.heap[g]? = some (.cells #[.slice A7 (xs ++ [outAt n has i]).length c7, .slice B (stripL n roots).length d] 25 (0, 0))) := ⟨by rw [← hw8]; simpa using blk_set HGB7.out 0 (.slice A7 (xs ++ [outAt n has i]).length c7)⟩
        have hkeep : ∀ k, k < w7.heap.size → k ≠ g → w8.heap[k]? = w7.heap[k]? := fun k _ hk => by rw [← hw8]; exact heap_setCell_other w7 _ k _ hk
        have hB17 : Below w.heap.size w w8 := by rw [← hw8]; exact HB7.out.setCell (p := ⟨g, 0, none⟩) (by show w.heap.size ≤ g; have := HSG.out; omega) _
        have HB8 := Aside0.mk hB17
        have hX7 := blk_grown (blk_below H2r.out HW6.out) HG7.out (Kd.R_ne (Kd.R_below HRH.out HW6.out) (blk_below H2r.out HW6.out) (by decide))
        have H28 : Aside0 (w8.heap[w.heap.size + 1]? = some (.cells #[.int .i64 n] 3 (0, 0))) := ⟨(hkeep _ (blk_lt hX7) (by have := HSG.out; omega)).trans hX7⟩
        have hY7 := blk_grown (blk_below H3r.out HW6.out) HG7.out (Kd.R_ne (Kd.R_below HRH.out HW6.out) (blk_below H3r.out HW6.out) (by decide))
        have H38 : Aside0 (w8.heap[w.heap.size + 1 + 1]? = some (.cells #[.slice none 0 0, .slice none 0 0] 25 (0, 0))) := ⟨(hkeep _ (blk_lt hY7) (by have := HSG.out; omega)).trans hY7⟩
        have HRR7 : (Kd.int .i64).R 3 w7 w.heap.size (fun _ => True) (.slice B (stripL n roots).length d) (stripL n roots) := R_flat rfl (Kd.R_below HRR.out HW6.out) (fun k hk => HG7.out.block k (Kd.R_lt (Kd.R_below HRR.out HW6.out) k hk) (fun e_ => by
          obtain ⟨cs_, hcs⟩ := Kd.R_typed (Kd.R_below HRR.out HW6.out) k hk
          exact Kd.R_ne (Kd.R_below HRH.out HW6.out) hcs (by decide) e_))
        have HRR8 : Aside0 ((Kd.int .i64).R 3 w8 w.heap.size (fun _ => True) (.slice B (stripL n roots).length d) (stripL n roots)) := ⟨R_flat rfl HRR7 (fun k hk => hkeep k (Kd.R_lt HRR7 k hk) (fun e_ => by subst e_; exact Kd.R_ne HRR7 HGB7.out (by decide) hk.symm))⟩
        have HRH8 : Aside0 (KH.R 23 w8 w.heap.size (fun k => some k ≠ (Value.slice B (stripL n roots).length d).ownBlock) (.slice A7 (xs ++ [outAt n has i]).length c7) (xs ++ [outAt n has i])) := ⟨by
          have h_ := Kd.R_apart' (v := .slice (some ⟨g, 0, none⟩) 0 0) HO7.out (e' := 25) (fun k hk => by simp [Value.ownBlock] at hk; subst hk; exact ⟨_, HGB7.out⟩) (by decide)
          refine Kd.R_mono (Kd.R_step h_ (fun k hk hlt => hkeep k hlt (fun e_ => hk.2 (by rw [e_]; rfl)))) (fun k hk => hk.1)⟩
        clear hw8 hkeep hB17 hX7 hY7 HRR7 hg0 n0
        go_wp2_with fail
        go_roundg (has.length - (i + 1))
        case measure => have := HIQ.out; have := HLT.out; omega
        case rel =>
          refine ⟨i + 1, _, ?_, ⟨by have := HLT.out; omega, rfl⟩, HGB8, H28, H38, ⟨?_⟩, HRR8, HB8⟩
          · first | rfl | rw [HIW.out]
          · rw [HSN.out]; exact HRH8.out
    · have ei : i = has.length := by have := HIQ.out; omega
      subst ei
      have hdec : decide ((has.length : Int) < (has.length : Int)) = false := decide_eq_false (by omega)
      have hdec2 : decide (has.length < has.length) = false := decide_eq_false hlt
      clear hlt
      obtain ⟨xs, hxs⟩ : ∃ xs, xs = outTo n has has.length := ⟨_, rfl⟩
      rw [← hxs] at HRH
      have HXS := Aside0.mk hxs
      clear hxs
      obtain ⟨Aq, cq, eq_⟩ := Kd.R_slice HRH.out
      subst eq_
      have HXL : Aside0 (xs.length = has.length) := ⟨by rw [HXS.out, outTo_len]⟩
      have hg0 : wr.cell? ⟨g, 0, none⟩ = some (.slice Aq xs.length cq) := (blk_cell HG.out 0).trans rfl
      have hg1 : wr.cell? ⟨g, 1, none⟩ = some (.slice B (stripL n roots).length d) := (blk_cell HG.out 1).trans rfl
      have hh0 : wr.cell? ⟨w.heap.size + 1 + 1, 0, none⟩ = some (.slice none 0 0) := (blk_cell H3r.out 0).trans rfl
      have hh1 : wr.cell? ⟨w.heap.size + 1 + 1, 1, none⟩ = some (.slice none 0 0) := (blk_cell H3r.out 1).trans rfl
      have hz0 : wr.frozen? ⟨w.heap.size + 1 + 1, 0, none⟩ = false := blk_frozen H3r.out 0
      have hz1 : wr.frozen? ⟨w.heap.size + 1 + 1, 1, none⟩ = false := blk_frozen H3r.out 1
      have HG1b := Aside0.mk (blk_put H3r.out 0 (.slice Aq xs.length cq) (cs' := #[.slice Aq xs.length cq, .slice none 0 0]) rfl)
      have HG2b := Aside0.mk (blk_put HG1b.out 1 (.slice B (stripL n roots).length d) (cs' := #[.slice Aq xs.length cq, .slice B (stripL n roots).length d]) rfl)
      go_wp2_with fail
      (try simp only [Exit.inBlock, Exit.then])
      refine bodyPost_ret (results_cell_row rfl _ _ (w.heap.size + 1 + 1) 25 #[.slice Aq xs.length cq, .slice B (stripL n roots).length d] (0, 0) _ rfl HG2b.out Try.underlying25 rfl (by kernel_rfl)) rfl ?_
      have hk1 : ∀ u, ∀ k, k ≠ w.heap.size + 1 + 1 → (wr.setCell ⟨w.heap.size + 1 + 1, 0, none⟩ u).heap[k]? = wr.heap[k]? := fun u k hk => heap_setCell_other wr _ k u hk
      have hk2 : ∀ u u', ∀ k, k ≠ w.heap.size + 1 + 1 → ((wr.setCell ⟨w.heap.size + 1 + 1, 0, none⟩ u).setCell ⟨w.heap.size + 1 + 1, 1, none⟩ u').heap[k]? = wr.heap[k]? := fun u u' k hk => (heap_setCell_other _ _ k u' hk).trans (hk1 u k hk)
      rw [← HXS.out, ← HXL.out]
      refine ⟨Aq, cq, B, d, rfl, ?_, ?_, (HB.out.setCell (p := ⟨w.heap.size + 1 + 1, 0, none⟩) (by show w.heap.size ≤ _; simp only; omega) _).setCell (p := ⟨w.heap.size + 1 + 1, 1, none⟩) (by show w.heap.size ≤ _; simp only; omega) _⟩
      · have h_ := Kd.R_apart' (v := .slice (some ⟨w.heap.size + 1 + 1, 0, none⟩) 0 0) HRH.out (e' := 25) (fun k hk => by simp [Value.ownBlock] at hk; subst hk; exact ⟨_, H3r.out⟩) (by decide)
        exact Kd.R_mono (Kd.R_step h_ (fun k hk hlt => hk2 _ _ k (fun e_ => hk.2 (by rw [e_]; rfl)))) (fun k hk => trivial)
      · exact R_flat rfl HRR.out (fun k hk => hk2 _ _ k (fun e_ => by subst e_; exact Kd.R_ne HRR.out H3r.out (by decide) hk.symm))
end Go.Proofs.Ytoleplbmkdhgeaa.Own
