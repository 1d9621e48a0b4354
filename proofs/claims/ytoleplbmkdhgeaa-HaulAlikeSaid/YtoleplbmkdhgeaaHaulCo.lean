/- Package haul: Collect walked. -/
import Derived.Test.YtoleplbmkdhgeaaHaulPl
set_option linter.unusedVariables false
set_option linter.unusedSimpArgs false
namespace Go.Proofs.Ytoleplbmkdhgeaa.Hal
open Go.RowKit Go.Proofs.YtoleplbmkdhgeaaW.PrintWords Go.Proofs.YtoleplbmkdhgeaaW.PrintLast Go.Proofs.YtoleplbmkdhgeaaW.PrintMore Go.Proofs.Ytoleplbmkdhgeaa.PQ Go.Proofs.Ytoleplbmkdhgeaa.Hnd Go.Proofs.Ytoleplbmkdhgeaa.Nb

def CollBad (w : World) (E : Int) (e : Ending) (w' : World) : Prop := e = .returned (.tuple #[.agg #[.slice none 0 0, .slice none 0 0], .slice none 0 0, .int .i64 E]) ∧ Below w.heap.size w w'
def CollOk (w : World) (fr objs rs : List Int) (e : Ending) (w' : World) : Prop := ∃ c fs outs vto vouts vold, e = .returned (.tuple #[.agg #[vto, vouts], vold, .int .i64 0]) ∧ Fin_ fr objs rs outs c fs ∧ Kd.R (Kd.int .u64) 57 w' w.heap.size (fun _ => True) vto c.dst ∧ Kd.R (Kd.int .u64) 57 w' w.heap.size (fun _ => True) vouts outs ∧ Kd.R k56 56 w' w.heap.size (fun _ => True) vold c.mvs ∧ Below w.heap.size w w'
theorem far_of {g bm m n : Nat} {fv vto vold : Value} {c : Col} {W w : World} {A : Option Addr} {xs : List Int} (hC : Kd.C (Kd.int .u64) w A n xs) (hI : IsCol w.heap.size W g bm fv vto vold m c) :
    0 < n → ∀ ad, A = some ad → ¬ colFoot g bm vto vold ad.block := by
  intro hn ad he hf
  obtain ⟨ad', e', hc⟩ := Kd.at_int hC 0 (by omega) (by omega)
  rw [he] at e'; injection e' with e'; subst e'
  have hl := World.block_lt_of_cell? w _ hc
  rw [add_block] at hl
  obtain ⟨i1, i2, i3, i4, i5, i6⟩ := hI
  rcases hf with h | h | h | h
  · omega
  · omega
  · have := Kd.R_base i2 _ h.symm; omega
  · have := Kd.R_base i3 _ h.symm; omega
theorem IsCol.grown {B : Nat} {W W1 : World} {g bm : Nat} {fv vto vtold : Value} {n : Nat} {c : Col} (h : IsCol B W g bm fv vto vtold n c) {row : Option Nat} (hg : W.grownBy W1 row) (h1 : row ≠ some g) (h2 : row ≠ some bm) (h3 : ∀ k, vto.ownBlock = some k → some k ≠ row) (h4 : ∀ k, vtold.ownBlock = some k → some k ≠ row) : IsCol B W1 g bm fv vto vtold n c :=
  ⟨blk_grown h.1 hg (Ne.symm h1), R_flat rfl h.2.1 (fun k hk => hg.block k (Kd.R_lt h.2.1 k hk) (h3 k hk)), R_flat rfl h.2.2.1 (fun k hk => hg.block k (Kd.R_lt h.2.2.1 k hk) (h4 k hk)), h.2.2.2.1.kept hg (Ne.symm h2), h.2.2.2.2⟩
/-- A row of the call's own, that is no part of a collector: a move leaves it. -/
def Off (g bm : Nat) (vto vold : Value) (v : Value) : Prop := ∀ k, v.ownBlock = some k → ¬ colFoot g bm vto vold k
theorem off_of {B : Nat} {W : World} {g bm : Nat} {fv vto vold v : Value} {n : Nat} {c : Col} {outs : List Int} (hI : IsCol B W g bm fv vto vold n c) (hR : Kd.R (Kd.int .u64) 57 W B (fun _ => True) v outs) (hne : ∀ k, v.ownBlock = some k → some k ≠ vto.ownBlock) : Off g bm vto vold v := by
  intro k hk hf
  rcases hf with h | h | h | h
  · subst h; exact Kd.R_ne hR hI.1 (by decide) hk.symm
  · subst h
    obtain ⟨cs, hcs⟩ := Kd.R_typed hR _ hk
    exact IsMap_.ne hI.2.2.2.1 hcs rfl
  · exact hne k hk h
  · exact R_apart2 hR hI.2.2.1 (by decide) k hk h
theorem stay_ne {W : World} {B : Nat} {v vto vto' : Value} {outs : List Int} (hR : Kd.R (Kd.int .u64) 57 W B (fun _ => True) v outs) (hs : Stays W vto vto') (hne : ∀ k, v.ownBlock = some k → some k ≠ vto.ownBlock) : ∀ k, v.ownBlock = some k → some k ≠ vto'.ownBlock := by
  intro k hk he
  rcases hs with h | ⟨b, h, h2⟩
  · rw [h] at he; exact hne k hk he
  · rw [h] at he; injection he with he; subst he
    have := Kd.R_lt hR _ hk; omega
/-- A place of a row of the call's own. -/
theorem to_cell {W : World} {B e n cT : Nat} {AT : Option Addr} {xs : List Int} (h : Kd.R (Kd.int .u64) e W B (fun _ => True) (.slice AT n cT) xs) {i : Nat} (hi : i < xs.length) :
    ∃ g2, AT = some ⟨g2, 0, none⟩ ∧ W.cell? ⟨g2, i, none⟩ = some (.int .u64 (xs.getD i 0)) ∧ W.frozen? ⟨g2, i, none⟩ = false := by
  obtain ⟨rfl, _⟩ := Kd.R_reads' h
  obtain ⟨inner, ho⟩ := Kd.R_own h
  rcases ho.2 with ⟨h_, _⟩ | ⟨g', cap, cur, he, _, hh, _⟩
  · simp at h_; rw [h_.2.1] at hi; simp at hi
  · simp only [Value.slice.injEq, Option.some.injEq] at he
    obtain ⟨rfl, _, rfl⟩ := he
    have := Kd.R_celln (enc := Value.int .u64) (h1 := fun _ => rfl) (0 : Int) h (i : Int) (by omega) (by omega)
    rw [Int.toNat_natCast] at this
    exact ⟨g', rfl, this⟩
theorem IsCol.put {B : Nat} {W : World} {g bm g2 n cT m : Nat} {fv vold : Value} {c : Col} (h : IsCol B W g bm fv (.slice (some ⟨g2, 0, none⟩) n cT) vold m c) (i : Nat) (x : Int) :
    IsCol B (W.setCell ⟨g2, i, none⟩ (.int .u64 x)) g bm fv (.slice (some ⟨g2, 0, none⟩) n cT) vold m (setD c i x) := by
  obtain ⟨h1, h2, h3, h4, h5, h6⟩ := h
  have hg : g ≠ g2 := fun e => by subst e; exact Kd.R_ne h2 h1 (by decide) rfl
  have hap := R_apart2 h3 h2 (by decide)
  obtain ⟨cs, hcs⟩ := Kd.R_typed h2 g2 rfl
  refine ⟨?_, ?_, ?_, h4.set_ (h4.ne hcs) _, h5, h6⟩
  · rw [Below.heap_setCell _ _ _ _ hg]; exact h1
  · have h_ := Kd.R_putn (enc := Value.int .u64) (h1 := fun _ => rfl) h2 (i : Int) x
    rw [Int.toNat_natCast] at h_
    exact h_
  · refine R_flat rfl h3 (fun k hk => ?_)
    rw [Below.heap_setCell]
    intro e; subst e
    exact hap _ hk rfl
/-- Where the first result is kept. -/
def Res (W : World) (r : Nat) : Prop := W.heap[r]? = some (.cells #[.slice none 0 0, .slice none 0 0] 51 (0, 0))
theorem off_res {B : Nat} {W : World} {g bm r : Nat} {fv vto vold : Value} {n : Nat} {c : Col} (hI : IsCol B W g bm fv vto vold n c) (hD : Res W r) : ¬ colFoot g bm vto vold r := by
  intro hf
  rcases hf with h | h | h | h
  · subst h; have h_ := hI.1; unfold Res at hD; rw [hD] at h_; injection h_ with h_; injection h_ with _ h_; exact absurd h_ (by decide)
  · subst h; exact IsMap_.ne hI.2.2.2.1 hD rfl
  · exact Kd.R_ne hI.2.1 hD (by decide) h
  · exact Kd.R_ne hI.2.2.1 hD (by decide) h
theorem Res.moved {B : Nat} {W W2 : World} {g bm r : Nat} {fv vto vold : Value} {n : Nat} {c : Col} (hD : Res W r) (hI : IsCol B W g bm fv vto vold n c) (hk : Kept W W2 (colFoot g bm vto vold)) : Res W2 r :=
  (hk.2 r (blk_lt hD) (off_res hI hD)).trans hD
set_option maxHeartbeats 16000000 in
set_option maxRecDepth 100000 in
theorem collect_calls (k : Nat) (w : World) (AW : Option Addr) (cW : Nat) (words : List Int) (AR : Option Addr) (cR : Nat) (roots : List Int) (objs : List Int) (is : Bool)
    (hW : Kd.C (Kd.int .u64) w AW words.length words) (hcW : words.length ≤ cW) (hR : Kd.C (Kd.int .u64) w AR roots.length roots) (hU : ∀ x ∈ words, U64 x) (hV : ∀ x ∈ roots, U64 x)
    (ho : words.length ≤ 2000 → haul_objects.f k words = some (objs, is)) (hi : ∀ x ∈ objs, I64 x) (hol : objs.length ≤ 1000000)
    (hok : chkE words roots objs is = 0 → words.length ≤ 2000 ∧ roots.length ≤ 100 ∧ HOk words objs ∧ ∀ y ∈ roots, isRef y = true → plN y ∈ objs) :
    Calls Try.prog 29 #[.agg #[.slice AW words.length cW, .slice AR roots.length cR]] w fun e w' => (chkE words roots objs is ≠ 0 ∧ CollBad w (chkE words roots objs is) e w') ∨ (chkE words roots objs is = 0 ∧ CollOk w words objs roots e w') := by
  have HW := Aside0.mk hW
  have HR := Aside0.mk hR
  have HU := Aside0.mk hU
  have HV := Aside0.mk hV
  have HC := Aside0.mk hcW
  have HOK := Aside0.mk hok
  have hmm := @run_makeMap Try.prog
  have HMU := Try.underlying81
  have HU49 := Try.underlying49
  let H0 := Obj.cells #[.slice AW words.length cW, .slice AR roots.length cR] 51
  let H1 := Obj.cells #[.slice none 0 0, .slice none 0 0] 51
  have hb0 : Below w.heap.size w ((w.alloc H0).alloc H1) := below_alloc (below_alloc (Below.refl _ _) _) _
  have hcall := check_calls k ((w.alloc H0).alloc H1) AW cW words AR cR roots objs is (Kd.C_below hW hb0) hcW (Kd.C_below hR hb0) hU hV ho hi hol
  have HCALL := Aside0.mk hcall
  have hk0 : ((w.alloc H0).alloc H1).heap[w.heap.size]? = some H0 := blk_alloc (heap_alloc_new w H0) H1
  have hk1 : ((w.alloc H0).alloc H1).heap[w.heap.size + 1]? = some H1 := by have h_ := heap_alloc_new (w.alloc H0) H1; simpa using h_
  have HB0 := Aside0.mk hb0
  have HK0 := Aside0.mk hk0
  have HK1 := Aside0.mk hk1
  clear hW hR hU hV hcW hok hb0 hk0 hk1 ho hi hol hcall
  go_enter Try.func29, Try.ntmps29
  go_wp2_with fail
  refine HCALL.out.mono ?_
  rintro e w1 ⟨rfl, hb⟩
  have HB1 : Aside0 (Below w.heap.size w w1) := ⟨HB0.out.trans (below_cut hb (Nat.le_trans (Nat.le_succ _) (Nat.le_of_lt (blk_lt HK1.out))))⟩
  have HD0 := Aside0.mk (blk_below HK0.out hb)
  have HD1 := Aside0.mk (blk_below HK1.out hb)
  clear hb HCALL
  by_cases hE : chkE words roots objs is = 0
  · obtain ⟨z1, z2, HO, hrr⟩ := HOK.out hE
    have HE := Aside0.mk hE
    have HOO := Aside0.mk HO
    have HRR := Aside0.mk hrr
    have HZ : Aside0 (words.length ≤ 2000 ∧ roots.length ≤ 100) := ⟨⟨z1, z2⟩⟩
    rw [hE]
    have hx0 : w1.cell? ⟨w.heap.size, 0, none⟩ = some (.slice AW words.length cW) := (blk_cell HD0.out 0).trans rfl
    have hx1 : w1.cell? ⟨w.heap.size, 1, none⟩ = some (.slice AR roots.length cR) := (blk_cell HD0.out 1).trans rfl
    have hB2 : Below w1.heap.size w1 ((w1.alloc (Obj.map #[] 0)).alloc (Obj.cells #[.slice AW words.length cW, .slice none 0 0, .map (some w1.heap.size), .slice none 0 0] 83)) := below_alloc (below_alloc (Below.refl _ _) _) _
    have hx2 : ((w1.alloc (Obj.map #[] 0)).alloc (Obj.cells #[.slice AW words.length cW, .slice none 0 0, .map (some w1.heap.size), .slice none 0 0] 83)).cell? ⟨w.heap.size, 1, none⟩ = some (.slice AR roots.length cR) := pw_cell_below hB2 hx1
    have HB2 := Aside0.mk hB2
    have HM2 : Aside0 (IsMap_ Try.prog 3 3 ((w1.alloc (Obj.map #[] 0)).alloc (Obj.cells #[.slice AW words.length cW, .slice none 0 0, .map (some w1.heap.size), .slice none 0 0] 83)) w1.heap.size 0 (fun _ => none)) := ⟨(IsMap_.made _ _ _ _).alloc _⟩
    have HG2 : Aside0 (((w1.alloc (Obj.map #[] 0)).alloc (Obj.cells #[.slice AW words.length cW, .slice none 0 0, .map (some w1.heap.size), .slice none 0 0] 83)).heap[w1.heap.size + 1]? = some (Obj.cells #[.slice AW words.length cW, .slice none 0 0, .map (some w1.heap.size), .slice none 0 0] 83)) := ⟨by have h_ := heap_alloc_new (w1.alloc (Obj.map #[] 0)) (Obj.cells #[.slice AW words.length cW, .slice none 0 0, .map (some w1.heap.size), .slice none 0 0] 83); simpa using h_⟩
    clear HOK hE HO hrr z1 z2 hB2 hx1
    go_wp2_with fail
    clear hx0 hx2 hmm
    go_loopg [7, 28] roots.length (fun kq v7 v28 W => ∃ (i : Nat) (c : Col) (outs : List Int) (vto vold : Value), v28 = .int .i64 (i : Int) ∧ Aside0 (i ≤ roots.length ∧ kq = roots.length - i) ∧ Aside0 (RootI words objs roots i c outs) ∧ Aside0 (IsCol w.heap.size W (w1.heap.size + 1) w1.heap.size (.slice AW words.length cW) vto vold i c) ∧ Aside0 (Kd.R (Kd.int .u64) 57 W w.heap.size (fun _ => True) v7 outs) ∧ Aside0 (∀ k, v7.ownBlock = some k → some k ≠ vto.ownBlock) ∧ Aside0 (Res W (w.heap.size + 1)) ∧ Aside0 (Below w.heap.size w W))
    case atStart => exact ⟨0, col0, [], .slice none 0 0, .slice none 0 0, rfl, ⟨Nat.zero_le _, by omega⟩, ⟨root_0 _ _ _⟩, ⟨⟨HG2.out, Kd.R_nil _ _ _ _ _, Kd.R_nil _ _ _ _ _, HM2.out, Nat.le_trans HB1.out.size (Nat.le_succ _), HB1.out.size⟩⟩, ⟨Kd.R_nil _ _ _ _ _⟩, ⟨fun k hk => by simp [Value.ownBlock] at hk⟩, ⟨blk_below HD1.out HB2.out⟩, ⟨HB1.out.trans (below_cut HB2.out HB1.out.size)⟩⟩
    case round =>
      obtain ⟨i, c, outs, vto, vold, rfl, HIQ, HRI, HCO, HR7, HNE, HRS, HBW⟩ := hrel
      by_cases hlt : i < roots.length
      · have hi0 : (0 : Int) ≤ (i : Int) := by omega
        have hi1 : (i : Int) < (roots.length : Int) := by omega
        obtain ⟨ad, rfl, hx⟩ := Kd.at_int (Kd.C_below HR.out HBW.out) (i : Int) hi0 hi1
        rw [Int.toNat_natCast, rdg _ _ hlt] at hx
        have hdec : decide ((i : Int) < (roots.length : Int)) = true := decide_eq_true hi1
        have hdec2 : decide (i < roots.length) = true := decide_eq_true hlt
        have HLT := Aside0.mk hlt
        have HX := Aside0.mk (HV.out _ (List.getElem_mem hlt))
        have hri := root_1 HOO.out HRR.out hlt HRI.out
        have HMO := Aside0.mk hri.1
        have HRN := Aside0.mk hri.2
        have hbo := Inv.bounds HRI.out.1 HOO.out
        have hzz := HZ.out
        have hni : i ≤ 1000000 := by omega
        have hzz2 : c.dst.length ≤ 1000000 ∧ words.length ≤ 1000000 ∧ c.mvs.length ≤ 1000000 ∧ i ≤ 1000000 := ⟨by omega, by omega, by omega, hni⟩
        have hol : outs.length ≤ 1000 := by rw [HRI.out.2.1, List.length_map, List.length_take]; omega
        have HOL := Aside0.mk hol
        obtain ⟨A7, c7, e7⟩ := Kd.R_slice HR7.out
        subst e7
        generalize roots[i] = y at hx HX HMO HRN
        have hmv := moved_calls w.heap.size w wr (w1.heap.size + 1) w1.heap.size AW cW words vto vold i c y HCO.out HBW.out (Kd.C_below HW.out HBW.out) HC.out HU.out HX.out HMO.out hzz2 (far_of HW.out HCO.out)
        have HMV := Aside0.mk hmv
        clear hlt hri hbo hzz hni hzz2 hol hmv
        go_wp2_with fail
        refine HMV.out.mono ?_
        generalize moveL words c y = q at HRN ⊢
        rintro e w2 ⟨rfl, vto2, vold2, hI2, hkp, hs1, hs2, hb2⟩
        have hoff := off_of HCO.out HR7.out HNE.out
        have HR72 : Aside0 (Kd.R (Kd.int .u64) 57 w2 w.heap.size (fun _ => True) (.slice A7 outs.length c7) outs) := ⟨R_flat rfl HR7.out (fun k_ hk => hkp.2 k_ (Kd.R_lt HR7.out k_ hk) (hoff k_ hk))⟩
        have HNE2 := Aside0.mk (stay_ne HR7.out hs1 HNE.out)
        have HI2 := Aside0.mk hI2
        have HRS2 := Aside0.mk (HRS.out.moved HCO.out hkp)
        have HB2w := Aside0.mk hb2
        clear hoff hI2 hkp hs1 hs2 hb2 HMV
        go_wp2_with (first | ((with_reducible refine gate_builtin (b := .append) (xs := #[.tmp 32, .tmp 36]) rfl ?_); refine Kd.R_append (Kd.int .u64) (w0 := w) w.heap.size rfl (.tmp 32) (.tmp 36) 49 57 (.int .u64 0) 8 rfl HU49 info_u64 rfl (by decide) (by decide) (.slice A7 outs.length c7) outs q.2 [.int .u64 q.2] (fun _ => True) (fun _ => False) rfl rfl rfl (fun _ hk => hk.elim) (fun _ _ => trivial) HR72.out HB2w.out ?hbs ?hl ?_; (case hbs => exact HB2w.out.size); (case hl => have h_ := HOL.out; omega); intro v3 w3 ho hb hg3 hat; have HR3 := Aside0.mk ho; have HB3 := Aside0.mk hb; have HG3 := Aside0.mk hg3; have HAT3 := Aside0.mk hat; clear ho hb hg3 hat))
        go_roundg (roots.length - (i + 1))
        case measure => have := HIQ.out; have := HLT.out; omega
        case rel =>
          refine ⟨i + 1, q.1, outs ++ [q.2], vto2, vold2, ?_, ⟨by have := HLT.out; omega, rfl⟩, HRN, ⟨HI2.out.grown HG3.out ?_ ?_ ?_ ?_⟩, HR3, ⟨?_⟩, ⟨blk_grown HRS2.out HG3.out (Kd.R_ne HR72.out HRS2.out (by decide))⟩, HB3⟩
          · first | rfl | (have := HLT.out; have := HZ.out.2; rw [show wrap64 ((i : Int) + 1) = ((i + 1 : Nat) : Int) from by unfold wrap64; omega])
          · exact Ne.symm (Kd.R_ne HR72.out HI2.out.1 (by decide))
          · intro e_
            obtain ⟨cs_, hcs⟩ := Kd.R_typed HR72.out _ e_
            exact HI2.out.2.2.2.1.ne hcs rfl
          · exact fun k_ hk he => HNE2.out k_ he.symm hk.symm
          · exact R_apart2 HI2.out.2.2.1 HR72.out (by decide)
          · intro k_ hk he
            rcases HAT3.out with h_ | ⟨b_, h_, h2_⟩
            · rw [h_] at hk; exact HNE2.out k_ hk he
            · rw [h_] at hk; injection hk with hk; subst hk
              have := Kd.R_lt HI2.out.2.1 _ he.symm
              omega
      · have e_ : i = roots.length := by have := HIQ.out; omega
        subst e_
        have hdec : decide ((roots.length : Int) < (roots.length : Int)) = false := decide_eq_false (by omega)
        have hdec2 : decide (roots.length < roots.length) = false := decide_eq_false hlt
        have HOI := Aside0.mk (root_2 HRI.out)
        obtain ⟨A7, c7, e7⟩ := Kd.R_slice HR7.out
        subst e7
        clear hlt HIQ HRI
        go_wp2_with fail
        go_loopg [10] (words.length + 1) (fun kq v10 W => ∃ (at_ m : Nat) (c : Col) (vto vold : Value), v10 = .int .i64 (at_ : Int) ∧ Aside0 (kq = words.length + 1 - at_ ∧ m ≤ 100 + at_) ∧ Aside0 (OutI words objs roots outs at_ c) ∧ Aside0 (IsCol w.heap.size W (w1.heap.size + 1) w1.heap.size (.slice AW words.length cW) vto vold m c) ∧ Aside0 (Kd.R (Kd.int .u64) 57 W w.heap.size (fun _ => True) (.slice A7 outs.length c7) outs) ∧ Aside0 (∀ k, (Value.slice A7 outs.length c7).ownBlock = some k → some k ≠ vto.ownBlock) ∧ Aside0 (Res W (w.heap.size + 1)) ∧ Aside0 (Below w.heap.size w W))
        case atStart => exact ⟨0, roots.length, c, vto, vold, rfl, ⟨by have := HZ.out.2; omega⟩, HOI, HCO, HR7, HNE, HRS, HBW⟩
        case round =>
          clear HBW HNE HR7 HCO HOI hdec hdec2 HRS
          obtain ⟨at_, m, c, vto, vold, rfl, HIQ, HOI, HCO, HR7, HNE, HRS, HBW⟩ := hrel
          obtain ⟨AT, cT, rfl⟩ := Kd.R_slice HCO.out.2.1
          have hbo := out_bounds HOO.out HOI.out
          have hq1 : wr.cell? ⟨w1.heap.size + 1, 1, none⟩ = some (.slice AT c.dst.length cT) := (blk_cell HCO.out.1 1).trans rfl
          by_cases hlt : at_ < c.dst.length
          · obtain ⟨g2, rfl, hx, _⟩ := to_cell HCO.out.2.1 hlt
            have hi1 : (at_ : Int) < (c.dst.length : Int) := by omega
            have hdec : decide ((at_ : Int) < (c.dst.length : Int)) = true := decide_eq_true hi1
            have hdec2 : decide (at_ < c.dst.length) = true := decide_eq_true hlt
            have hin := out_in HOI.out hlt
            have HII := Aside0.mk hin.1
            have hlg : at_ + longN (c.dst.getD at_ 0) ≤ 2000 := by have := HZ.out.1; omega
            have hlw : at_ + longN (c.dst.getD at_ 0) ≤ words.length := by omega
            have hxu : U64 (c.dst.getD at_ 0) := HU.out _ (out_word HOO.out HOI.out hlt)
            generalize c.dst.getD at_ 0 = x at hx HII hlg hxu hlw
            have HLG : Aside0 (haul_long.f x = some ((longN x : Nat) : Int)) := ⟨by
              unfold haul_long.f longN
              rw [Int.toNat_of_nonneg (by obtain ⟨h_, _⟩ := hxu; omega)]⟩
            generalize longN x = lg at HII HLG hlg hlw
            have HL := Aside0.mk hlg
            have HLW := Aside0.mk hlw
            have HLT := Aside0.mk hlt
            clear hin hlt hbo hlg hxu hlw
            go_wp2_with fail
            refine (haul_long.calls x ((lg : Nat) : Int) _ HLG.out).mono ?_
            rintro e w2 ⟨rfl, hb⟩
            have HCO2 := Aside0.mk (HCO.out.below hb.below)
            have HR72 := Aside0.mk (Kd.R_below HR7.out hb.below)
            have HRS2 : Aside0 (Res w2 (w.heap.size + 1)) := ⟨blk_below HRS.out hb.below⟩
            have HB2w : Aside0 (Below w.heap.size w w2) := ⟨below_step HBW.out hb.below⟩
            clear hb HCO HR7 HBW hdec hdec2 hq1 hx
            have hw1 : wrap64 ((at_ : Int) + 1) = ((at_ + 1 : Nat) : Int) := by have h_ := HL.out; unfold wrap64; omega
            go_wp2_with fail
            clear hw1
            go_loopg [12] lg (fun kq v12 W => ∃ (i m : Nat) (c : Col) (vto vold : Value), v12 = .int .i64 (i : Int) ∧ Aside0 (kq = at_ + 1 + lg - i ∧ m ≤ 100 + i) ∧ Aside0 (InI words objs roots outs at_ lg i c) ∧ Aside0 (IsCol w.heap.size W (w1.heap.size + 1) w1.heap.size (.slice AW words.length cW) vto vold m c) ∧ Aside0 (Kd.R (Kd.int .u64) 57 W w.heap.size (fun _ => True) (.slice A7 outs.length c7) outs) ∧ Aside0 (∀ k, (Value.slice A7 outs.length c7).ownBlock = some k → some k ≠ vto.ownBlock) ∧ Aside0 (Res W (w.heap.size + 1)) ∧ Aside0 (Below w.heap.size w W))
            case atStart => exact ⟨at_ + 1, m, c, _, vold, by first | rfl | (have h_ := HL.out; rw [show wrap64 ((at_ : Int) + 1) = ((at_ + 1 : Nat) : Int) from by unfold wrap64; omega]), ⟨by have := HIQ.out; omega⟩, HII, HCO2, HR72, HNE, HRS2, HB2w⟩
            case round =>
              clear HB2w HR72 HCO2 HNE HII HOI HRS2 HRS
              have HIQO := HIQ
              clear HIQ
              obtain ⟨i, m, c, vto, vold, rfl, HIQ, HII, HCO, HR7, HNE, HRS, HBW⟩ := hrel
              obtain ⟨AT, cT, rfl⟩ := Kd.R_slice HCO.out.2.1
              have hw1 : wrap64 ((at_ : Int) + (lg : Int)) = ((at_ + lg : Nat) : Int) := by have h_ := HL.out; unfold wrap64; omega
              have hbi := in_bounds HII.out
              by_cases hle : i ≤ at_ + lg
              · have hdec : decide ((i : Int) ≤ ((at_ + lg : Nat) : Int)) = true := decide_eq_true (by omega)
                have hdec2 : decide ((i : Int) ≤ (at_ : Int) + (lg : Int)) = true := decide_eq_true (by omega)
                have hdec3 : decide (i ≤ at_ + lg) = true := decide_eq_true hle
                have hq1 : wr.cell? ⟨w1.heap.size + 1, 1, none⟩ = some (.slice AT c.dst.length cT) := (blk_cell HCO.out.1 1).trans rfl
                have hil : i < c.dst.length := by omega
                obtain ⟨g2, rfl, hx, _⟩ := to_cell HCO.out.2.1 hil
                have hi1 : (i : Int) < (c.dst.length : Int) := by omega
                have hst := in_step HOO.out HII.out hle
                have hxu := HU.out _ (in_word HOO.out HII.out hle)
                have hb2 := in_bounds2 HOO.out HII.out
                have HLE := Aside0.mk hle
                have hzz2 : c.dst.length ≤ 1000000 ∧ words.length ≤ 1000000 ∧ c.mvs.length ≤ 1000000 ∧ m ≤ 1000000 := by
                  have h1_ := HZ.out; have h2_ := HIQ.out; have h3_ := HL.out
                  refine ⟨by omega, by omega, by omega, by omega⟩
                generalize c.dst.getD i 0 = y at hx hst hxu
                have hmv := moved_calls w.heap.size w wr (w1.heap.size + 1) w1.heap.size AW cW words (.slice (some ⟨g2, 0, none⟩) c.dst.length cT) vold m c y HCO.out HBW.out (Kd.C_below HW.out HBW.out) HC.out HU.out hxu hst.1 hzz2 (far_of HW.out HCO.out)
                have HMV := Aside0.mk hmv
                have HIL := Aside0.mk hst.2.1
                have HIN := Aside0.mk hst.2.2
                clear hmv hst hxu hb2 hzz2 hle hbi hil
                go_wp2_with fail
                refine HMV.out.mono ?_
                generalize moveL words c y = q at HIL HIN ⊢
                rintro e w2 ⟨rfl, vto2, vold2, hI2, hkp, hs1, hs2, hb2⟩
                have hoff := off_of HCO.out HR7.out HNE.out
                have HR72 : Aside0 (Kd.R (Kd.int .u64) 57 w2 w.heap.size (fun _ => True) (.slice A7 outs.length c7) outs) := ⟨R_flat rfl HR7.out (fun k_ hk => hkp.2 k_ (Kd.R_lt HR7.out k_ hk) (hoff k_ hk))⟩
                have HNE2 := Aside0.mk (stay_ne HR7.out hs1 HNE.out)
                have HB2w := Aside0.mk hb2
                have HRS2 := Aside0.mk (HRS.out.moved HCO.out hkp)
                obtain ⟨A2, cT2, rfl⟩ := Kd.R_slice hI2.2.1
                obtain ⟨g3, rfl, hx3, hf3⟩ := to_cell hI2.2.1 HIL.out
                have HI2 := Aside0.mk hI2
                have hi3 : (i : Int) < (q.1.dst.length : Int) := by have := HIL.out; omega
                have hq3 : w2.cell? ⟨w1.heap.size + 1, 1, none⟩ = some (.slice (some ⟨g3, 0, none⟩) q.1.dst.length cT2) := (blk_cell hI2.1 1).trans rfl
                have HI3 := Aside0.mk (hI2.put i q.2)
                clear hoff hkp hs1 hs2 hb2 HMV hI2 hq1 hx hi1 hw1 hdec hdec2 hdec3 HCO HR7 HNE HBW HII
                go_wp2_with fail
                have hw2 : wrap64 ((i : Int) + 1) = ((i + 1 : Nat) : Int) := by have h_ := HL.out; have h2_ := HLE.out; unfold wrap64; omega
                go_roundg (at_ + 1 + lg - (i + 1))
                case measure => have := HIQ.out; have := HLE.out; omega
                case rel =>
                  refine ⟨i + 1, m + 1, setD q.1 i q.2, _, vold2, ?_, ⟨rfl, by have := HIQ.out; omega⟩, HIN, HI3, ⟨?_⟩, HNE2, ⟨?_⟩, ⟨?_⟩⟩
                  · first | rfl | rw [hw2]
                  · refine R_flat rfl HR72.out (fun k_ hk => ?_)
                    rw [Below.heap_setCell]
                    intro e_; subst e_
                    exact HNE2.out _ hk rfl
                  · unfold Res
                    rw [Below.heap_setCell]
                    · exact HRS2.out
                    · intro e_; exact Kd.R_ne HI2.out.2.1 HRS2.out (by decide) (by rw [e_]; rfl)
                  · exact Below.setCell HB2w.out (show w.heap.size ≤ (⟨g3, i, none⟩ : Addr).block from Kd.R_base HI2.out.2.1 _ rfl) _
              · have e_ : i = at_ + 1 + lg := by omega
                subst e_
                have hdec : decide (((at_ + 1 + lg : Nat) : Int) ≤ ((at_ + lg : Nat) : Int)) = false := decide_eq_false (by omega)
                have hdec2 : decide (((at_ + 1 + lg : Nat) : Int) ≤ (at_ : Int) + (lg : Int)) = false := decide_eq_false (by omega)
                have hdec3 : decide (at_ + 1 + lg ≤ at_ + lg) = false := decide_eq_false hle
                have hdec4 : decide ((at_ : Int) + 1 + (lg : Int) ≤ (at_ : Int) + (lg : Int)) = false := decide_eq_false (by omega)
                have HON := Aside0.mk (in_out HII.out)
                clear hle hbi
                have hw3 : wrap64 (1 + (lg : Int)) = ((1 + lg : Nat) : Int) := by have h_ := HL.out; unfold wrap64; omega
                have hw4 : wrap64 ((at_ : Int) + ((1 + lg : Nat) : Int)) = ((at_ + (1 + lg) : Nat) : Int) := by have h_ := HL.out; unfold wrap64; omega
                have hw5 : wrap64 ((at_ : Int) + wrap64 (1 + (lg : Int))) = ((at_ + (1 + lg) : Nat) : Int) := by rw [hw3, hw4]
                have hw6 : wrap64 ((at_ : Int) + (1 + (lg : Int))) = ((at_ + (1 + lg) : Nat) : Int) := by have h_ := HL.out; unfold wrap64; omega
                go_wp2_with fail
                go_roundg (words.length + 1 - (at_ + (1 + lg)))
                case measure => have := HIQO.out; have := HLW.out; omega
                case rel =>
                  refine ⟨at_ + (1 + lg), m, c, _, vold, ?_, ⟨rfl, by have := HIQ.out; omega⟩, HON, HCO, HR7, HNE, HRS, HBW⟩
                  first | rfl | rw [hw5] | rw [hw6]
          · have hdec : decide ((at_ : Int) < (c.dst.length : Int)) = false := decide_eq_false (by omega)
            have hdec2 : decide (at_ < c.dst.length) = false := decide_eq_false hlt
            have hfi := out_fin HOI.out (by omega)
            have HFI := Aside0.mk hfi
            obtain ⟨AL, cL, rfl⟩ := Kd.R_slice HCO.out.2.2.1
            have hq3 : wr.cell? ⟨w1.heap.size + 1, 3, none⟩ = some (.slice AL c.mvs.length cL) := (blk_cell HCO.out.1 3).trans rfl
            clear hfi hlt hbo
            go_upto_region 20 with fail
            have hd5 := HRS.out
            have hg5 := HCO.out.1
            have hne5 : w1.heap.size + 1 ≠ w.heap.size + 1 := by
              intro e_; rw [e_] at hg5; unfold Res at hd5; rw [hd5] at hg5; injection hg5 with h_; injection h_ with _ h_; exact absurd h_ (by decide)
            refine start_ (n := 13) (S := fun w' => w'.heap[w1.heap.size + 1]? = some (.cells #[.slice AW words.length cW, .slice AT c.dst.length cT, .map (some w1.heap.size), .slice AL c.mvs.length cL] 83 (0, 0)) ∧ w'.cell? ⟨w1.heap.size + 1, 1, none⟩ = some (.slice AT c.dst.length cT) ∧ w'.cell? ⟨w1.heap.size + 1, 3, none⟩ = some (.slice AL c.mvs.length cL)) (ds := []) #[false, false, false, false, false, false, false, false, false, false, false, false, false] (by kernel_rfl) rfl rfl ⟨hg5, hq1, hq3⟩ (fun hHeld => ?_)
            have hdw : Below wr.heap.size wr wr.drew := below_drew (Below.refl _ _)
            have hd6 := blk_below hd5 hdw
            generalize wr.drew = w5 at hHeld hd6 hdw ⊢
            have hf6 : w5.frozen? ⟨w.heap.size + 1, 0, none⟩ = false := blk_frozen hd6 0
            have hf7 : w5.frozen? ⟨w.heap.size + 1, 1, none⟩ = false := blk_frozen hd6 1
            have hc6 : w5.cell? ⟨w.heap.size + 1, 0, none⟩ = some (.slice none 0 0) := (blk_cell hd6 0).trans rfl
            have hc7 : w5.cell? ⟨w.heap.size + 1, 1, none⟩ = some (.slice none 0 0) := (blk_cell hd6 1).trans rfl
            refine pure_ (i := 0) (N := some 83) (v := ?_) (a' := ?_) #[true, false, false, false, false, false, false, false, false, false, false, false, false] rfl rfl (by kernel_rfl) (fun _ _ _ h => h) (Or.inl ⟨by rfl, ?_⟩) ?_ ?_
            rotate_left
            · intro w'
              go_simp
              with_reducible rfl
            rotate_left
            · simp only [Act.put, List.setIfInBounds_toArray, List.set_cons_zero, List.set_cons_succ, i64_w, i32_w]
              rfl
            refine pure_ (i := 1) (N := some 84) (v := ?_) (a' := ?_) #[true, true, false, false, false, false, false, false, false, false, false, false, false] rfl rfl (by kernel_rfl) (fun _ _ _ h => h) (Or.inl ⟨by rfl, ?_⟩) ?_ ?_
            rotate_left
            · intro w'
              go_simp
              with_reducible rfl
            rotate_left
            · simp only [Act.put, List.setIfInBounds_toArray, List.set_cons_zero, List.set_cons_succ, i64_w, i32_w]
              rfl
            refine pure_ (i := 2) (N := some 85) (v := ?_) (a' := ?_) #[true, true, true, false, false, false, false, false, false, false, false, false, false] rfl rfl (by kernel_rfl) (fun _ _ _ h => h) (Or.inl ⟨by rfl, ?_⟩) ?_ ?_
            rotate_left
            · intro w'
              go_simp
              with_reducible rfl
            rotate_left
            · simp only [Act.put, List.setIfInBounds_toArray, List.set_cons_zero, List.set_cons_succ, i64_w, i32_w]
              rfl
            refine pure_ (i := 4) (N := some 87) (v := ?_) (a' := ?_) #[true, true, true, false, true, false, false, false, false, false, false, false, false] rfl rfl (by kernel_rfl) (fun _ _ _ h => h) (Or.inl ⟨by rfl, ?_⟩) ?_ ?_
            rotate_left
            · intro w'
              go_simp
              with_reducible rfl
            rotate_left
            · simp only [Act.put, List.setIfInBounds_toArray, List.set_cons_zero, List.set_cons_succ, i64_w, i32_w]
              rfl
            refine pure_ (i := 6) (N := some 89) (v := ?_) (a' := ?_) #[true, true, true, false, true, false, true, false, false, false, false, false, false] rfl rfl (by kernel_rfl) (fun _ _ _ h => h) (Or.inl ⟨by rfl, ?_⟩) ?_ ?_
            rotate_left
            · intro w'
              go_simp
              with_reducible rfl
            rotate_left
            · simp only [Act.put, List.setIfInBounds_toArray, List.set_cons_zero, List.set_cons_succ, i64_w, i32_w]
              rfl
            refine pure_ (i := 7) (N := some 90) (v := ?_) (a' := ?_) #[true, true, true, false, true, false, true, true, false, false, false, false, false] rfl rfl (by kernel_rfl) (fun _ _ _ h => h) (Or.inl ⟨by rfl, ?_⟩) ?_ ?_
            rotate_left
            · intro w'
              go_simp
              with_reducible rfl
            rotate_left
            · simp only [Act.put, List.setIfInBounds_toArray, List.set_cons_zero, List.set_cons_succ, i64_w, i32_w]
              rfl
            refine pure_ (i := 8) (N := some 91) (v := ?_) (a' := ?_) #[true, true, true, false, true, false, true, true, true, false, false, false, false] rfl rfl (by kernel_rfl) (fun _ _ _ h => h) (Or.inl ⟨by rfl, ?_⟩) ?_ ?_
            rotate_left
            · intro w'
              go_simp
              with_reducible rfl
            rotate_left
            · simp only [Act.put, List.setIfInBounds_toArray, List.set_cons_zero, List.set_cons_succ, i64_w, i32_w]
              rfl
            refine take_ (i := 3) (N := some 86) (v := ?_) (a' := ?_) #[true, true, true, true, true, false, true, true, true, false, false, false, false] rfl rfl (by kernel_rfl) (fun _ _ _ h => h) (Or.inl ⟨by rfl, ?_⟩) hHeld ?_ ?_
            rotate_left
            · rintro w' ⟨s0, s1, s2⟩
              go_simp
              with_reducible rfl
            rotate_left
            · simp only [Act.put, List.setIfInBounds_toArray, List.set_cons_zero, List.set_cons_succ, i64_w, i32_w]
              rfl
            refine pure_ (i := 5) (N := some 88) (v := ?_) (a' := ?_) #[true, true, true, true, true, true, true, true, true, false, false, false, false] rfl rfl (by kernel_rfl) (fun _ _ _ h => h) (Or.inl ⟨by rfl, ?_⟩) ?_ ?_
            rotate_left
            · intro w'
              go_simp
              with_reducible rfl
            rotate_left
            · simp only [Act.put, List.setIfInBounds_toArray, List.set_cons_zero, List.set_cons_succ, i64_w, i32_w]
              rfl
            refine take_ (i := 9) (N := some 92) (v := ?_) (a' := ?_) #[true, true, true, true, true, true, true, true, true, true, false, false, false] rfl rfl (by kernel_rfl) (fun _ _ _ h => h) (Or.inl ⟨by rfl, ?_⟩) hHeld ?_ ?_
            rotate_left
            · rintro w' ⟨s0, s1, s2⟩
              go_simp
              with_reducible rfl
            rotate_left
            · simp only [Act.put, List.setIfInBounds_toArray, List.set_cons_zero, List.set_cons_succ, i64_w, i32_w]
              rfl
            refine one_ (i := 10) (N := none) #[true, true, true, true, true, true, true, true, true, true, true, false, false] rfl rfl (by kernel_rfl) (by decide) (fun K hK => ?_)
            refine skip_ (w1 := ?_) (by rfl) rfl ?_ ?_
            rotate_left
            · go_simp
              rfl
            refine hK.out _ _ ⟨(by rw [Below.heap_setCell _ _ _ _ hne5, Below.heap_setCell _ _ _ _ hne5]; exact hHeld.1), ((blk_cell (by rw [Below.heap_setCell _ _ _ _ hne5, Below.heap_setCell _ _ _ _ hne5]; exact hHeld.1) 1).trans rfl), ((blk_cell (by rw [Below.heap_setCell _ _ _ _ hne5, Below.heap_setCell _ _ _ _ hne5]; exact hHeld.1) 3).trans rfl)⟩ (fun hHeld => ?_)
            clear hK K
            refine pure_ (i := 11) (N := some 3) (v := ?_) (a' := ?_) #[true, true, true, true, true, true, true, true, true, true, true, true, false] rfl rfl (by kernel_rfl) (fun _ _ _ h => h) (Or.inl ⟨by rfl, ?_⟩) ?_ ?_
            rotate_left
            · intro w'
              go_simp
              with_reducible rfl
            rotate_left
            · simp only [Act.put, List.setIfInBounds_toArray, List.set_cons_zero, List.set_cons_succ, i64_w, i32_w]
              rfl
            refine pure_ (i := 12) (N := some 4) (v := ?_) (a' := ?_) #[true, true, true, true, true, true, true, true, true, true, true, true, true] rfl rfl (by kernel_rfl) (fun _ _ _ h => h) (Or.inl ⟨by rfl, ?_⟩) ?_ ?_
            rotate_left
            · intro w'
              go_simp
              with_reducible rfl
            rotate_left
            · simp only [Act.put, List.setIfInBounds_toArray, List.set_cons_zero, List.set_cons_succ, i64_w, i32_w]
              rfl
            refine done_ (by kernel_rfl) ?_
            clear hHeld
            go_wp2_with fail
            have hfar5 : ∀ k_, k_ < wr.heap.size → k_ ≠ w.heap.size + 1 → ((w5.setCell ⟨w.heap.size + 1, 0, none⟩ (.slice AT c.dst.length cT)).setCell ⟨w.heap.size + 1, 1, none⟩ (.slice A7 outs.length c7)).heap[k_]? = wr.heap[k_]? := fun k_ hk hne => by
              rw [Below.heap_setCell _ _ _ _ hne, Below.heap_setCell _ _ _ _ hne]; exact hdw.block k_ hk
            have ho1 := R_flat (W1 := ((w5.setCell ⟨w.heap.size + 1, 0, none⟩ (.slice AT c.dst.length cT)).setCell ⟨w.heap.size + 1, 1, none⟩ (.slice A7 outs.length c7))) rfl HCO.out.2.1 (fun k_ hk => hfar5 k_ (Kd.R_lt HCO.out.2.1 k_ hk) (fun e_ => by subst e_; exact Kd.R_ne HCO.out.2.1 HRS.out (by decide) hk.symm))
            have ho2 := R_flat (W1 := ((w5.setCell ⟨w.heap.size + 1, 0, none⟩ (.slice AT c.dst.length cT)).setCell ⟨w.heap.size + 1, 1, none⟩ (.slice A7 outs.length c7))) rfl HR7.out (fun k_ hk => hfar5 k_ (Kd.R_lt HR7.out k_ hk) (fun e_ => by subst e_; exact Kd.R_ne HR7.out HRS.out (by decide) hk.symm))
            have ho3 := R_flat (W1 := ((w5.setCell ⟨w.heap.size + 1, 0, none⟩ (.slice AT c.dst.length cT)).setCell ⟨w.heap.size + 1, 1, none⟩ (.slice A7 outs.length c7))) rfl HCO.out.2.2.1 (fun k_ hk => hfar5 k_ (Kd.R_lt HCO.out.2.2.1 k_ hk) (fun e_ => by subst e_; exact Kd.R_ne HCO.out.2.2.1 HRS.out (by decide) hk.symm))
            have hB5 : Below w.heap.size w w5 := HBW.out.trans (below_cut hdw HBW.out.size)
            refine bodyPost_ret (results_ctt rfl _ _ (w.heap.size + 1) 51 #[.slice AT c.dst.length cT, .slice A7 outs.length c7] (0, 0) _ rfl (by refine blk_put (cs := #[.slice AT c.dst.length cT, .slice none 0 0]) ?_ 1 _ rfl; refine blk_put (cs := #[.slice none 0 0, .slice none 0 0]) ?_ 0 _ rfl; exact hd6) Try.underlying51 rfl (by kernel_rfl)) rfl ?_
            obtain ⟨fs, hfs⟩ := HFI.out
            exact .inr ⟨HE.out, c, fs, outs, _, _, _, rfl, hfs, ho1, ho2, ho3, (hB5.setCell (Nat.le_succ _) _).setCell (Nat.le_succ _) _⟩
  · have hd : (chkE words roots objs is != 0) = true := by simp [hE]
    have hd2 : decide (chkE words roots objs is = 0) = false := decide_eq_false hE
    have HE := Aside0.mk hE
    generalize hEE : chkE words roots objs is = E at hd hd2 HE hE
    have HEE := Aside0.mk hEE
    clear hEE
    clear HOK
    have hr1 : w1.cell? ⟨w.heap.size + 1, 0, none⟩ = some (.slice none 0 0) := (blk_cell HD1.out 0).trans rfl
    have hr2 : w1.cell? ⟨w.heap.size + 1, 1, none⟩ = some (.slice none 0 0) := (blk_cell HD1.out 1).trans rfl
    have hf1 : w1.frozen? ⟨w.heap.size + 1, 0, none⟩ = false := blk_frozen HD1.out 0
    have hf2 : w1.frozen? ⟨w.heap.size + 1, 1, none⟩ = false := blk_frozen HD1.out 1
    go_wp2_with fail
    refine bodyPost_ret (results_ctt rfl _ _ (w.heap.size + 1) 51 #[.slice none 0 0, .slice none 0 0] (0, 0) _ rfl (by refine blk_put (cs := #[.slice none 0 0, .slice none 0 0]) ?_ 1 _ rfl; refine blk_put (cs := #[.slice none 0 0, .slice none 0 0]) ?_ 0 _ rfl; exact HD1.out) Try.underlying51 rfl (by kernel_rfl)) rfl ?_
    rw [HEE.out]
    exact .inl ⟨HE.out, rfl, (HB1.out.setCell (Nat.le_succ _) _).setCell (Nat.le_succ _) _⟩
end Go.Proofs.Ytoleplbmkdhgeaa.Hal
