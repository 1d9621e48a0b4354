/- Package haul: Check: what it answers. -/
import Derived.Test.YtoleplbmkdhgeaaHaulRt
import Derived.Test.YtoleplbmkdhgeaaPQ10
set_option linter.unusedVariables false
set_option linter.unusedSimpArgs false
namespace Go.Proofs.Ytoleplbmkdhgeaa.Hal
open Go.RowKit Go.Proofs.YtoleplbmkdhgeaaW.PrintWords Go.Proofs.YtoleplbmkdhgeaaW.PrintLast Go.Proofs.YtoleplbmkdhgeaaW.PrintMore Go.Proofs.Ytoleplbmkdhgeaa.PQ Go.Proofs.Ytoleplbmkdhgeaa.Hnd Go.Proofs.Ytoleplbmkdhgeaa.Nb

def mem (l : List Int) (x : Int) : Bool := l.contains x
def wordOk (objs words : List Int) (i : Nat) : Bool := mem objs (i : Int) || rightB (mem objs) (words.getD i 0)
def wordsOk (objs words : List Int) (m : Nat) : Bool := (List.range m).all (wordOk objs words)
def chkE (words roots objs : List Int) (is : Bool) : Int := if words.length > 2000 ∨ roots.length > 100 then 2 else if is = false then 3 else if wordsOk objs words words.length && roots.all (rightB (mem objs)) then 0 else 3
theorem mem_snoc {l : List Int} {i : Nat} (h : i < l.length) : (fun z => z == l[i] || mem (l.take i) z) = mem (l.take (i + 1)) := by
  funext z
  unfold mem
  rw [List.take_succ_eq_append_getElem h]
  simp only [List.contains_eq_any_beq, List.any_append, List.any_cons, List.any_nil, Bool.or_false]
  rw [Bool.or_comm]
theorem rdg (l : List Int) (i : Nat) (h : i < l.length) : rd l (i : Int) = l[i] := by unfold rd; simp [List.getD_eq_getElem?_getD, h]
theorem all_take {α : Type} {p : α → Bool} {l : List α} {i : Nat} (h : i < l.length) (ha : (l.take i).all p = true) (hx : p l[i] = true) : (l.take (i + 1)).all p = true := by
  rw [List.take_succ_eq_append_getElem h, List.all_append, ha]
  simp [hx]
set_option maxHeartbeats 8000000 in
set_option maxRecDepth 100000 in
theorem check_calls (k : Nat) (w : World) (AW : Option Addr) (cW : Nat) (words : List Int) (AR : Option Addr) (cR : Nat) (roots : List Int) (objs : List Int) (is : Bool)
    (hW : Kd.C (Kd.int .u64) w AW words.length words) (hcW : words.length ≤ cW) (hR : Kd.C (Kd.int .u64) w AR roots.length roots) (hU : ∀ x ∈ words, U64 x) (hV : ∀ x ∈ roots, U64 x)
    (ho : words.length ≤ 2000 → haul_objects.f k words = some (objs, is)) (hi : ∀ x ∈ objs, I64 x) (hol : objs.length ≤ 1000000) :
    Calls Try.prog 31 #[.agg #[.slice AW words.length cW, .slice AR roots.length cR]] w fun e w' => e = .returned (.int .i64 (chkE words roots objs is)) ∧ Below w.heap.size w w' := by
  have HW := Aside0.mk hW
  have HR := Aside0.mk hR
  have HU := Aside0.mk hU
  have HV := Aside0.mk hV
  have HO := Aside0.mk ho
  have HI := Aside0.mk hi
  have HC := Aside0.mk hcW
  have HOL := Aside0.mk hol
  have hmm := @run_makeMap Try.prog
  have HMU := Try.underlying90
  have hb0 : Below w.heap.size w (w.alloc (Obj.cells #[.slice AW words.length cW, .slice AR roots.length cR] 51)) := below_alloc (Below.refl _ _) _
  have hk0 := heap_alloc_new w (Obj.cells #[.slice AW words.length cW, .slice AR roots.length cR] 51)
  have HB0 := Aside0.mk hb0
  have HK0 := Aside0.mk hk0
  clear hW hR hU hV ho hi hcW hol hb0 hk0
  by_cases h1 : (2000 : Int) < (words.length : Int)
  · have HE : Aside0 (chkE words roots objs is = 2) := ⟨by unfold chkE; rw [if_pos (by omega)]⟩
    have hd : decide ((2000 : Int) < (words.length : Int)) = true := decide_eq_true h1
    have hd2 : decide (2000 < words.length) = true := decide_eq_true (by omega)
    clear h1
    go_enter Try.func31, Try.ntmps31
    go_wp2
    go_ret
    rw [HE.out]
    exact ⟨rfl, HB0.out⟩
  have hd : decide ((2000 : Int) < (words.length : Int)) = false := decide_eq_false h1
  have hd2 : decide (2000 < words.length) = false := decide_eq_false (by omega)
  by_cases h2 : (100 : Int) < (roots.length : Int)
  · have HE : Aside0 (chkE words roots objs is = 2) := ⟨by unfold chkE; rw [if_pos (by omega)]⟩
    have hd3 : decide ((100 : Int) < (roots.length : Int)) = true := decide_eq_true h2
    have hd4 : decide (100 < roots.length) = true := decide_eq_true (by omega)
    clear h1 h2
    go_enter Try.func31, Try.ntmps31
    go_wp2
    go_ret
    rw [HE.out]
    exact ⟨rfl, HB0.out⟩
  have hd3 : decide ((100 : Int) < (roots.length : Int)) = false := decide_eq_false h2
  have hd4 : decide (100 < roots.length) = false := decide_eq_false (by omega)
  have HE1 : Aside0 (chkE words roots objs is = if is = false then 3 else if wordsOk objs words words.length && roots.all (rightB (mem objs)) then 0 else 3) := ⟨by unfold chkE; rw [if_neg (by omega)]⟩
  have HO1 := Aside0.mk (HO.out (by omega))
  have HSZ : Aside0 (words.length ≤ 2000 ∧ roots.length ≤ 100) := ⟨by omega⟩
  clear h1 h2 HO
  go_enter Try.func31, Try.ntmps31
  go_wp2_with fail
  refine (haul_objects.calls k AW cW words objs is _ (Kd.C_below HW.out HB0.out) HC.out HO1.out).mono ?_
  rintro e w1 ⟨v1, rfl, ho, hb⟩
  obtain ⟨A1, c1, rfl, hc1, hC1⟩ := Kd.R_reads ho
  have HB1 := Aside0.mk (below_step HB0.out hb)
  have HK1 := Aside0.mk (blk_below HK0.out hb)
  have HC1 := Aside0.mk hC1
  clear ho hb hc1 hC1 hd hd2 hd3 hd4
  cases is with
  | false =>
    go_wp2
    go_ret
    rw [HE1.out]
    exact ⟨rfl, HB1.out⟩
  | true =>
    have HE2 : Aside0 (chkE words roots objs true = if wordsOk objs words words.length && roots.all (rightB (mem objs)) then 0 else 3) := ⟨by rw [HE1.out, if_neg (by decide)]⟩
    clear HE1
    go_wp2_with fail
    go_loopg [35] objs.length (fun kq v35 W => ∃ i : Nat, v35 = .int .i64 (i : Int) ∧ Aside0 (i ≤ objs.length ∧ kq = objs.length - i) ∧ Aside0 (IsSet Try.prog 3 W w1.heap.size i (mem (objs.take i))) ∧ Aside0 (Below w1.heap.size w1 W))
    case atStart => exact ⟨0, rfl, ⟨Nat.zero_le _, by omega⟩, ⟨IsSet.made _ _ _⟩, ⟨below_alloc (Below.refl _ _) _⟩⟩
    case round =>
      obtain ⟨i, rfl, HIQ, HS, HB⟩ := hrel
      by_cases hlt : i < objs.length
      · have hi0 : (0 : Int) ≤ (i : Int) := by omega
        have hi1 : (i : Int) < (objs.length : Int) := by omega
        obtain ⟨ad, rfl, hx⟩ := Kd.at_int (Kd.C_below HC1.out HB.out) (i : Int) hi0 hi1
        rw [Int.toNat_natCast, rdg _ _ hlt] at hx
        have hdec : decide ((i : Int) < (objs.length : Int)) = true := decide_eq_true hi1
        have hdec2 : decide (i < objs.length) = true := decide_eq_true hlt
        have HLT := Aside0.mk hlt
        have HSN := Aside0.mk (mem_snoc hlt)
        have HX := Aside0.mk (HI.out _ (List.getElem_mem hlt))
        generalize objs[i] = x at hx HSN HX
        clear hlt
        go_wp2_with (at_mapUpdate; refine put_set rfl _ _ _ rfl Try.underlying3 HMU HS.out (by have h_ := HLT.out; have h2_ := HOL.out; unfold maxLen; omega) rfl x rfl HX.out rfl ?_; intro w2 hs2 hg2; have HS2 := Aside0.mk hs2; have HG2 := Aside0.mk hg2; clear hs2 hg2)
        go_roundg (objs.length - (i + 1))
        case measure => have := HIQ.out; have := HLT.out; omega
        case rel => exact ⟨i + 1, by first | rfl | (have := HLT.out; have := HOL.out; rw [show wrap64 ((i : Int) + 1) = ((i + 1 : Nat) : Int) from by unfold wrap64; omega]), ⟨by have := HLT.out; omega, rfl⟩, ⟨by rw [← HSN.out]; exact HS2.out⟩, ⟨pw_below_grown HB.out _ HB.out.size HG2.out (fun _ hk => by injection hk with hk; subst hk; exact Nat.le_refl _)⟩⟩
      · have e_ : i = objs.length := by have := HIQ.out; omega
        subst e_
        rw [List.take_length] at HS
        have hdec : decide ((objs.length : Int) < (objs.length : Int)) = false := decide_eq_false (by omega)
        have hdec2 : decide (objs.length < objs.length) = false := decide_eq_false hlt
        have hx0 : wr.cell? ⟨w.heap.size, 0, none⟩ = some (.slice AW words.length cW) := cell_deeper ((blk_cell HK1.out 0).trans rfl) HB.out (blk_lt HK1.out)
        clear hlt HIQ
        go_wp2_with fail
        clear hdec hdec2 hx0
        go_loopg [46] words.length (fun kq v46 W => ∃ i : Nat, v46 = .int .i64 (i : Int) ∧ Aside0 (i ≤ words.length ∧ kq = words.length - i) ∧ Aside0 (wordsOk objs words i = true) ∧ Aside0 (IsSet Try.prog 3 W w1.heap.size objs.length (mem objs)) ∧ Aside0 (Below w1.heap.size w1 W))
        case atStart => exact ⟨0, rfl, ⟨Nat.zero_le _, by omega⟩, ⟨rfl⟩, HS, HB⟩
        case round =>
          obtain ⟨i, rfl, HIQ, HA, HS, HB⟩ := hrel
          have HBW : Aside0 (Below w.heap.size w wr) := ⟨below_step HB1.out HB.out⟩
          by_cases hlt : i < words.length
          · have hi0 : (0 : Int) ≤ (i : Int) := by omega
            have hi1 : (i : Int) < (words.length : Int) := by omega
            obtain ⟨ad, rfl, hx⟩ := Kd.at_int (Kd.C_below HW.out HBW.out) (i : Int) hi0 hi1
            rw [Int.toNat_natCast, rdg _ _ hlt] at hx
            have hdec : decide ((i : Int) < (words.length : Int)) = true := decide_eq_true hi1
            have hdec2 : decide (i < words.length) = true := decide_eq_true hlt
            have HLT := Aside0.mk hlt
            have HX := Aside0.mk (HU.out _ (List.getElem_mem hlt))
            have hwo : wordOk objs words i = (mem objs (i : Int) || rightB (mem objs) words[i]) := by unfold wordOk; rw [List.getD_eq_getElem?_getD, List.getElem?_eq_getElem hlt]; rfl
            have HT : Aside0 (wordOk objs words i = true → wordsOk objs words (i + 1) = true) := ⟨fun h => by
              have h_ := HA.out
              unfold wordsOk at h_ ⊢
              rw [List.range_succ, List.all_append, h_]
              simp [h]⟩
            have HF : Aside0 (wordOk objs words i = false → wordsOk objs words words.length = false) := ⟨fun h => List.all_eq_false.2 ⟨i, List.mem_range.2 hlt, by simp [h]⟩⟩
            have HKEY : Aside0 (I64 (i : Int)) := ⟨by have h_ := HSZ.out.1; unfold I64; omega⟩
            have HWO := Aside0.mk hwo
            generalize words[i] = x at hx HX HWO
            clear hlt hwo
            cases hm : mem objs (i : Int) with
            | true =>
              have HTT := Aside0.mk (HT.out (by rw [HWO.out, hm]; rfl))
              have HM := Aside0.mk hm
              clear hm HT HF HWO
              go_wp2_with (at_lookup; refine look_set rfl _ _ rfl Try.underlying3 HMU (zeroU _) HS.out rfl (i : Int) rfl HKEY.out ?_; rw [HM.out])
              go_roundg (words.length - (i + 1))
              case measure => have := HIQ.out; have := HLT.out; omega
              case rel => exact ⟨i + 1, by first | rfl | (have := HLT.out; have := HSZ.out.1; rw [show wrap64 ((i : Int) + 1) = ((i + 1 : Nat) : Int) from by unfold wrap64; omega]), ⟨by have := HLT.out; omega, rfl⟩, HTT, ⟨by repeat (first | exact HS.out | apply IsSet.alloc)⟩, ⟨by repeat (first | exact HB.out | apply below_alloc | apply pw_below_drewN | apply below_drew1)⟩⟩
            | false =>
              have hwr : wordOk objs words i = rightB (mem objs) x := by rw [HWO.out, hm]; rfl
              have HWR := Aside0.mk hwr
              have HM := Aside0.mk hm
              clear hm HWO hwr
              go_wp2_with (at_lookup; refine look_set rfl _ _ rfl Try.underlying3 HMU (zeroU _) HS.out rfl (i : Int) rfl HKEY.out ?_; rw [HM.out])
              refine (right_calls (wr.alloc (Obj.cells #[] 91)) x w1.heap.size objs.length (mem objs) (HS.out.alloc _) HX.out).mono ?_
              rintro e w2 ⟨rfl, hb⟩
              have HB2 : Aside0 (Below w1.heap.size w1 w2) := ⟨below_step (below_alloc HB.out _) hb⟩
              have HS2 := Aside0.mk ((HS.out.alloc _).below hb)
              clear hb
              cases hr : rightB (mem objs) x with
              | true =>
                have HTT := Aside0.mk (HT.out (by rw [HWR.out, hr]))
                clear hr HT HF HWR
                go_wp2
                go_roundg (words.length - (i + 1))
                case measure => have := HIQ.out; have := HLT.out; omega
                case rel => exact ⟨i + 1, by first | rfl | (have := HLT.out; have := HSZ.out; rw [show wrap64 ((i : Int) + 1) = ((i + 1 : Nat) : Int) from by unfold wrap64; omega]), ⟨by have := HLT.out; omega, rfl⟩, HTT, HS2, HB2⟩
              | false =>
                have HFF : Aside0 (chkE words roots objs true = 3) := ⟨by rw [HE2.out, HF.out (by rw [HWR.out, hr])]; rfl⟩
                clear hr HT HF HWR
                go_wp2
                go_ret
                rw [HFF.out]
                exact ⟨rfl, below_step HB1.out HB2.out⟩
          · have e_ : i = words.length := by have := HIQ.out; omega
            subst e_
            have hdec : decide ((words.length : Int) < (words.length : Int)) = false := decide_eq_false (by omega)
            have hdec2 : decide (words.length < words.length) = false := decide_eq_false hlt
            have hx0 : wr.cell? ⟨w.heap.size, 1, none⟩ = some (.slice AR roots.length cR) := cell_deeper ((blk_cell HK1.out 1).trans rfl) HB.out (blk_lt HK1.out)
            have HE3 : Aside0 (chkE words roots objs true = if roots.all (rightB (mem objs)) then 0 else 3) := ⟨by rw [HE2.out, HA.out, Bool.true_and]⟩
            clear hlt HIQ HA
            go_wp2_with fail
            clear hdec hdec2 hx0
            go_loopg [69] roots.length (fun kq v69 W => ∃ i : Nat, v69 = .int .i64 (i : Int) ∧ Aside0 (i ≤ roots.length ∧ kq = roots.length - i) ∧ Aside0 ((roots.take i).all (rightB (mem objs)) = true) ∧ Aside0 (IsSet Try.prog 3 W w1.heap.size objs.length (mem objs)) ∧ Aside0 (Below w1.heap.size w1 W))
            case atStart => exact ⟨0, rfl, ⟨Nat.zero_le _, by omega⟩, ⟨rfl⟩, HS, HB⟩
            case round =>
              obtain ⟨i, rfl, HIQ, HA, HS, HB⟩ := hrel
              have HBW : Aside0 (Below w.heap.size w wr) := ⟨below_step HB1.out HB.out⟩
              by_cases hlt : i < roots.length
              · have hi0 : (0 : Int) ≤ (i : Int) := by omega
                have hi1 : (i : Int) < (roots.length : Int) := by omega
                obtain ⟨ad, rfl, hx⟩ := Kd.at_int (Kd.C_below HR.out HBW.out) (i : Int) hi0 hi1
                rw [Int.toNat_natCast, rdg _ _ hlt] at hx
                have hdec : decide ((i : Int) < (roots.length : Int)) = true := decide_eq_true hi1
                have hdec2 : decide (i < roots.length) = true := decide_eq_true hlt
                have HLT := Aside0.mk hlt
                have HX := Aside0.mk (HV.out _ (List.getElem_mem hlt))
                have HT : Aside0 (rightB (mem objs) roots[i] = true → (roots.take (i + 1)).all (rightB (mem objs)) = true) := ⟨fun h => all_take hlt HA.out h⟩
                have HF : Aside0 (rightB (mem objs) roots[i] = false → roots.all (rightB (mem objs)) = false) := ⟨fun h => List.all_eq_false.2 ⟨_, List.getElem_mem hlt, by simp [h]⟩⟩
                generalize roots[i] = x at hx HX HT HF
                clear hlt
                go_wp2_with fail
                refine (right_calls wr x w1.heap.size objs.length (mem objs) HS.out HX.out).mono ?_
                rintro e w2 ⟨rfl, hb⟩
                have HB2 : Aside0 (Below w1.heap.size w1 w2) := ⟨below_step HB.out hb⟩
                have HS2 := Aside0.mk (HS.out.below hb)
                clear hb
                cases hr : rightB (mem objs) x with
                | true =>
                  have HTT := Aside0.mk (HT.out hr)
                  clear hr HT HF
                  go_wp2
                  go_roundg (roots.length - (i + 1))
                  case measure => have := HIQ.out; have := HLT.out; omega
                  case rel => exact ⟨i + 1, by first | rfl | (have := HLT.out; have := HSZ.out; rw [show wrap64 ((i : Int) + 1) = ((i + 1 : Nat) : Int) from by unfold wrap64; omega]), ⟨by have := HLT.out; omega, rfl⟩, HTT, HS2, HB2⟩
                | false =>
                  have HFF : Aside0 (chkE words roots objs true = 3) := ⟨by rw [HE3.out, HF.out hr]; rfl⟩
                  clear hr HT HF
                  go_wp2
                  go_ret
                  rw [HFF.out]
                  exact ⟨rfl, below_step HB1.out HB2.out⟩
              · have hall : roots.all (rightB (mem objs)) = true := by
                  have h_ := HA.out
                  rwa [List.take_of_length_le (by omega)] at h_
                have HFF : Aside0 (chkE words roots objs true = 0) := ⟨by rw [HE3.out, hall]; rfl⟩
                have hdec : decide ((i : Int) < (roots.length : Int)) = false := decide_eq_false (by omega)
                have hdec2 : decide (i < roots.length) = false := decide_eq_false hlt
                clear hlt hall
                go_wp2
                go_ret
                rw [HFF.out]
                exact ⟨rfl, HBW.out⟩
end Go.Proofs.Ytoleplbmkdhgeaa.Hal
