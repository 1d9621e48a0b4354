/- The law function WeakLeast: what it answers. -/
import Derived.Test.YtoleplbmkdhgeaaWlClosed
import Derived.Test.YtoleplbmkdhgeaaPQ4
import Derived.Test.YtoleplbmkdhgeaaPQ4
import Derived.Deep.DeepCutAuto
set_option linter.unusedVariables false
set_option linter.unusedSimpArgs false
namespace Go.Proofs.Ytoleplbmkdhgeaa.PQ
open Go.RowKit Go.Proofs.YtoleplbmkdhgeaaW.PrintWords Go.Proofs.YtoleplbmkdhgeaaW.PrintLast Go.Proofs.YtoleplbmkdhgeaaW.PrintMore Go.Proofs.Ytoleplbmkdhgeaa.Hnd Go.Proofs.Ytoleplbmkdhgeaa.Rch Go.Proofs.Ytoleplbmkdhgeaa.Wls

/-- The set of what is live. -/
def inL (n : Nat) (live : List Int) : List Bool := live.foldl (fun s x => s.set x.toNat true) (List.replicate n false)
def cutAt (n : Nat) (s : List Bool) (x : Int) : List Bool := if 0 ≤ x ∧ x < (n : Int) then s.set x.toNat false else s
/-- All but those that are taken out. -/
def otherL (n : Nat) (more : List Int) : List Bool := more.foldl (cutAt n) (List.replicate n true)
/-- What makes WeakLeast answer true. -/
def weakLeastOk (k : Nat) (has : List (List Int)) (roots : List Int) (ps : List Pair) (more : List Int) : Prop :=
  backstitchkeep3_paired.f k = some true ∧ ∃ live e, weak_Live.f k has roots ps = some (live, e) ∧ (e ≠ 0 → live = []) ∧ (e = 0 → has.length ≤ 1000000 ∧ InR has.length roots ∧ (∀ l ∈ has, InR has.length l) ∧ (∀ p ∈ ps, (0 ≤ p.f0 ∧ p.f0 < (has.length : Int)) ∧ (0 ≤ p.f1 ∧ p.f1 < (has.length : Int))) ∧ InR has.length live ∧
    closedB has roots ps (inL has.length live) = true ∧ (closedB has roots ps (otherL has.length more) = true → ∀ i : Nat, i < has.length → (inL has.length live).getD i false = true → (otherL has.length more).getD i false = true))
open Classical in
noncomputable def backstitchkeep3_WeakLeast.f (k : Nat) (l0_0 : List (List Int)) (l0_1 : List Int) (l1 : List (S28)) (l2 : List Int) : Option Bool := if weakLeastOk k l0_0 l0_1 l1 l2 then some true else none
theorem inL_snoc {n : Nat} {l : List Int} {x : Int} : inL n (l ++ [x]) = (inL n l).set x.toNat true := by simp [inL]
theorem inL_length (n : Nat) (l : List Int) : (inL n l).length = n := by
  have : ∀ (l : List Int) (s : List Bool), (l.foldl (fun s x => s.set x.toNat true) s).length = s.length := by
    intro l
    induction l with
    | nil => intro s; rfl
    | cons x l ih => intro s; rw [List.foldl_cons, ih, List.length_set]
  unfold inL
  rw [this, List.length_replicate]
theorem otherL_snoc {n : Nat} {l : List Int} {x : Int} : otherL n (l ++ [x]) = cutAt n (otherL n l) x := by simp [otherL]
theorem otherL_length (n : Nat) (l : List Int) : (otherL n l).length = n := by
  have : ∀ (l : List Int) (s : List Bool), (l.foldl (cutAt n) s).length = s.length := by
    intro l
    induction l with
    | nil => intro s; rfl
    | cons x l ih => intro s; rw [List.foldl_cons, ih]; unfold cutAt; split <;> simp
  unfold otherL
  rw [this, List.length_replicate]
/-- Set up to a place. -/
def upTo (n i : Nat) : List Bool := List.replicate i true ++ List.replicate (n - i) false
theorem upTo_set {n i : Nat} (h : i < n) : (upTo n i).set i true = upTo n (i + 1) := by
  unfold upTo
  obtain ⟨m, hm⟩ : ∃ m, n - i = m + 1 := ⟨n - i - 1, by omega⟩
  rw [hm, show n - (i + 1) = m by omega, List.replicate_succ, List.set_append_right _ _ (by simp)]
  simp [List.replicate_succ', List.append_assoc]
set_option maxHeartbeats 16000000 in
set_option maxRecDepth 100000 in
theorem backstitchkeep3_WeakLeast.calls (k : Nat) (A0_0 : Option Addr) (c0_0 : Nat) (l0_0 : List (List Int)) (A0_1 : Option Addr) (c0_1 : Nat) (l0_1 : List Int) (A1 : Option Addr) (c1 : Nat) (l1 : List (S28)) (A2 : Option Addr) (c2 : Nat) (l2 : List Int) (r : Bool) (w : World)
    (hr0_0 : Kd.C (Kd.slice 3 (Kd.int .i64)) w A0_0 l0_0.length l0_0) (hc0_0 : l0_0.length ≤ c0_0) (hr0_1 : Kd.C (Kd.int .i64) w A0_1 l0_1.length l0_1) (hc0_1 : l0_1.length ≤ c0_1) (hr1 : Kd.C k28 w A1 l1.length l1) (hc1 : l1.length ≤ c1) (hr2 : Kd.C (Kd.int .i64) w A2 l2.length l2) (hc2 : l2.length ≤ c2)
    (h : backstitchkeep3_WeakLeast.f k l0_0 l0_1 l1 l2 = some r) :
    Calls Try.prog 4 #[.agg #[.slice A0_0 l0_0.length c0_0, .slice A0_1 l0_1.length c0_1], .slice A1 l1.length c1, .slice A2 l2.length c2] w fun e w' => e = .returned (.bool r) ∧ Below w.heap.size w w' := by
  have H0 := Aside0.mk hr0_0
  have H1 := Aside0.mk hr0_1
  have H2 := Aside0.mk hr1
  have H3 := Aside0.mk hr2
  have C0 := Aside0.mk hc0_0
  have C1 := Aside0.mk hc0_1
  have C2 := Aside0.mk hc1
  unfold backstitchkeep3_WeakLeast.f at h
  have hok : weakLeastOk k l0_0 l0_1 l1 l2 := by
    by_cases hx : weakLeastOk k l0_0 l0_1 l1 l2
    · exact hx
    · rw [if_neg hx] at h; exact absurd h (by simp)
  rw [if_pos hok] at h
  obtain rfl := Option.some.inj h
  obtain ⟨hw, live, e, hLv, hE1, hE0⟩ := hok
  have HW := Aside0.mk hw
  have HLV := Aside0.mk hLv
  have HE1 := Aside0.mk hE1
  have HE0 := Aside0.mk hE0
  clear hr0_0 hr0_1 hr1 hr2 hc0_0 hc0_1 hc1 hc2 h hw hLv hE1 hE0
  go_enter Try.func4, Try.ntmps4
  go_wp2_with fail
  have hB0 : Below w.heap.size w ((w.alloc (Obj.cells #[.slice A0_0 l0_0.length c0_0, .slice A0_1 l0_1.length c0_1] 25)).alloc (Obj.cells #[.slice A1 l1.length c1] 26)) := below_alloc (below_alloc (Below.refl _ _) _) _
  have hk0 : ((w.alloc (Obj.cells #[.slice A0_0 l0_0.length c0_0, .slice A0_1 l0_1.length c0_1] 25)).alloc (Obj.cells #[.slice A1 l1.length c1] 26)).heap[w.heap.size]? = some (Obj.cells #[.slice A0_0 l0_0.length c0_0, .slice A0_1 l0_1.length c0_1] 25) := blk_alloc (heap_alloc_new w _) _
  have hk1 : ((w.alloc (Obj.cells #[.slice A0_0 l0_0.length c0_0, .slice A0_1 l0_1.length c0_1] 25)).alloc (Obj.cells #[.slice A1 l1.length c1] 26)).heap[w.heap.size + 1]? = some (Obj.cells #[.slice A1 l1.length c1] 26) := by simpa using heap_alloc_new (w.alloc (Obj.cells #[.slice A0_0 l0_0.length c0_0, .slice A0_1 l0_1.length c0_1] 25)) (Obj.cells #[.slice A1 l1.length c1] 26)
  generalize ((w.alloc (Obj.cells #[.slice A0_0 l0_0.length c0_0, .slice A0_1 l0_1.length c0_1] 25)).alloc (Obj.cells #[.slice A1 l1.length c1] 26)) = w0 at hB0 hk0 hk1 ⊢
  refine (backstitchkeep3_paired.calls k true _ HW.out).mono ?_
  rintro e1 w1 ⟨rfl, hb⟩
  have HB1 := Aside0.mk (below_step hB0 hb)
  replace hk0 := blk_below hk0 hb
  replace hk1 := blk_below hk1 hb
  have HK0 := Aside0.mk hk0
  have HK1 := Aside0.mk hk1
  have hx0 : w1.cell? ⟨w.heap.size, 0, none⟩ = some (.slice A0_0 l0_0.length c0_0) := (blk_cell hk0 0).trans rfl
  have hx1 : w1.cell? ⟨w.heap.size, 1, none⟩ = some (.slice A0_1 l0_1.length c0_1) := (blk_cell hk0 1).trans rfl
  have hx2 : w1.cell? ⟨w.heap.size + 1, 0, none⟩ = some (.slice A1 l1.length c1) := (blk_cell hk1 0).trans rfl
  clear hb hB0 hk0 hk1
  go_wp2_with fail
  refine (weak_Live.calls k A0_0 c0_0 l0_0 A0_1 c0_1 l0_1 A1 c1 l1 live e _ (Kd.C_below H0.out HB1.out) C0.out (Kd.C_below H1.out HB1.out) C1.out (Kd.C_below H2.out HB1.out) C2.out HLV.out).mono ?_
  rintro e1 w2 ⟨v2, rfl, ho, hb⟩
  obtain ⟨A4, c4, rfl, hc4, hC4⟩ := Kd.R_reads ho
  have HB2 := Aside0.mk (below_step HB1.out hb)
  have HK0 := Aside0.mk (blk_below HK0.out hb)
  have HK1 := Aside0.mk (blk_below HK1.out hb)
  have HC4 := Aside0.mk hC4
  clear ho hb hx0 hx1 hx2 hc4 hC4
  by_cases he : e = 0
  · subst he
    obtain ⟨hn, hri, hhi, hpi, hli, hcl, hle⟩ := HE0.out rfl
    have HN := Aside0.mk hn
    have HRI := Aside0.mk hri
    have HHI := Aside0.mk hhi
    have HPI := Aside0.mk hpi
    have HLI := Aside0.mk hli
    have HCL := Aside0.mk hcl
    have HLE := Aside0.mk hle
    clear hri hhi hpi hli hcl hle HE0 HE1
    have hx0 : w2.cell? ⟨w.heap.size, 0, none⟩ = some (.slice A0_0 l0_0.length c0_0) := (blk_cell HK0.out 0).trans rfl
    have hmk : ∀ W : World, (Instr.makeSlice 38 (.int .i64 (l0_0.length : Int)) (.int .i64 (l0_0.length : Int))).run Try.prog W = .ok (.slice (some ⟨W.heap.size, 0, none⟩) l0_0.length l0_0.length) (W.alloc (.cells (madeCells #[.bool false] l0_0.length) 4)) := by
      intro W
      exact run_make_row' 38 4 (.bool false) 1 Try.underlying38 (by kernel_rfl) rfl .i64 .i64 l0_0.length (by omega) (by omega) W
    have hlt : w.heap.size < w2.heap.size := blk_lt HK0.out
    have HLT1 : Aside0 (w.heap.size + 1 < w2.heap.size) := ⟨blk_lt HK1.out⟩
    clear hn
    go_wp2_with fail
    clear hmk hx0 hlt
    have hs1 := (own_made_bool w2 w2.heap.size 4 l0_0.length (Nat.le_refl _) (by have := HN.out; omega)).alloc (.cells (madeCells #[.bool false] l0_0.length) 4)
    have hs2 := own_made_bool (w2.alloc (.cells (madeCells #[.bool false] l0_0.length) 4)) w2.heap.size 4 l0_0.length (by simp) (by have := HN.out; omega)
    rw [blk_size] at hs2
    have hb3 : Below w2.heap.size w2 ((w2.alloc (.cells (madeCells #[.bool false] l0_0.length) 4)).alloc (.cells (madeCells #[.bool false] l0_0.length) 4)) := below_alloc (below_alloc (Below.refl _ _) _) _
    generalize ((w2.alloc (Obj.cells (madeCells #[.bool false] l0_0.length) 4)).alloc (Obj.cells (madeCells #[.bool false] l0_0.length) 4)) = w3 at hs1 hs2 hb3 ⊢
    have S1 := Aside0.mk hs1
    have S2 := Aside0.mk hs2
    have B3 := Aside0.mk hb3
    clear hs1 hs2 hb3
    go_loopg [45] live.length (fun kq v45 W => ∃ i : Nat, v45 = .int .i64 (i : Int) ∧ Aside0 (i ≤ live.length ∧ kq = live.length - i) ∧ Aside0 (W.ownsRow w2.heap.size 4 1 (.slice (some ⟨w2.heap.size, 0, none⟩) l0_0.length l0_0.length) l0_0.length (bools (inL l0_0.length (live.take i)))) ∧ Aside0 (W.ownsRow w2.heap.size 4 1 (.slice (some ⟨w2.heap.size + 1, 0, none⟩) l0_0.length l0_0.length) l0_0.length (bools (upTo l0_0.length 0))) ∧ Aside0 (Below w2.heap.size w2 W))
    case atStart => exact ⟨0, rfl, ⟨Nat.zero_le _, by omega⟩, S1, ⟨by have h_ := S2.out; simpa [upTo] using h_⟩, B3⟩
    case round =>
      obtain ⟨i, rfl, HIQ, T1, T2, HB⟩ := hrel
      by_cases hlt : i < live.length
      · have hi0 : (0 : Int) ≤ (i : Int) := by omega
        have hi1 : (i : Int) < (live.length : Int) := by omega
        obtain ⟨ad, rfl, hx⟩ := Kd.at_int (Kd.C_below HC4.out HB.out) (i : Int) hi0 hi1
        rw [Int.toNat_natCast, rd_get _ _ hlt] at hx
        have hn := HLI.out _ (List.getElem_mem hlt)
        have hn0 : (0 : Int) ≤ live[i] := hn.1
        have hn1 : live[i] < (l0_0.length : Int) := hn.2
        have hdec : decide ((i : Int) < (live.length : Int)) = true := decide_eq_true hi1
        have hdec2 : decide (i < live.length) = true := decide_eq_true hlt
        have HLT := Aside0.mk hlt
        have hy := own_getB T1.out live[i].toNat (by omega)
        have hf := own_free T1.out live[i].toNat
        have HSN : Aside0 (inL l0_0.length (live.take (i + 1)) = (inL l0_0.length (live.take i)).set live[i].toNat true) := ⟨by rw [List.take_succ_eq_append_getElem hlt, inL_snoc]⟩
        generalize live[i] = x at hx hn0 hn1 hy hf HSN
        clear hlt hn
        go_wp2
        go_roundg (live.length - (i + 1))
        case measure => have := HIQ.out; have := HLT.out; omega
        case rel => exact ⟨i + 1, by first | rfl | (have := HLT.out; have := HC4.out.2.1; rw [show wrap64 ((i : Int) + 1) = ((i + 1 : Nat) : Int) from by unfold wrap64; omega]), ⟨by have := HLT.out; omega, rfl⟩, ⟨by rw [HSN.out]; exact own_setB T1.out _ true⟩, ⟨own_setCell T2.out (p := ⟨w2.heap.size, _, none⟩) (by simp [Value.ownBlock]) _⟩, ⟨HB.out.setCell (Nat.le_refl _) _⟩⟩
      · have e_ : i = live.length := by have := HIQ.out; omega
        subst e_
        rw [List.take_length] at T1
        have hdec : decide ((live.length : Int) < (live.length : Int)) = false := decide_eq_false (by omega)
        have hdec2 : decide (live.length < live.length) = false := decide_eq_false hlt
        clear hlt HIQ
        go_wp2_with fail
        clear hdec hdec2
        go_loopg [55] l0_0.length (fun kq v55 W => ∃ i : Nat, v55 = .int .i64 (i : Int) ∧ Aside0 (i ≤ l0_0.length ∧ kq = l0_0.length - i) ∧ Aside0 (W.ownsRow w2.heap.size 4 1 (.slice (some ⟨w2.heap.size, 0, none⟩) l0_0.length l0_0.length) l0_0.length (bools (inL l0_0.length live))) ∧ Aside0 (W.ownsRow w2.heap.size 4 1 (.slice (some ⟨w2.heap.size + 1, 0, none⟩) l0_0.length l0_0.length) l0_0.length (bools (upTo l0_0.length i))) ∧ Aside0 (Below w2.heap.size w2 W))
        case atStart => exact ⟨0, rfl, ⟨Nat.zero_le _, by omega⟩, T1, T2, HB⟩
        case round =>
          obtain ⟨i, rfl, HIQ, T1, T2, HB⟩ := hrel
          by_cases hlt : i < l0_0.length
          · have hi0 : (0 : Int) ≤ (i : Int) := by omega
            have hi1 : (i : Int) < (l0_0.length : Int) := by omega
            have hdec : decide ((i : Int) < (l0_0.length : Int)) = true := decide_eq_true hi1
            have hdec2 : decide (i < l0_0.length) = true := decide_eq_true hlt
            have HLT := Aside0.mk hlt
            have hy := own_getB T2.out i hlt
            have hf := own_free T2.out i
            clear hlt
            go_wp2
            go_roundg (l0_0.length - (i + 1))
            case measure => have := HIQ.out; have := HLT.out; omega
            case rel => exact ⟨i + 1, by first | rfl | (have := HLT.out; have := HN.out; rw [show wrap64 ((i : Int) + 1) = ((i + 1 : Nat) : Int) from by unfold wrap64; omega]), ⟨by have := HLT.out; omega, rfl⟩, ⟨own_setCell T1.out (p := ⟨w2.heap.size + 1, _, none⟩) (by simp [Value.ownBlock]) _⟩, ⟨by rw [← upTo_set HLT.out]; exact own_setB T2.out i true⟩, ⟨HB.out.setCell (by simp) _⟩⟩
          · have e_ : i = l0_0.length := by have := HIQ.out; omega
            subst e_
            have hdec : decide ((l0_0.length : Int) < (l0_0.length : Int)) = false := decide_eq_false (by omega)
            have hdec2 : decide (l0_0.length < l0_0.length) = false := decide_eq_false hlt
            clear hlt HIQ
            go_wp2_with fail
            clear hdec hdec2
            have HMX : Aside0 (l2.length ≤ 9223372036854775807) := ⟨H3.out.2.1⟩
            go_loopg [64] l2.length (fun kq v64 W => ∃ i : Nat, v64 = .int .i64 (i : Int) ∧ Aside0 (i ≤ l2.length ∧ kq = l2.length - i) ∧ Aside0 (W.ownsRow w2.heap.size 4 1 (.slice (some ⟨w2.heap.size, 0, none⟩) l0_0.length l0_0.length) l0_0.length (bools (inL l0_0.length live))) ∧ Aside0 (W.ownsRow w2.heap.size 4 1 (.slice (some ⟨w2.heap.size + 1, 0, none⟩) l0_0.length l0_0.length) l0_0.length (bools (otherL l0_0.length (l2.take i)))) ∧ Aside0 (Below w2.heap.size w2 W))
            case atStart => exact ⟨0, rfl, ⟨Nat.zero_le _, by omega⟩, T1, ⟨by have h_ := T2.out; simpa [upTo, otherL] using h_⟩, HB⟩
            case round =>
              obtain ⟨i, rfl, HIQ, T1, T2, HB⟩ := hrel
              by_cases hlt : i < l2.length
              · have hi0 : (0 : Int) ≤ (i : Int) := by omega
                have hi1 : (i : Int) < (l2.length : Int) := by omega
                obtain ⟨ad, rfl, hx⟩ := Kd.at_int (Kd.C_below H3.out (HB2.out.trans (below_cut HB.out HB2.out.size))) (i : Int) hi0 hi1
                rw [Int.toNat_natCast, rd_get _ _ hlt] at hx
                have hdec : decide ((i : Int) < (l2.length : Int)) = true := decide_eq_true hi1
                have hdec2 : decide (i < l2.length) = true := decide_eq_true hlt
                have HLT := Aside0.mk hlt
                have HSN : Aside0 (otherL l0_0.length (l2.take (i + 1)) = cutAt l0_0.length (otherL l0_0.length (l2.take i)) l2[i]) := ⟨by rw [List.take_succ_eq_append_getElem hlt, otherL_snoc]⟩
                generalize l2[i] = x at hx HSN
                clear hlt
                by_cases h0 : 0 ≤ x
                · by_cases h1 : x < (l0_0.length : Int)
                  · have hy := own_getB T2.out x.toNat (by omega)
                    have hf := own_free T2.out x.toNat
                    have hg0 : decide (0 ≤ x) = true := decide_eq_true h0
                    have hg1 : decide (x < (l0_0.length : Int)) = true := decide_eq_true h1
                    have HSN2 : Aside0 (otherL l0_0.length (l2.take (i + 1)) = (otherL l0_0.length (l2.take i)).set x.toNat false) := ⟨by rw [HSN.out]; unfold cutAt; rw [if_pos ⟨h0, h1⟩]⟩
                    clear HSN
                    go_wp2
                    go_roundg (l2.length - (i + 1))
                    case measure => have := HIQ.out; have := HLT.out; omega
                    case rel => exact ⟨i + 1, by first | rfl | (have := HLT.out; have := HMX.out; rw [show wrap64 ((i : Int) + 1) = ((i + 1 : Nat) : Int) from by unfold wrap64; omega]), ⟨by have := HLT.out; omega, rfl⟩, ⟨own_setCell T1.out (p := ⟨w2.heap.size + 1, _, none⟩) (by simp [Value.ownBlock]) _⟩, ⟨by rw [HSN2.out]; exact own_setB T2.out _ false⟩, ⟨HB.out.setCell (by simp) _⟩⟩
                  · have hg0 : decide (0 ≤ x) = true := decide_eq_true h0
                    have hg1 : decide (x < (l0_0.length : Int)) = false := decide_eq_false h1
                    have HSN2 : Aside0 (otherL l0_0.length (l2.take (i + 1)) = otherL l0_0.length (l2.take i)) := ⟨by rw [HSN.out]; unfold cutAt; rw [if_neg (fun h => h1 h.2)]⟩
                    clear HSN h0 h1
                    go_wp2
                    go_roundg (l2.length - (i + 1))
                    case measure => have := HIQ.out; have := HLT.out; omega
                    case rel => exact ⟨i + 1, by first | rfl | (have := HLT.out; have := HMX.out; rw [show wrap64 ((i : Int) + 1) = ((i + 1 : Nat) : Int) from by unfold wrap64; omega]), ⟨by have := HLT.out; omega, rfl⟩, T1, ⟨by rw [HSN2.out]; exact T2.out⟩, HB⟩
                · have hg0 : decide (0 ≤ x) = false := decide_eq_false h0
                  have HSN2 : Aside0 (otherL l0_0.length (l2.take (i + 1)) = otherL l0_0.length (l2.take i)) := ⟨by rw [HSN.out]; unfold cutAt; rw [if_neg (fun h => h0 h.1)]⟩
                  clear HSN h0
                  go_wp2
                  go_roundg (l2.length - (i + 1))
                  case measure => have := HIQ.out; have := HLT.out; omega
                  case rel => exact ⟨i + 1, by first | rfl | (have := HLT.out; have := HMX.out; rw [show wrap64 ((i : Int) + 1) = ((i + 1 : Nat) : Int) from by unfold wrap64; omega]), ⟨by have := HLT.out; omega, rfl⟩, T1, ⟨by rw [HSN2.out]; exact T2.out⟩, HB⟩
              · have e_ : i = l2.length := by have := HIQ.out; omega
                subst e_
                rw [List.take_length] at T2
                have hdec : decide ((l2.length : Int) < (l2.length : Int)) = false := decide_eq_false (by omega)
                have hdec2 : decide (l2.length < l2.length) = false := decide_eq_false hlt
                clear hlt HIQ
                go_wp2_with fail
                clear hdec hdec2
                go_loopg [82] l0_0.length (fun kq v82 W => ∃ i : Nat, v82 = .int .i64 (i : Int) ∧ Aside0 (i ≤ l0_0.length ∧ kq = l0_0.length - i) ∧ Aside0 (W.ownsRow w2.heap.size 4 1 (.slice (some ⟨w2.heap.size, 0, none⟩) l0_0.length l0_0.length) l0_0.length (bools (inL l0_0.length live))) ∧ Aside0 (W.ownsRow w2.heap.size 4 1 (.slice (some ⟨w2.heap.size + 1, 0, none⟩) l0_0.length l0_0.length) l0_0.length (bools (otherL l0_0.length l2))) ∧ Aside0 (Below w2.heap.size w2 W))
                case atStart => exact ⟨0, rfl, ⟨Nat.zero_le _, by omega⟩, T1, T2, HB⟩
                case round =>
                  obtain ⟨i, rfl, HIQ, T1, T2, HB⟩ := hrel
                  have hc0 : wr.cell? ⟨w.heap.size, 0, none⟩ = some (.slice A0_0 l0_0.length c0_0) := cell_deeper ((blk_cell HK0.out 0).trans rfl) HB.out (blk_lt HK0.out)
                  have hc1 : wr.cell? ⟨w.heap.size, 1, none⟩ = some (.slice A0_1 l0_1.length c0_1) := cell_deeper ((blk_cell HK0.out 1).trans rfl) HB.out (blk_lt HK0.out)
                  have hc2 : wr.cell? ⟨w.heap.size + 1, 0, none⟩ = some (.slice A1 l1.length c1) := cell_deeper ((blk_cell HK1.out 0).trans rfl) HB.out HLT1.out
                  have HBW : Aside0 (Below w.heap.size w wr) := ⟨HB2.out.trans (below_cut HB.out HB2.out.size)⟩
                  by_cases hlt : i < l0_0.length
                  · have hi0 : (0 : Int) ≤ (i : Int) := by omega
                    have hi1 : (i : Int) < (l0_0.length : Int) := by omega
                    have hdec : decide ((i : Int) < (l0_0.length : Int)) = true := decide_eq_true hi1
                    have hdec2 : decide (i < l0_0.length) = true := decide_eq_true hlt
                    have HLT := Aside0.mk hlt
                    have hcall := closed_calls wr w.heap.size (w.heap.size + 1) A0_0 c0_0 l0_0 A0_1 c0_1 l0_1 A1 c1 l1 (some ⟨w2.heap.size + 1, 0, none⟩) l0_0.length (otherL l0_0.length l2) hc0 hc1 hc2 (Kd.C_below H0.out HBW.out) (Kd.C_below H1.out HBW.out) (Kd.C_below H2.out HBW.out) (own_CB T2.out) (otherL_length _ _) HRI.out HHI.out HPI.out
                    rw [otherL_length] at hcall
                    have HCALL := Aside0.mk hcall
                    clear hlt hcall hc0 hc1 hc2
                    go_wp2_with fail
                    refine HCALL.out.mono ?_
                    rintro e1 w9 ⟨rfl, hb⟩
                    have T1' := Aside0.mk (pw_own_below T1.out hb)
                    have T2' := Aside0.mk (pw_own_below T2.out hb)
                    have HB' := Aside0.mk (below_step HB.out hb)
                    have hy := own_getB T1'.out i HLT.out
                    have hz := own_getB T2'.out i HLT.out
                    clear hb HCALL
                    cases hcb : closedB l0_0 l0_1 l1 (otherL l0_0.length l2) with
                    | false =>
                      clear hcb hy hz
                      go_wp2
                      go_roundg (l0_0.length - (i + 1))
                      case measure => have := HIQ.out; have := HLT.out; omega
                      case rel => exact ⟨i + 1, by first | rfl | (have := HLT.out; have := HN.out; rw [show wrap64 ((i : Int) + 1) = ((i + 1 : Nat) : Int) from by unfold wrap64; omega]), ⟨by have := HLT.out; omega, rfl⟩, T1', T2', HB'⟩
                    | true =>
                      have himp := HLE.out hcb i HLT.out
                      clear hcb
                      cases hbi : (inL l0_0.length live).getD i false with
                      | false =>
                        rw [hbi] at hy
                        clear hbi himp hz
                        go_wp2
                        go_roundg (l0_0.length - (i + 1))
                        case measure => have := HIQ.out; have := HLT.out; omega
                        case rel => exact ⟨i + 1, by first | rfl | (have := HLT.out; have := HN.out; rw [show wrap64 ((i : Int) + 1) = ((i + 1 : Nat) : Int) from by unfold wrap64; omega]), ⟨by have := HLT.out; omega, rfl⟩, T1', T2', HB'⟩
                      | true =>
                        rw [hbi] at hy
                        rw [himp hbi] at hz
                        clear hbi himp
                        go_wp2
                        go_roundg (l0_0.length - (i + 1))
                        case measure => have := HIQ.out; have := HLT.out; omega
                        case rel => exact ⟨i + 1, by first | rfl | (have := HLT.out; have := HN.out; rw [show wrap64 ((i : Int) + 1) = ((i + 1 : Nat) : Int) from by unfold wrap64; omega]), ⟨by have := HLT.out; omega, rfl⟩, T1', T2', HB'⟩
                  · have hdec : decide ((i : Int) < (l0_0.length : Int)) = false := decide_eq_false (by omega)
                    have hdec2 : decide (i < l0_0.length) = false := decide_eq_false hlt
                    clear hlt HIQ hc0 hc1 hc2
                    go_wp2_with fail
                    refine (backstitchkeep3_paired.calls k true _ HW.out).mono ?_
                    rintro e1 w9 ⟨rfl, hb⟩
                    have T1' := Aside0.mk (pw_own_below T1.out hb)
                    have HB' := Aside0.mk (below_step HB.out hb)
                    have hc0 : w9.cell? ⟨w.heap.size, 0, none⟩ = some (.slice A0_0 l0_0.length c0_0) := cell_deeper ((blk_cell HK0.out 0).trans rfl) HB'.out (blk_lt HK0.out)
                    have hc1 : w9.cell? ⟨w.heap.size, 1, none⟩ = some (.slice A0_1 l0_1.length c0_1) := cell_deeper ((blk_cell HK0.out 1).trans rfl) HB'.out (blk_lt HK0.out)
                    have hc2 : w9.cell? ⟨w.heap.size + 1, 0, none⟩ = some (.slice A1 l1.length c1) := cell_deeper ((blk_cell HK1.out 0).trans rfl) HB'.out HLT1.out
                    have HBW' : Aside0 (Below w.heap.size w w9) := ⟨HB2.out.trans (below_cut HB'.out HB2.out.size)⟩
                    have hcall := closed_calls w9 w.heap.size (w.heap.size + 1) A0_0 c0_0 l0_0 A0_1 c0_1 l0_1 A1 c1 l1 (some ⟨w2.heap.size, 0, none⟩) l0_0.length (inL l0_0.length live) hc0 hc1 hc2 (Kd.C_below H0.out HBW'.out) (Kd.C_below H1.out HBW'.out) (Kd.C_below H2.out HBW'.out) (own_CB T1'.out) (inL_length _ _) HRI.out HHI.out HPI.out
                    rw [inL_length, HCL.out] at hcall
                    have HCALL := Aside0.mk hcall
                    clear hb hcall hc0 hc1 hc2 hdec hdec2
                    go_wp2_with fail
                    refine HCALL.out.mono ?_
                    rintro e1 w10 ⟨rfl, hb⟩
                    have HB10 := Aside0.mk (below_step HBW'.out hb)
                    clear hb HCALL
                    go_wp2
                    go_ret
                    exact ⟨rfl, HB10.out⟩
  · have hnil := HE1.out he
    subst hnil
    have hd4 : (e == 0) = false := by simpa using he
    have hd5 : (e != 0) = true := by simp [he]
    clear he HE0 HE1
    go_wp2_with fail
    refine (backstitchkeep3_paired.calls k true _ HW.out).mono ?_
    rintro e1 w5 ⟨rfl, hb⟩
    have HB5 := Aside0.mk (below_step HB2.out hb)
    clear hb
    go_wp2
    go_ret
    exact ⟨rfl, HB5.out⟩
end Go.Proofs.Ytoleplbmkdhgeaa.PQ
