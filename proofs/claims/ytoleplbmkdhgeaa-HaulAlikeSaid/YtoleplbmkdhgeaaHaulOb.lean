/- Package haul: Objects walked. -/
import Derived.Test.YtoleplbmkdhgeaaHaulCo
import Derived.Test.YtoleplbmkdhgeaaHaulGp
set_option linter.unusedVariables false
set_option linter.unusedSimpArgs false
namespace Go.Proofs.Ytoleplbmkdhgeaa.Hal
open Go.RowKit Go.Proofs.YtoleplbmkdhgeaaW.PrintWords Go.Proofs.YtoleplbmkdhgeaaW.PrintLast Go.Proofs.YtoleplbmkdhgeaaW.PrintMore Go.Proofs.Ytoleplbmkdhgeaa.PQ Go.Proofs.Ytoleplbmkdhgeaa.Hnd Go.Proofs.Ytoleplbmkdhgeaa.Nb

/-- Check of a heap, whatever it is. -/
theorem check_h (w : World) (AW : Option Addr) (cW : Nat) (words : List Int) (AR : Option Addr) (cR : Nat) (roots : List Int)
    (hW : Kd.C (Kd.int .u64) w AW words.length words) (hcW : words.length ≤ cW) (hR : Kd.C (Kd.int .u64) w AR roots.length roots) (hU : ∀ x ∈ words, U64 x) (hV : ∀ x ∈ roots, U64 x) :
    Calls Try.prog 31 #[.agg #[.slice AW words.length cW, .slice AR roots.length cR]] w fun e w' => e = .returned (.int .i64 (chkE words roots (objF words).1 (objF words).2)) ∧ Below w.heap.size w w' := by
  by_cases hl : words.length ≤ 2000
  · exact check_calls 2001 w AW cW words AR cR roots (objF words).1 (objF words).2 hW hcW hR hU hV (fun _ => objects_k hU hl 2001 (Nat.le_refl _)) (fun x hx => by have := objW_mem _ _ x hx; unfold I64; omega) (by have := objW_len (fr := words) words.length 0; unfold objF; omega)
  · have hE : ∀ o i, chkE words roots o i = 2 := fun o i => by unfold chkE; rw [if_pos (by omega)]
    have h := check_calls 2001 w AW cW words AR cR roots [] true hW hcW hR hU hV (fun h_ => (hl h_).elim) (by simp) (by simp)
    rw [hE] at h ⊢; exact h
set_option maxHeartbeats 16000000 in
set_option maxRecDepth 100000 in
theorem objects_calls (w : World) (AW : Option Addr) (cW : Nat) (words : List Int) (AR : Option Addr) (cR : Nat) (roots : List Int)
    (hW : Kd.C (Kd.int .u64) w AW words.length words) (hcW : words.length ≤ cW) (hR : Kd.C (Kd.int .u64) w AR roots.length roots) (hU : ∀ x ∈ words, U64 x) (hV : ∀ x ∈ roots, U64 x) :
    Calls Try.prog 34 #[.agg #[.slice AW words.length cW, .slice AR roots.length cR]] w fun e w' =>
      (chkE words roots (objF words).1 (objF words).2 ≠ 0 ∧ e = .returned (.tuple #[.slice none 0 0, .int .i64 (chkE words roots (objF words).1 (objF words).2)]) ∧ Below w.heap.size w w') ∨
      (chkE words roots (objF words).1 (objF words).2 = 0 ∧ Heap words roots (objF words).1 ∧ ∃ v, e = .returned (.tuple #[v, .int .i64 0]) ∧ Kd.R (Kd.int .i64) 3 w' w.heap.size (fun _ => True) v (objF words).1 ∧ Below w.heap.size w w') := by
  have HW := Aside0.mk hW
  have HC := Aside0.mk hcW
  have HU := Aside0.mk hU
  have hb0 : Below w.heap.size w (w.alloc (Obj.cells #[.slice AW words.length cW, .slice AR roots.length cR] 51)) := below_alloc (Below.refl _ _) _
  have hk0 := heap_alloc_new w (Obj.cells #[.slice AW words.length cW, .slice AR roots.length cR] 51)
  have HCALL := Aside0.mk (check_h _ AW cW words AR cR roots (Kd.C_below hW hb0) hcW (Kd.C_below hR hb0) hU hV)
  have HB0 := Aside0.mk hb0
  have HK0 := Aside0.mk hk0
  clear hW hR hU hV hcW hb0 hk0
  go_enter Try.func34, Try.ntmps34
  go_wp2_with fail
  refine HCALL.out.mono ?_
  rintro e w1 ⟨rfl, hb⟩
  have HB1 : Aside0 (Below w.heap.size w w1) := ⟨below_step HB0.out hb⟩
  have hk1 := blk_below HK0.out hb
  clear hb HCALL
  by_cases hE : chkE words roots (objF words).1 (objF words).2 = 0
  · rw [hE]
    have hh := (heap_of hE).2
    have HCALL := Aside0.mk (haul_objects.calls 2001 AW cW words (objF words).1 (objF words).2 w1 (Kd.C_below HW.out HB1.out) HC.out (objects_k HU.out hh.len 2001 (Nat.le_refl _)))
    have HH := Aside0.mk hh
    have HE := Aside0.mk hE
    have hq0 : w1.cell? ⟨w.heap.size, 0, none⟩ = some (.slice AW words.length cW) := (blk_cell hk1 0).trans rfl
    clear hh hE hk1
    go_wp2_with fail
    refine HCALL.out.mono ?_
    rintro e w2 ⟨v, rfl, ho, hb⟩
    have HO := Aside0.mk ho
    have HB2 : Aside0 (Below w.heap.size w w2) := ⟨HB1.out.trans (below_cut hb HB1.out.size)⟩
    have HS := Aside0.mk HB1.out.size
    clear ho hb hq0
    go_wp2
    go_ret2
    exact .inr ⟨HE.out, HH.out, v, rfl, Kd.R_lower HO.out HS.out, HB2.out⟩
  · have hd : (chkE words roots (objF words).1 (objF words).2 != 0) = true := by simp [hE]
    have hd2 : decide (chkE words roots (objF words).1 (objF words).2 = 0) = false := decide_eq_false hE
    have HE := Aside0.mk hE
    generalize hEE : chkE words roots (objF words).1 (objF words).2 = E at hd hd2 HE hE
    have HEE := Aside0.mk hEE
    clear hEE hE
    go_wp2
    go_ret2
    rw [HEE.out]
    exact .inl ⟨HE.out, rfl, HB1.out⟩
end Go.Proofs.Ytoleplbmkdhgeaa.Hal
