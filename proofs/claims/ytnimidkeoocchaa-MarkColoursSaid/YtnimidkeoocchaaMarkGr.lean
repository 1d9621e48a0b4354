/- Package mark: Colours, the first grey one. -/
import Derived.Test.YtnimidkeoocchaaMarkSh
import Derived.Shelf.Abstract
import Derived.Lib.SliceRun
set_option linter.unusedVariables false
set_option linter.unusedSimpArgs false
namespace Go.Proofs.Ytnimidkeoocchaa.Mrk
open Go.RowKit Go.Proofs.YtnimidkeoocchaaW.PrintWords Go.Proofs.YtnimidkeoocchaaW.PrintLast Go.Proofs.YtnimidkeoocchaaW.PrintMore Go.Proofs.Ytnimidkeoocchaa.PK Go.Proofs.Ytnimidkeoocchaa.Hnd

theorem info_i : (Try.prog.info? 3).map (fun i => (i.zero, i.size, i.bytes)) = some (some (.int .i64 0), 1, 8) := by kernel_rfl
/-- A thing's cells, as they are read. -/
theorem MS.at_ {W : World} {ok : Nat → Prop} {g : Nat} {kind : Int} {mk : Bool} {v : Value} {ps : List Value} {l : List Th} (h : MS W ok g kind mk v ps l) (i : Nat) (hi : i < l.length) :
    ∃ q cap A c, v = .slice (some ⟨q, 0, none⟩) l.length cap ∧ ok q ∧ W.cell? ⟨q, i * 3, none⟩ = some (.slice A (l[i]).f0.length c) ∧ W.cell? ⟨q, i * 3 + 1, none⟩ = some (.int .i64 l[i].f1) ∧ W.cell? ⟨q, i * 3 + 2, none⟩ = some (.bool l[i].f2) ∧ ps[i]'(by have := h.len; omega) = .slice A l[i].f0.length c ∧ l[i].f0.length ≤ c ∧ (Kd.int .i64).C W A l[i].f0.length l[i].f0 := by
  obtain ⟨q, cap, rfl⟩ := h.vform (by omega)
  obtain ⟨x0, x1, x2⟩ := h.cells i hi
  obtain ⟨A, c, e, hc, hC⟩ := h.placesC i hi
  exact ⟨q, cap, A, c, rfl, h.vok q rfl, by rw [x0, e], x1, x2, e, hc, hC⟩
/-! ### Colours -/
set_option maxHeartbeats 8000000 in
set_option maxRecDepth 100000 in
theorem colours_calls (w : World) {ok : Nat → Prop} {g : Nat} {kind : Int} {mk : Bool} {v : Value} {ps : List Value} {l : List Th} (h : MS w ok g kind mk v ps l) (hz : l.length ≤ 1000) :
    Calls Try.prog 27 #[.pointer (some ⟨g, 0, none⟩)] w fun e w' => ∃ v0, e = .returned v0 ∧ Kd.R (Kd.int .i64) 3 w' w.heap.size (fun _ => True) v0 (l.map (·.f1)) ∧ Below w.heap.size w w' := by
  have c2 := h.c2
  obtain ⟨AV, cV, ev, hcv⟩ := own_shape h.row
  subst ev
  have HM := Aside0.mk h
  have HZ := Aside0.mk hz
  have HU := Try.underlying29
  clear h hz
  go_enter Try.func27, Try.ntmps27
  go_wp2
  go_loopg [3, 11] l.length (fun kq v3 v11 W => ∃ i : Nat, v11 = .int .i64 (i : Int) ∧ Aside0 (i ≤ l.length ∧ kq = l.length - i) ∧ Aside0 (Kd.R (Kd.int .i64) 3 W w.heap.size (fun _ => True) v3 ((l.take i).map (·.f1))) ∧ Aside0 (Below w.heap.size w W))
  case atStart => exact ⟨0, rfl, ⟨Nat.zero_le _, by omega⟩, ⟨by simpa using Kd.R_nil _ _ _ _ _⟩, ⟨by repeat (first | exact Below.refl _ _ | apply below_alloc | apply pw_below_drewN | apply below_drew1)⟩⟩
  case round =>
    obtain ⟨i, rfl, HIQ, HR, HB⟩ := hrel
    by_cases hlt : i < l.length
    · have hi0 : (0 : Int) ≤ (i : Int) := by omega
      have hi1 : (i : Int) < (l.length : Int) := by omega
      obtain ⟨q, cap, A, c, e1, hqo, x0, x1, x2, hpe, hpc, hpC⟩ := (HM.out.below HB.out).at_ i hlt
      injection e1 with e1 e2 e3
      subst e1
      subst e3
      have hdec : decide ((i : Int) < (l.length : Int)) = true := decide_eq_true hi1
      have hdec2 : decide (i < l.length) = true := decide_eq_true hlt
      have HLT := Aside0.mk hlt
      have HSN : Aside0 ((l.take (i + 1)).map (·.f1) = (l.take i).map (·.f1) ++ [l[i].f1]) := ⟨by rw [List.take_succ_eq_append_getElem hlt, List.map_append]; rfl⟩
      generalize l[i].f1 = y at x1 HSN
      obtain ⟨xs, hxs⟩ : ∃ xs, xs = (l.take i).map (·.f1) := ⟨_, rfl⟩
      have HXL : Aside0 (xs.length ≤ 1000) := ⟨by rw [hxs, List.length_map, List.length_take]; have := HZ.out; omega⟩
      rw [← hxs] at HR HSN
      clear hxs
      obtain ⟨A7, c7, e7⟩ := Kd.R_slice HR.out
      subst e7
      have hbx := below_alloc (Below.refl wr.heap.size wr) (Obj.cells #[.slice A (l[i]).f0.length c, .int .i64 y, .bool l[i].f2] 78)
      have HRX : Aside0 (Kd.R (Kd.int .i64) 3 (wr.alloc (Obj.cells #[.slice A (l[i]).f0.length c, .int .i64 y, .bool l[i].f2] 78)) w.heap.size (fun _ => True) (.slice A7 xs.length c7) xs) := ⟨Kd.R_below HR.out hbx⟩
      have HBX : Aside0 (Below w.heap.size w (wr.alloc (Obj.cells #[.slice A (l[i]).f0.length c, .int .i64 y, .bool l[i].f2] 78))) := ⟨HB.out.trans (below_cut hbx HB.out.size)⟩
      generalize l[i].f2 = y2 at x2 HRX HBX
      generalize l[i].f0 = y0 at x0 HRX HBX
      clear hqo hpe hpc hpC hbx hlt
      go_wp2_with (first | ((with_reducible refine gate_builtin (b := .append) (xs := #[.tmp 15, .tmp 18]) rfl ?_); refine Kd.R_append (Kd.int .i64) (w0 := w) w.heap.size rfl (.tmp 15) (.tmp 18) 29 3 (.int .i64 0) 8 rfl HU info_i rfl (by decide) (by decide) (.slice A7 xs.length c7) xs y [.int .i64 y] (fun _ => True) (fun _ => False) rfl ?hx rfl (fun _ hk => hk.elim) (fun _ _ => trivial) HRX.out HBX.out ?hbs ?hl ?_; (case hx => rw [blk_size]; rfl); (case hbs => exact HBX.out.size); (case hl => have h_ := HXL.out; omega); intro v3 w3 ho hb hg3 hat; have HR3 := Aside0.mk ho; have HB3 := Aside0.mk hb; clear ho hb hg3 hat))
      go_roundg (l.length - (i + 1))
      case measure => have := HIQ.out; have := HLT.out; omega
      case rel =>
        refine ⟨i + 1, ?_, ⟨by have := HLT.out; omega, rfl⟩, ⟨by rw [HSN.out]; exact HR3.out⟩, HB3⟩
        first | rfl | (have := HLT.out; have := HZ.out; rw [show wrap64 ((i : Int) + 1) = ((i + 1 : Nat) : Int) from by unfold wrap64; omega])
    · have e_ : i = l.length := by have := HIQ.out; omega
      subst e_
      have hdec : decide ((l.length : Int) < (l.length : Int)) = false := decide_eq_false (by omega)
      have hdec2 : decide (l.length < l.length) = false := decide_eq_false hlt
      clear hlt HIQ
      go_wp2
      go_ret
      have h_ := HR.out
      rw [List.take_length] at h_
      exact ⟨_, rfl, by repeat (first | exact h_ | apply Kd.R_drew | apply Kd.R_drewN | apply Kd.R_alloc), by repeat (first | exact HB.out | apply below_alloc | apply pw_below_drewN | apply below_drew1)⟩
/-! ### The first grey one -/
def idxG (l : List Th) : Int := match l.findIdx? (fun x => x.f1 == 1) with | some i => (i : Int) | none => -1
theorem idxG_at {l : List Th} {i : Nat} (hi : i < l.length) (h : (l[i].f1 == 1) = true) (hb : ∀ j (hj : j < l.length), j < i → (l[j].f1 == 1) = false) : idxG l = (i : Int) := by
  unfold idxG
  have : l.findIdx? (fun x => x.f1 == 1) = some i := List.findIdx?_eq_some_iff_getElem.2 ⟨hi, h, fun j hj => by rw [hb j (by omega) hj]; simp⟩
  rw [this]
theorem idxG_no {l : List Th} (hb : ∀ j (hj : j < l.length), (l[j].f1 == 1) = false) : idxG l = -1 := by
  unfold idxG
  have : l.findIdx? (fun x => x.f1 == 1) = none := by
    rw [List.findIdx?_eq_none_iff]
    intro x hx
    obtain ⟨j, hj, rfl⟩ := List.getElem_of_mem hx
    exact hb j hj
  rw [this]
theorem idxG_cases (l : List Th) : (idxG l = -1 ∧ ∀ x ∈ l, x.f1 ≠ 1) ∨ ∃ i, ∃ hi : i < l.length, idxG l = (i : Int) ∧ l[i].f1 = 1 := by
  unfold idxG
  cases h : l.findIdx? (fun x => x.f1 == 1) with
  | none =>
    rw [List.findIdx?_eq_none_iff] at h
    exact .inl ⟨rfl, fun x hx => by simpa using h x hx⟩
  | some i =>
    obtain ⟨hi, h1, h2⟩ := List.findIdx?_eq_some_iff_getElem.1 h
    exact .inr ⟨i, hi, rfl, by simpa using h1⟩
set_option maxHeartbeats 4000000 in
set_option maxRecDepth 100000 in
theorem grey_calls (W : World) (A : Option Addr) (n c : Nat) (y : Int) (b : Bool) :
    Calls Try.prog 94 #[.agg #[.slice A n c, .int .i64 y, .bool b]] W fun e w' => e = .returned (.bool (y == 1)) ∧ Below W.heap.size W w' := by
  cases h1 : (y == 1) <;>
    (go_enter Try.func94, Try.ntmps94
     go_wp2
     go_ret
     exact ⟨by first | rfl | simp, by repeat (first | exact Below.refl _ _ | apply below_alloc | apply pw_below_drewN | apply below_drew1)⟩)
set_option maxHeartbeats 4000000 in
set_option maxRecDepth 100000 in
theorem idx_calls (w : World) {ok : Nat → Prop} {g : Nat} {kind : Int} {mk : Bool} {v : Value} {ps : List Value} {l : List Th} (h : MS w ok g kind mk v ps l) (hz : l.length ≤ 1000) :
    Calls Try.prog 93 #[v, .func (.func 94) #[] #[]] w fun e w' => e = .returned (.int .i64 (idxG l)) ∧ Below w.heap.size w w' := by
  obtain ⟨AV, cV, ev, hcv⟩ := own_shape h.row
  subst ev
  have HM := Aside0.mk h
  have HZ := Aside0.mk hz
  have eg := Go.Proofs.enters_of Try.func94 (by kernel_rfl) rfl
  clear h hz
  go_enter Try.func93, Try.ntmps93
  go_wp2
  go_loopg [8] l.length (fun kq v8 W => ∃ i : Nat, v8 = .int .i64 (i : Int) ∧ Aside0 (i ≤ l.length ∧ kq = l.length - i) ∧ Aside0 (∀ j (hj : j < l.length), j < i → (l[j].f1 == 1) = false) ∧ Aside0 (Below w.heap.size w W))
  case atStart => exact ⟨0, rfl, ⟨Nat.zero_le _, by omega⟩, ⟨fun j hj h => absurd h (Nat.not_lt_zero _)⟩, ⟨Below.refl _ _⟩⟩
  case round =>
    obtain ⟨i, rfl, HIQ, HN, HB⟩ := hrel
    by_cases hlt : i < l.length
    · have hi0 : (0 : Int) ≤ (i : Int) := by omega
      have hi1 : (i : Int) < (l.length : Int) := by omega
      obtain ⟨q, cap, A, c, e1, hqo, x0, x1, x2, hpe, hpc, hpC⟩ := (HM.out.below HB.out).at_ i hlt
      injection e1 with e1 e2 e3
      subst e1
      subst e3
      have hdec : decide ((i : Int) < (l.length : Int)) = true := decide_eq_true hi1
      have hdec2 : decide (i < l.length) = true := decide_eq_true hlt
      have HLT := Aside0.mk hlt
      have HCALL := Aside0.mk (grey_calls wr A l[i].f0.length c l[i].f1 l[i].f2)
      cases hq : (l[i].f1 == 1) with
      | true =>
        have HQ := Aside0.mk hq
        rw [hq] at HCALL
        generalize l[i].f1 = y1 at x1 HCALL
        generalize l[i].f2 = y2 at x2 HCALL
        generalize l[i].f0 = y0 at x0 HCALL
        clear hq hqo hpe hpc hpC
        go_wp2_with fail
        refine HCALL.out.mono ?_
        rintro e w' ⟨rfl, hb'⟩
        go_wp2_with fail
        go_ret
        exact ⟨by rw [idxG_at HLT.out HQ.out HN.out]; rfl, below_step HB.out hb'⟩
      | false =>
        have HQ := Aside0.mk hq
        rw [hq] at HCALL
        generalize l[i].f1 = y1 at x1 HCALL
        generalize l[i].f2 = y2 at x2 HCALL
        generalize l[i].f0 = y0 at x0 HCALL
        clear hq hqo hpe hpc hpC
        go_wp2_with fail
        refine HCALL.out.mono ?_
        rintro e w' ⟨rfl, hb'⟩
        go_wp2_with fail
        go_roundg (l.length - (i + 1))
        case measure => have := HIQ.out; have := HLT.out; omega
        case rel =>
          refine ⟨i + 1, by first | rfl | (have := HLT.out; have := HZ.out; rw [show wrap64 ((i : Int) + 1) = ((i + 1 : Nat) : Int) from by unfold wrap64; omega]), ⟨by have := HLT.out; omega, rfl⟩, ⟨fun j hj h => ?_⟩, ⟨below_step HB.out hb'⟩⟩
          by_cases e : j = i
          · subst e; exact HQ.out
          · exact HN.out j hj (by omega)
    · have e_ : i = l.length := by have := HIQ.out; omega
      subst e_
      have hdec : decide ((l.length : Int) < (l.length : Int)) = false := decide_eq_false (by omega)
      have hdec2 : decide (l.length < l.length) = false := decide_eq_false hlt
      clear hlt HIQ
      go_wp2
      go_ret
      exact ⟨by rw [idxG_no (fun j hj => HN.out j hj hj)]; rfl, HB.out⟩
end Go.Proofs.Ytnimidkeoocchaa.Mrk
