/- slices.IndexFunc and slices.ContainsFunc at ints, by any predicate. -/
import Derived.Test.YtecaemebamhamaaHand
import Derived.Test.YtecaemebamhamaaPO0
import Derived.Shelf.Abstract
import Derived.Deep.DeepCutAuto
import Derived.Lib.SliceRun
set_option linter.unusedVariables false
set_option linter.unusedSimpArgs false
namespace Go.Proofs.Ytecaemebamhamaa.Lv
open Go.RowKit Go.Proofs.YtecaemebamhamaaW.PrintWords Go.Proofs.YtecaemebamhamaaW.PrintLast Go.Proofs.YtecaemebamhamaaW.PrintMore Go.Proofs.Ytecaemebamhamaa.PO Go.Proofs.Ytecaemebamhamaa.Hnd Go.Lib

/-- What is asked of a predicate that is handed over: of each number of a list it tells p, wherever memory is as it was, but for S. -/
def PrI (g : Nat) (lb : Array Value) (p : Int → Bool) (l : List Int) (S : Nat → Prop) (w : World) : Prop := ∀ W : World, w.heap.size ≤ W.heap.size → (∀ k, k < w.heap.size → ¬ S k → W.heap[k]? = w.heap[k]?) → ∀ x ∈ l, Calls Try.prog g (#[.int .i64 x] ++ lb) W fun e w' => e = .returned (.bool (p x)) ∧ Below W.heap.size W w'
def idxN (p : Int → Bool) (l : List Int) : Int := match l.findIdx? p with | some i => (i : Int) | none => -1
theorem idxN_at {p : Int → Bool} {l : List Int} {i : Nat} (hi : i < l.length) (h : p l[i] = true) (hb : ∀ j (hj : j < l.length), j < i → p l[j] = false) : idxN p l = (i : Int) := by
  unfold idxN
  have : l.findIdx? p = some i := List.findIdx?_eq_some_iff_getElem.2 ⟨hi, h, fun j hj => by rw [hb j (by omega) hj]; simp⟩
  rw [this]
theorem idxN_no {p : Int → Bool} {l : List Int} (hb : ∀ j (hj : j < l.length), p l[j] = false) : idxN p l = -1 := by
  unfold idxN
  have : l.findIdx? p = none := by
    rw [List.findIdx?_eq_none_iff]
    intro x hx
    obtain ⟨j, hj, rfl⟩ := List.getElem_of_mem hx
    exact hb j hj
  rw [this]
theorem idxN_cases (p : Int → Bool) (l : List Int) : (idxN p l = -1 ∧ ∀ x ∈ l, p x = false) ∨ ∃ i, ∃ hi : i < l.length, idxN p l = (i : Int) ∧ p l[i] = true ∧ ∀ j (hj : j < l.length), j < i → p l[j] = false := by
  unfold idxN
  cases h : l.findIdx? p with
  | none =>
    rw [List.findIdx?_eq_none_iff] at h
    exact .inl ⟨rfl, fun x hx => by simpa using h x hx⟩
  | some i =>
    obtain ⟨hi, h1, h2⟩ := List.findIdx?_eq_some_iff_getElem.1 h
    exact .inr ⟨i, hi, rfl, h1, fun j hj hlt => by have := h2 j hlt; simpa using this⟩
theorem rdI {l : List Int} {i : Nat} (h : i < l.length) : rd l i = l[i] := by unfold rd; simp [List.getD_eq_getElem?_getD, h]
set_option maxHeartbeats 4000000 in
set_option maxRecDepth 100000 in
theorem index_calls (g : Nat) (lb : Array Value) (p : Int → Bool) (eg : ∀ args w, (callFunc g args).run Try.prog w = .ok (.enter g args) w) (w : World) (A : Option Addr) (c : Nat) (l : List Int) (hl : (Kd.int .i64).C w A l.length l) (hp : PrI g lb p l (fun _ => False) w) (hz : l.length ≤ 2000000) :
    Calls Try.prog 98 #[.slice A l.length c, .func (.func g) #[] lb] w fun e w' => e = .returned (.int .i64 (idxN p l)) ∧ Below w.heap.size w w' := by
  have HL := Aside0.mk hl
  have HZ := Aside0.mk hz
  have HP := Aside0.mk hp
  clear hl hz hp
  go_enter Try.func98, Try.ntmps98
  go_wp2
  go_loopg [8] l.length (fun kq v8 W => ∃ i : Nat, v8 = .int .i64 (i : Int) ∧ Aside0 (i ≤ l.length ∧ kq = l.length - i) ∧ Aside0 (∀ j (hj : j < l.length), j < i → p l[j] = false) ∧ Aside0 (Below w.heap.size w W))
  case atStart => exact ⟨0, rfl, ⟨Nat.zero_le _, by omega⟩, ⟨fun j hj h => absurd h (Nat.not_lt_zero _)⟩, ⟨Below.refl _ _⟩⟩
  case round =>
    obtain ⟨i, rfl, HIQ, HN, HB⟩ := hrel
    by_cases hlt : i < l.length
    · have hi0 : (0 : Int) ≤ (i : Int) := by omega
      have hi1 : (i : Int) < (l.length : Int) := by omega
      obtain ⟨ad, e, hx⟩ := Kd.at_int (Kd.C_below HL.out HB.out) (i : Int) (by omega) (by omega)
      rw [Int.toNat_natCast, rdI hlt] at hx
      subst e
      have hdec : decide ((i : Int) < (l.length : Int)) = true := decide_eq_true hi1
      have hdec2 : decide (i < l.length) = true := decide_eq_true hlt
      have HLT := Aside0.mk hlt
      have HCALL := Aside0.mk (HP.out wr HB.out.size (fun k hk _ => HB.out.block k hk) l[i] (List.getElem_mem hlt))
      cases hq : p l[i] with
      | true =>
        have HQ := Aside0.mk hq
        rw [hq] at HCALL
        generalize l[i] = y1 at hx HCALL
        clear hq
        go_wp2_with (go_at_fn g; refine HCALL.out.mono ?_; rintro e w' ⟨rfl, hb'⟩)
        go_ret
        exact ⟨by rw [idxN_at HLT.out HQ.out HN.out]; rfl, below_step HB.out hb'⟩
      | false =>
        have HQ := Aside0.mk hq
        rw [hq] at HCALL
        generalize l[i] = y1 at hx HCALL
        clear hq
        go_wp2_with (go_at_fn g; refine HCALL.out.mono ?_; rintro e w' ⟨rfl, hb'⟩)
        go_roundg (l.length - (i + 1))
        case measure => have := HIQ.out; have := HLT.out; omega
        case rel =>
          refine ⟨i + 1, by first | rfl | (have := HLT.out; have := HZ.out; rw [show wrap64 ((i : Int) + 1) = ((i + 1 : Nat) : Int) from by unfold wrap64; omega]), ⟨by have := HLT.out; omega, rfl⟩, ⟨fun j hj h => ?_⟩, ⟨below_step HB.out hb'⟩⟩
          by_cases e : j = i
          · subst e; exact HQ.out
          · exact HN.out j hj (by omega)
    · have e_ : i = l.length := by have := HIQ.out; omega
      subst e_
      have hdec : decide ((l.length : Int) < (l.length : Int)) = false := decide_eq_false (by omega)
      have hdec2 : decide (l.length < l.length) = false := decide_eq_false hlt
      clear hlt HIQ
      go_wp2
      go_ret
      exact ⟨by rw [idxN_no (fun j hj => HN.out j hj hj)]; rfl, HB.out⟩
theorem idxN_any (p : Int → Bool) (l : List Int) : decide (idxN p l ≥ 0) = l.any p := by
  unfold idxN
  cases h : l.findIdx? p with
  | none =>
    rw [List.findIdx?_eq_none_iff] at h
    have : l.any p = false := List.any_eq_false.2 (fun x hx => by simp [h x hx])
    rw [this]; rfl
  | some i =>
    obtain ⟨hi, h1, _⟩ := List.findIdx?_eq_some_iff_getElem.1 h
    have : l.any p = true := List.any_eq_true.2 ⟨l[i], List.getElem_mem hi, h1⟩
    rw [this]
    exact decide_eq_true (by show (i : Int) ≥ 0; omega)
set_option maxHeartbeats 4000000 in
set_option maxRecDepth 100000 in
theorem any_calls (g : Nat) (lb : Array Value) (p : Int → Bool) (eg : ∀ args w, (callFunc g args).run Try.prog w = .ok (.enter g args) w) (w : World) (A : Option Addr) (c : Nat) (l : List Int) (hl : (Kd.int .i64).C w A l.length l) (hp : PrI g lb p l (fun _ => False) w) (hz : l.length ≤ 2000000) :
    Calls Try.prog 88 #[.slice A l.length c, .func (.func g) #[] lb] w fun e w' => e = .returned (.bool (l.any p)) ∧ Below w.heap.size w w' := by
  have HCALL := Aside0.mk (index_calls g lb p eg w A c l hl hp hz)
  have hx := idxN_any p l
  clear hl hp
  generalize idxN p l = q at HCALL hx
  generalize l.any p = r at hx ⊢
  go_enter Try.func88, Try.ntmps88
  go_wp2_with (go_at_call 98; refine HCALL.out.mono ?_; rintro e w' ⟨rfl, hb'⟩)
  go_ret
  exact ⟨by rw [← hx]; first | rfl | simp, hb'⟩
end Go.Proofs.Ytecaemebamhamaa.Lv
