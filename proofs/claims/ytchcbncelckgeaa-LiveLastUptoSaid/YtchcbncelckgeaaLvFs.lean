/- slices.IndexFunc and slices.ContainsFunc at exits and at makes, by any predicate. -/
import Derived.Test.YtchcbncelckgeaaLvPl
set_option linter.unusedVariables false
set_option linter.unusedSimpArgs false
namespace Go.Proofs.Ytchcbncelckgeaa.Lv
open Go.RowKit Go.Proofs.YtchcbncelckgeaaW.PrintWords Go.Proofs.YtchcbncelckgeaaW.PrintLast Go.Proofs.YtchcbncelckgeaaW.PrintMore Go.Proofs.Ytchcbncelckgeaa.PZ Go.Proofs.Ytchcbncelckgeaa.Hnd Go.Lib

def idxG {α : Type} (p : α → Bool) (l : List α) : Int := match l.findIdx? p with | some i => (i : Int) | none => -1
theorem idxG_at {α : Type} {p : α → Bool} {l : List α} {i : Nat} (hi : i < l.length) (h : p l[i] = true) (hb : ∀ j (hj : j < l.length), j < i → p l[j] = false) : idxG p l = (i : Int) := by
  unfold idxG
  have : l.findIdx? p = some i := List.findIdx?_eq_some_iff_getElem.2 ⟨hi, h, fun j hj => by rw [hb j (by omega) hj]; simp⟩
  rw [this]
theorem idxG_no {α : Type} {p : α → Bool} {l : List α} (hb : ∀ j (hj : j < l.length), p l[j] = false) : idxG p l = -1 := by
  unfold idxG
  have : l.findIdx? p = none := by
    rw [List.findIdx?_eq_none_iff]
    intro x hx
    obtain ⟨j, hj, rfl⟩ := List.getElem_of_mem hx
    exact hb j hj
  rw [this]
theorem idxG_any {α : Type} (p : α → Bool) (l : List α) : decide (idxG p l ≥ 0) = l.any p := by
  unfold idxG
  cases h : l.findIdx? p with
  | none =>
    rw [List.findIdx?_eq_none_iff] at h
    have : l.any p = false := List.any_eq_false.2 (fun x hx => by simp [h x hx])
    rw [this]; rfl
  | some i =>
    obtain ⟨hi, h1, _⟩ := List.findIdx?_eq_some_iff_getElem.1 h
    have : l.any p = true := List.any_eq_true.2 ⟨l[i], List.getElem_mem hi, h1⟩
    rw [this]
    exact decide_eq_true (by show (i : Int) ≥ 0; omega)
/-- What is asked of a predicate that is handed over, at each element of a list. -/
def PrX (g : Nat) (lb : Array Value) (p : TX → Bool) (l : List TX) (w : World) : Prop := ∀ W : World, Below w.heap.size w W → ∀ x ∈ l, ∀ A2 c2 A3 c3, Kd.C k34 W A2 x.f2.length x.f2 → x.f2.length ≤ c2 → Kd.C k46 W A3 x.f3.length x.f3 → x.f3.length ≤ c3 → Calls Try.prog g (#[.agg #[.int .i64 x.f0, .int .i64 x.f1, .slice A2 x.f2.length c2, .slice A3 x.f3.length c3]] ++ lb) W fun e w' => e = .returned (.bool (p x)) ∧ Below W.heap.size W w'
set_option maxHeartbeats 4000000 in
set_option maxRecDepth 100000 in
theorem indexX_calls (g : Nat) (lb : Array Value) (p : TX → Bool) (eg : ∀ args w, (callFunc g args).run Try.prog w = .ok (.enter g args) w) (w : World) (A : Option Addr) (c : Nat) (l : List TX) (hl : Kd.C k31 w A l.length l) (hp : PrX g lb p l w) (hz : l.length ≤ 2000000) :
    Calls Try.prog 85 #[.slice A l.length c, .func (.func g) #[] lb] w fun e w' => e = .returned (.int .i64 (idxG p l)) ∧ Below w.heap.size w w' := by
  have HL := Aside0.mk hl
  have HZ := Aside0.mk hz
  have HP := Aside0.mk hp
  clear hl hz hp
  go_enter Try.func85, Try.ntmps85
  go_wp2
  go_loopg [8] l.length (fun kq v8 W => ∃ i : Nat, v8 = .int .i64 (i : Int) ∧ Aside0 (i ≤ l.length ∧ kq = l.length - i) ∧ Aside0 (∀ j (hj : j < l.length), j < i → p l[j] = false) ∧ Aside0 (Below w.heap.size w W))
  case atStart => exact ⟨0, rfl, ⟨Nat.zero_le _, by omega⟩, ⟨fun j hj h => absurd h (Nat.not_lt_zero _)⟩, ⟨Below.refl _ _⟩⟩
  case round =>
    obtain ⟨i, rfl, HIQ, HN, HB⟩ := hrel
    by_cases hlt : i < l.length
    · have hi0 : (0 : Int) ≤ (i : Int) := by omega
      have hi1 : (i : Int) < (l.length : Int) := by omega
      obtain ⟨ad, A2, c2, A3, c3, e, x0, x1, x2, x3, hc2, hK2, hc3, hK3⟩ := at_T31 (Kd.C_below HL.out HB.out) (i : Int) (by omega) (by omega)
      have hrd : rd_T31 l (i : Int) = l[i] := by unfold rd_T31; rw [Int.toNat_natCast, List.getD_eq_getElem?_getD, List.getElem?_eq_getElem hlt]; rfl
      rw [hrd] at x0 x1 x2 x3 hc2 hK2 hc3 hK3
      rw [Int.toNat_natCast] at x0 x1 x2 x3
      subst e
      have hdec : decide ((i : Int) < (l.length : Int)) = true := decide_eq_true hi1
      have hdec2 : decide (i < l.length) = true := decide_eq_true hlt
      have HLT := Aside0.mk hlt
      have HCALL := Aside0.mk (HP.out wr HB.out l[i] (List.getElem_mem hlt) A2 c2 A3 c3 hK2 hc2 hK3 hc3)
      cases hq : p l[i] with
      | true =>
        have HQ := Aside0.mk hq
        rw [hq] at HCALL
        clear hc2 hK2 hc3 hK3 hrd
        generalize l[i] = y1 at x0 x1 x2 x3 HCALL
        clear hq
        go_wp2_with (go_at_fn g; refine HCALL.out.mono ?_; rintro e w' ⟨rfl, hb'⟩)
        go_ret
        exact ⟨by rw [idxG_at HLT.out HQ.out HN.out]; rfl, below_step HB.out hb'⟩
      | false =>
        have HQ := Aside0.mk hq
        rw [hq] at HCALL
        clear hc2 hK2 hc3 hK3 hrd
        generalize l[i] = y1 at x0 x1 x2 x3 HCALL
        clear hq
        go_wp2_with (go_at_fn g; refine HCALL.out.mono ?_; rintro e w' ⟨rfl, hb'⟩)
        go_roundg (l.length - (i + 1))
        case measure => have := HIQ.out; have := HLT.out; omega
        case rel =>
          refine ⟨i + 1, by first | rfl | (have := HLT.out; have := HZ.out; rw [show wrap64 ((i : Int) + 1) = ((i + 1 : Nat) : Int) from by unfold wrap64; omega]), ⟨by have := HLT.out; omega, rfl⟩, ⟨fun j hj h => ?_⟩, ⟨below_step HB.out hb'⟩⟩
          by_cases e : j = i
          · subst e; exact HQ.out
          · exact HN.out j hj (by omega)
    · have e_ : i = l.length := by have := HIQ.out; omega
      subst e_
      have hdec : decide ((l.length : Int) < (l.length : Int)) = false := decide_eq_false (by omega)
      have hdec2 : decide (l.length < l.length) = false := decide_eq_false hlt
      clear hlt HIQ
      go_wp2
      go_ret
      exact ⟨by rw [idxG_no (fun j hj => HN.out j hj hj)]; rfl, HB.out⟩
set_option maxHeartbeats 4000000 in
set_option maxRecDepth 100000 in
theorem anyX_calls (g : Nat) (lb : Array Value) (p : TX → Bool) (eg : ∀ args w, (callFunc g args).run Try.prog w = .ok (.enter g args) w) (w : World) (A : Option Addr) (c : Nat) (l : List TX) (hl : Kd.C k31 w A l.length l) (hp : PrX g lb p l w) (hz : l.length ≤ 2000000) :
    Calls Try.prog 76 #[.slice A l.length c, .func (.func g) #[] lb] w fun e w' => e = .returned (.bool (l.any p)) ∧ Below w.heap.size w w' := by
  have HCALL := Aside0.mk (indexX_calls g lb p eg w A c l hl hp hz)
  have hx := idxG_any p l
  clear hl hp
  generalize idxG p l = q at HCALL hx
  generalize l.any p = r at hx ⊢
  go_enter Try.func76, Try.ntmps76
  go_wp2_with (go_at_call 85; refine HCALL.out.mono ?_; rintro e w' ⟨rfl, hb'⟩)
  go_ret
  exact ⟨by rw [← hx]; first | rfl | simp, hb'⟩
/-- What is asked of a predicate that is handed over, at each element of a list. -/
def PrM (g : Nat) (lb : Array Value) (p : TM → Bool) (l : List TM) (w : World) : Prop := ∀ W : World, Below w.heap.size w W → ∀ x ∈ l, ∀ A3 c3, (Kd.int .i64).C W A3 x.f3.length x.f3 → x.f3.length ≤ c3 → Calls Try.prog g (#[.agg #[.int .i64 x.f0, .int .i64 x.f1, .int .i64 x.f2, .slice A3 x.f3.length c3]] ++ lb) W fun e w' => e = .returned (.bool (p x)) ∧ Below W.heap.size W w'
set_option maxHeartbeats 4000000 in
set_option maxRecDepth 100000 in
theorem indexM_calls (g : Nat) (lb : Array Value) (p : TM → Bool) (eg : ∀ args w, (callFunc g args).run Try.prog w = .ok (.enter g args) w) (w : World) (A : Option Addr) (c : Nat) (l : List TM) (hl : Kd.C k46 w A l.length l) (hp : PrM g lb p l w) (hz : l.length ≤ 2000000) :
    Calls Try.prog 91 #[.slice A l.length c, .func (.func g) #[] lb] w fun e w' => e = .returned (.int .i64 (idxG p l)) ∧ Below w.heap.size w w' := by
  have HL := Aside0.mk hl
  have HZ := Aside0.mk hz
  have HP := Aside0.mk hp
  clear hl hz hp
  go_enter Try.func91, Try.ntmps91
  go_wp2
  go_loopg [8] l.length (fun kq v8 W => ∃ i : Nat, v8 = .int .i64 (i : Int) ∧ Aside0 (i ≤ l.length ∧ kq = l.length - i) ∧ Aside0 (∀ j (hj : j < l.length), j < i → p l[j] = false) ∧ Aside0 (Below w.heap.size w W))
  case atStart => exact ⟨0, rfl, ⟨Nat.zero_le _, by omega⟩, ⟨fun j hj h => absurd h (Nat.not_lt_zero _)⟩, ⟨Below.refl _ _⟩⟩
  case round =>
    obtain ⟨i, rfl, HIQ, HN, HB⟩ := hrel
    by_cases hlt : i < l.length
    · have hi0 : (0 : Int) ≤ (i : Int) := by omega
      have hi1 : (i : Int) < (l.length : Int) := by omega
      obtain ⟨ad, A3, c3, e, x0, x1, x2, x3, hc3, hK3⟩ := at_T46 (Kd.C_below HL.out HB.out) (i : Int) (by omega) (by omega)
      have hrd : rd_T46 l (i : Int) = l[i] := by unfold rd_T46; rw [Int.toNat_natCast, List.getD_eq_getElem?_getD, List.getElem?_eq_getElem hlt]; rfl
      rw [hrd] at x0 x1 x2 x3 hc3 hK3
      rw [Int.toNat_natCast] at x0 x1 x2 x3
      subst e
      have hdec : decide ((i : Int) < (l.length : Int)) = true := decide_eq_true hi1
      have hdec2 : decide (i < l.length) = true := decide_eq_true hlt
      have HLT := Aside0.mk hlt
      have HCALL := Aside0.mk (HP.out wr HB.out l[i] (List.getElem_mem hlt) A3 c3 hK3 hc3)
      cases hq : p l[i] with
      | true =>
        have HQ := Aside0.mk hq
        rw [hq] at HCALL
        clear hc3 hK3 hrd
        generalize l[i] = y1 at x0 x1 x2 x3 HCALL
        clear hq
        go_wp2_with (go_at_fn g; refine HCALL.out.mono ?_; rintro e w' ⟨rfl, hb'⟩)
        go_ret
        exact ⟨by rw [idxG_at HLT.out HQ.out HN.out]; rfl, below_step HB.out hb'⟩
      | false =>
        have HQ := Aside0.mk hq
        rw [hq] at HCALL
        clear hc3 hK3 hrd
        generalize l[i] = y1 at x0 x1 x2 x3 HCALL
        clear hq
        go_wp2_with (go_at_fn g; refine HCALL.out.mono ?_; rintro e w' ⟨rfl, hb'⟩)
        go_roundg (l.length - (i + 1))
        case measure => have := HIQ.out; have := HLT.out; omega
        case rel =>
          refine ⟨i + 1, by first | rfl | (have := HLT.out; have := HZ.out; rw [show wrap64 ((i : Int) + 1) = ((i + 1 : Nat) : Int) from by unfold wrap64; omega]), ⟨by have := HLT.out; omega, rfl⟩, ⟨fun j hj h => ?_⟩, ⟨below_step HB.out hb'⟩⟩
          by_cases e : j = i
          · subst e; exact HQ.out
          · exact HN.out j hj (by omega)
    · have e_ : i = l.length := by have := HIQ.out; omega
      subst e_
      have hdec : decide ((l.length : Int) < (l.length : Int)) = false := decide_eq_false (by omega)
      have hdec2 : decide (l.length < l.length) = false := decide_eq_false hlt
      clear hlt HIQ
      go_wp2
      go_ret
      exact ⟨by rw [idxG_no (fun j hj => HN.out j hj hj)]; rfl, HB.out⟩
set_option maxHeartbeats 4000000 in
set_option maxRecDepth 100000 in
theorem anyM_calls (g : Nat) (lb : Array Value) (p : TM → Bool) (eg : ∀ args w, (callFunc g args).run Try.prog w = .ok (.enter g args) w) (w : World) (A : Option Addr) (c : Nat) (l : List TM) (hl : Kd.C k46 w A l.length l) (hp : PrM g lb p l w) (hz : l.length ≤ 2000000) :
    Calls Try.prog 86 #[.slice A l.length c, .func (.func g) #[] lb] w fun e w' => e = .returned (.bool (l.any p)) ∧ Below w.heap.size w w' := by
  have HCALL := Aside0.mk (indexM_calls g lb p eg w A c l hl hp hz)
  have hx := idxG_any p l
  clear hl hp
  generalize idxG p l = q at HCALL hx
  generalize l.any p = r at hx ⊢
  go_enter Try.func86, Try.ntmps86
  go_wp2_with (go_at_call 91; refine HCALL.out.mono ?_; rintro e w' ⟨rfl, hb'⟩)
  go_ret
  exact ⟨by rw [← hx]; first | rfl | simp, hb'⟩
end Go.Proofs.Ytchcbncelckgeaa.Lv
