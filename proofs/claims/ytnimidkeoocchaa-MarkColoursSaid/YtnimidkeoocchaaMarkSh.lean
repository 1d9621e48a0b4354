/- Package mark: New, Marking, shade. -/
import Derived.Test.YtnimidkeoocchaaMarkSt
import Derived.Deep.DeepCutAuto
set_option linter.unusedVariables false
set_option linter.unusedSimpArgs false
namespace Go.Proofs.Ytnimidkeoocchaa.Mrk
open Go.RowKit Go.Proofs.YtnimidkeoocchaaW.PrintWords Go.Proofs.YtnimidkeoocchaaW.PrintLast Go.Proofs.YtnimidkeoocchaaW.PrintMore Go.Proofs.Ytnimidkeoocchaa.PK Go.Proofs.Ytnimidkeoocchaa.Hnd

def thAt (l : List Th) (n : Nat) : Th := l.getD n z78
theorem thAt_eq {l : List Th} {n : Nat} (h : n < l.length) : thAt l n = l[n] := by unfold thAt; rw [List.getD_eq_getElem?_getD, List.getElem?_eq_getElem h]; rfl
def setC (l : List Th) (n : Nat) (c : Int) : List Th := l.set n ⟨(thAt l n).f0, c, (thAt l n).f2⟩
def setH (l : List Th) (n : Nat) (b : Bool) : List Th := l.set n ⟨(thAt l n).f0, (thAt l n).f1, b⟩
def shadeL (mk : Bool) (n : Int) (l : List Th) : List Th := if mk = true ∧ 0 ≤ n ∧ (thAt l n.toNat).f1 = 0 then setC l n.toNat 1 else l
theorem setC_len (l : List Th) (n : Nat) (c : Int) : (setC l n c).length = l.length := by simp [setC]
theorem setH_len (l : List Th) (n : Nat) (c : Bool) : (setH l n c).length = l.length := by simp [setH]
theorem shadeL_len (mk : Bool) (n : Int) (l : List Th) : (shadeL mk n l).length = l.length := by unfold shadeL; split <;> simp [setC]
theorem MS.setC {W : World} {ok : Nat → Prop} {g : Nat} {kind : Int} {mk : Bool} {ps : List Value} {l : List Th} {q cap : Nat} (h : MS W ok g kind mk (.slice (some ⟨q, 0, none⟩) l.length cap) ps l) (i : Nat) (hi : i < l.length) (c : Int) :
    MS (W.setCell ⟨q, i * 3 + 1, none⟩ (.int .i64 c)) ok g kind mk (.slice (some ⟨q, 0, none⟩) l.length cap) ps (setC l i c) := by
  unfold Mrk.setC; rw [thAt_eq hi]; exact h.colour i hi c
theorem MS.setH {W : World} {ok : Nat → Prop} {g : Nat} {kind : Int} {mk : Bool} {ps : List Value} {l : List Th} {q cap : Nat} (h : MS W ok g kind mk (.slice (some ⟨q, 0, none⟩) l.length cap) ps l) (i : Nat) (hi : i < l.length) (c : Bool) :
    MS (W.setCell ⟨q, i * 3 + 2, none⟩ (.bool c)) ok g kind mk (.slice (some ⟨q, 0, none⟩) l.length cap) ps (setH l i c) := by
  unfold Mrk.setH; rw [thAt_eq hi]; exact h.holds i hi c
set_option maxHeartbeats 8000000 in
set_option maxRecDepth 100000 in
theorem new_calls (w : World) (kind : Int) (hk : kind = 1 ∨ kind = 2) :
    Calls Try.prog 25 #[.int .i64 kind] w fun e w' => e = .returned (.tuple #[.pointer (some ⟨w.heap.size, 0, none⟩), .int .i64 0]) ∧ MS w' (fun k => k = w.heap.size) w.heap.size kind false (.slice none 0 0) [] [] ∧ Below w.heap.size w w' := by
  rcases hk with rfl | rfl
  all_goals
    go_enter Try.func25, Try.ntmps25
    go_wp2
    go_ret2
    refine ⟨by simp, ⟨rfl, by first | exact blk_new _ _ | (simp; done), World.ownsRow_nil _ _ _ _, rfl, fun i hi => absurd hi (Nat.not_lt_zero _), fun k hk => by simp [Value.ownBlock] at hk, fun p hp => by simp at hp, fun i j hi => absurd hi (Nat.not_lt_zero _)⟩, by repeat (first | exact Below.refl _ _ | apply below_alloc | apply pw_below_drewN | apply below_drew1)⟩
set_option maxHeartbeats 8000000 in
set_option maxRecDepth 100000 in
theorem marking_calls (w : World) {ok : Nat → Prop} {g : Nat} {kind : Int} {mk : Bool} {v : Value} {ps : List Value} {l : List Th} (h : MS w ok g kind mk v ps l) :
    Calls Try.prog 28 #[.pointer (some ⟨g, 0, none⟩)] w fun e w' => e = .returned (.bool mk) ∧ Below w.heap.size w w' := by
  have c1 := h.c1
  have HM := Aside0.mk h
  clear h
  go_enter Try.func28, Try.ntmps28
  go_wp2
  go_ret
  exact ⟨by simp, by repeat (first | exact Below.refl _ _ | apply below_alloc | apply pw_below_drewN | apply below_drew1)⟩
set_option maxHeartbeats 8000000 in
set_option maxRecDepth 100000 in
theorem shade_calls (w : World) {ok : Nat → Prop} {g : Nat} {kind : Int} {mk : Bool} {v : Value} {ps : List Value} {l : List Th} (n : Int) (h : MS w ok g kind mk v ps l) (hn : n < l.length) :
    Calls Try.prog 73 #[.pointer (some ⟨g, 0, none⟩), .int .i64 n] w fun e w' => e = .returned (.tuple #[]) ∧ MS w' ok g kind mk v ps (shadeL mk n l) ∧ Fr ok w w' := by
  have c1 := h.c1
  have c2 := h.c2
  cases mk with
  | false =>
    have HE : Aside0 (shadeL false n l = l) := ⟨by unfold shadeL; simp⟩
    have HM := Aside0.mk h
    clear h c2
    go_enter Try.func73, Try.ntmps73
    go_wp2
    go_end0
    rw [HE.out]
    exact ⟨by simp, HM.out.below (by repeat (first | exact Below.refl _ _ | apply below_alloc | apply pw_below_drewN | apply below_drew1)), Fr.of_below (by repeat (first | exact Below.refl _ _ | apply below_alloc | apply pw_below_drewN | apply below_drew1))⟩
  | true =>
    by_cases h0 : 0 ≤ n
    · obtain ⟨m, rfl⟩ : ∃ m : Nat, n = m := ⟨n.toNat, by omega⟩
      have hm : m < l.length := by omega
      obtain ⟨q, cap, rfl⟩ := h.vform (by omega)
      obtain ⟨x0, x1, x2⟩ := h.cells m hm
      have hz := h.vz (m * 3 + 1)
      have hqo := h.vok q rfl
      have hd : decide (0 ≤ (m : Int)) = true := decide_eq_true h0
      have hmi : (m : Int) < (l.length : Int) := by omega
      have HM := Aside0.mk h
      have HQO := Aside0.mk hqo
      have HML := Aside0.mk hm
      by_cases hc : l[m].f1 = 0
      · have HE : Aside0 (shadeL true m l = setC l m 1) := ⟨by unfold shadeL; rw [if_pos ⟨rfl, h0, by rw [Int.toNat_natCast, thAt_eq hm, hc]⟩, Int.toNat_natCast]⟩
        rw [hc] at x1
        clear x0 x2 hqo hc h
        go_enter Try.func73, Try.ntmps73
        go_wp2
        go_end0
        rw [HE.out]
        exact ⟨by simp, MS.setC HM.out m HML.out 1, (Fr.refl ok w).set (.inl HQO.out) _⟩
      · have HE : Aside0 (shadeL true m l = l) := ⟨by unfold shadeL; rw [if_neg (by rw [Int.toNat_natCast, thAt_eq hm]; exact fun e => hc e.2.2)]⟩
        have hb : (l[m].f1 == 0) = false := by simpa using hc
        generalize l[m].f1 = y at x1 hb
        clear x0 x2 hqo hc h
        go_enter Try.func73, Try.ntmps73
        go_wp2
        go_end0
        rw [HE.out]
        exact ⟨by simp, HM.out.below (by repeat (first | exact Below.refl _ _ | apply below_alloc | apply pw_below_drewN | apply below_drew1)), Fr.of_below (by repeat (first | exact Below.refl _ _ | apply below_alloc | apply pw_below_drewN | apply below_drew1))⟩
    · have hd : decide (0 ≤ n) = false := decide_eq_false h0
      have HE : Aside0 (shadeL true n l = l) := ⟨by unfold shadeL; rw [if_neg (fun e => h0 e.2.1)]⟩
      have HM := Aside0.mk h
      clear h c2
      go_enter Try.func73, Try.ntmps73
      go_wp2
      go_end0
      rw [HE.out]
      exact ⟨by simp, HM.out.below (by repeat (first | exact Below.refl _ _ | apply below_alloc | apply pw_below_drewN | apply below_drew1)), Fr.of_below (by repeat (first | exact Below.refl _ _ | apply below_alloc | apply pw_below_drewN | apply below_drew1))⟩
end Go.Proofs.Ytnimidkeoocchaa.Mrk
