/- slices.Backward of a row of ints: its contract. -/
import Derived.Test.YtoleplbmkdhgeaaOwnAw
import Derived.RangeFuncNested
import Derived.RangeFuncBound
import Derived.RangeFuncCalls
import Derived.RangeFuncLeaves
import Derived.Shelf.Abstract
import Derived.Shelf.RegionOpen
import Derived.WalkKit
import Derived.OwnWalkIn
import Derived.TacticsInMore
import Derived.LoopNIn
import Derived.LoopIn
import Derived.OrdersIn
set_option linter.unusedVariables false
set_option linter.unusedSimpArgs false
namespace Go.Proofs.Ytoleplbmkdhgeaa.Own
open Go.RowKit Go.Shelf Go.Proofs.YtoleplbmkdhgeaaW.PrintWords Go.Proofs.YtoleplbmkdhgeaaW.PrintLast Go.Proofs.YtoleplbmkdhgeaaW.PrintMore Go.Proofs.Ytoleplbmkdhgeaa.PN Go.Proofs.Ytoleplbmkdhgeaa.Hnd Go.Lib Go.Proofs.Ytoleplbmkdhgeaa.Chk
attribute [local go_sem] Oper.semAt_some

/-- What a round is handed: the place, and what lies there, from the last one on. -/
def bEnc (l : List Int) (j : Fin l.length) : Array Value := #[.int .i64 ((l.length : Int) - 1 - (j.1 : Int)), .int .i64 (l[l.length - 1 - j.1]'(by have := j.2; omega))]
/-- The first k rounds. -/
def bTo (m k : Nat) : List (Fin m) := (List.finRange m).take k
theorem bTo_len {m k : Nat} (h : k ≤ m) : (bTo m k).length = k := by unfold bTo; rw [List.length_take, List.length_finRange]; omega
theorem bTo_succ {m k : Nat} (h : k < m) : bTo m (k + 1) = bTo m k ++ [⟨k, h⟩] := by
  unfold bTo
  rw [List.take_succ_eq_append_getElem (by simpa using h)]
  simp
/-- What a round keeps: the row's box, and what is older. -/
def bKp (n₀ Bs : Nat) (W W' : World) : Prop := W'.heap[Bs]? = W.heap[Bs]? ∧ Below n₀ W W'
theorem bKp_t {n₀ Bs : Nat} {A B C : World} (h : bKp n₀ Bs A B) (k : bKp n₀ Bs B C) : bKp n₀ Bs A C := ⟨k.1.trans h.1, h.2.trans k.2⟩
theorem bKp_b {n₀ Bs : Nat} {w : World} (hn : n₀ ≤ w.heap.size) (hB : Bs < w.heap.size) (W : World) (l : Nat) (o o' : Obj) (hl : w.heap.size ≤ l) (h : W.heap[l]? = some o) (h1 : o.isCells = false) (h2 : o.isWalk = false) : bKp n₀ Bs W (W.putObj l o') :=
  ⟨World.putObj_heap_other (by omega), belowK_b hn W l o o' hl h h1 h2⟩
set_option maxRecDepth 100000 in
set_option maxHeartbeats 4000000 in
theorem back1_in (F : Fence) (n : Nat) (hF : F.fn 66) (hro : F.round = none) (hn : 1 ≤ n) (y Bs : Nat) (w0 : World) (A : Option Addr) (cap : Nat) (l : List Int) (hl : (Kd.int .i64).C w0 A l.length l) (hz : l.length ≤ 1000000) (J Jx : List (Fin l.length) → World → Prop)
    (hY : ∀ pre x W, J pre W → pre.length < l.length → YieldAt F (n - 1) Try.prog y (bEnc l x) W fun e W' =>
      (e = .returned (.bool true) ∧ J (pre ++ [x]) W' ∧ bKp w0.heap.size Bs W W') ∨ (e = .returned (.bool false) ∧ Jx (pre ++ [x]) W'))
    (W : World) (hb : Below w0.heap.size w0 W) (hc : W.heap[Bs]? = some (.cells #[.slice A l.length cap] 23 (0, 0))) (h0 : J [] W) :
    CallsIn F n Try.prog 66 #[.func (.yield y) #[] #[], .pointer (some ⟨Bs, 0, none⟩)] W fun e W' => (∃ v, e = .returned v) ∧
      ((∃ ys, ys = List.finRange l.length ∧ J ys W') ∨ (∃ pre, True ∧ Jx pre W')) := by
  refine callsIn_of_wp Try.func66 rfl hF ?_ hro
  simp only [Try.ntmps66, List.size_toArray, List.length_cons, List.length_nil, Nat.reduceAdd, Nat.reduceSub, Array.replicate_succ, Array.replicate_zero, List.push_toArray, List.append_toArray, List.nil_append, List.cons_append]
  have hc0 : W.cell? ⟨Bs, 0, none⟩ = some (.slice A l.length cap) := (blk_cell hc 0).trans rfl
  have HW0 : wrap64 ((l.length : Int) - 1) = (l.length : Int) - 1 := by unfold wrap64; omega
  gi_wp2
  gi_loopw [3] (fun i wr => ∃ k : Nat, k ≤ l.length ∧ i = .int .i64 ((l.length : Int) - 1 - (k : Int)) ∧ J (bTo l.length k) wr ∧ wr.heap[Bs]? = some (.cells #[.slice A l.length cap] 23 (0, 0)) ∧ Below w0.heap.size w0 wr)
    (fun i _ => (RowKit.intOf i + 1).toNat)
  case atStart => exact ⟨0, Nat.zero_le _, by simp [HW0], by simpa [bTo] using h0, hc, hb⟩
  case round =>
    obtain ⟨k, hk, rfl, hJs, hbx, hnx⟩ := hrel
    by_cases hlt : k < l.length
    · obtain ⟨fn, tmps, assign, body, hy, hR⟩ := hY _ ⟨k, hlt⟩ wr hJs (by rw [bTo_len hk]; exact hlt)
      dsimp only [bEnc] at hy
      have hc1 : wr.cell? ⟨Bs, 0, none⟩ = some (.slice A l.length cap) := (blk_cell hbx 0).trans rfl
      obtain ⟨ad, e, hx⟩ := Kd.at_int (Kd.C_below hl hnx) ((l.length : Int) - 1 - (k : Int)) (by omega) (by omega)
      have et : ((l.length : Int) - 1 - (k : Int)).toNat = l.length - 1 - k := by omega
      have e2 : (l.length : Int) - 1 - (k : Int) = ((l.length - 1 - k : Nat) : Int) := by omega
      rw [et] at hx
      rw [show rd l ((l.length : Int) - 1 - (k : Int)) = l[l.length - 1 - k]'(by omega) from by rw [e2]; exact rdI l _ _] at hx
      subst e
      generalize l[l.length - 1 - k]'(by omega) = v at hx hy
      have hg0 : decide ((l.length : Int) - 1 - (k : Int) ≥ 0) = true := decide_eq_true (by omega)
      have hg1 : decide (0 ≤ (l.length : Int) - 1 - (k : Int)) = true := hg0
      clear et e2
      gi_wp2
      refine hR.mono ?_
      rintro e W3 (⟨rfl, hJ3, hk3⟩ | ⟨rfl, hJx3⟩)
      · gi_wp2
        go_roundw
        case rel => exact ⟨k + 1, by omega, by simp; omega, by rw [bTo_succ hlt]; exact hJ3, hk3.1.trans hbx, hnx.trans hk3.2⟩
        case measure => simp [RowKit.intOf, wrap64]; omega
      · gi_wp2
        refine bodyPost_ret (results_none rfl _ _ _) rfl ?_
        exact ⟨⟨_, rfl⟩, .inr ⟨_, trivial, hJx3⟩⟩
    · obtain rfl : k = l.length := by omega
      have hg0 : decide ((l.length : Int) - 1 - (l.length : Int) ≥ 0) = false := decide_eq_false (by omega)
      have hg1 : decide (0 ≤ (l.length : Int) - 1 - (l.length : Int)) = false := hg0
      gi_wp2
      go_end0
      exact ⟨⟨_, rfl⟩, .inl ⟨_, rfl, by have h_ := hJs; rw [bTo, List.take_of_length_le (by simp)] at h_; exact h_⟩⟩
theorem back_in (F : Fence) (n : Nat) (hF : F.fn 59) (hro : F.round = none) (A : Option Addr) (len cap : Nat) (w : World) :
    CallsIn F n Try.prog 59 #[.slice A len cap] w fun e w' => e = .returned (.func (.func 66) #[] #[.pointer (some ⟨w.heap.size, 0, none⟩)]) ∧ w' = w.alloc (.cells #[.slice A len cap] 23) := by
  refine callsIn_of_wp Try.func59 rfl hF ?_ hro
  simp only [Try.ntmps59, List.size_toArray, List.length_cons, List.length_nil, Nat.reduceAdd, Nat.reduceSub, Array.replicate_succ, Array.replicate_zero, List.push_toArray, List.append_toArray, List.nil_append, List.cons_append]
  gi_wp2
  go_ret
  exact ⟨rfl, rfl⟩
theorem back_stops (F : Fence) (n : Nat) (hF : F.fn 66) (hro : F.round = none) (hn : 1 ≤ n) (Bs : Nat) (w0 w1 : World) (A : Option Addr) (cap : Nat) (l : List Int) (hl : (Kd.int .i64).C w0 A l.length l) (hz : l.length ≤ 1000000) (hb : Below w0.heap.size w0 w1) (hc : w1.heap[Bs]? = some (.cells #[.slice A l.length cap] 23 (0, 0))) :
    SeqStopsK F n Try.prog 66 #[.pointer (some ⟨Bs, 0, none⟩)] (bEnc l) (bKp w0.heap.size Bs) (fun ys => ys = List.finRange l.length) (fun _ => True) l.length w1 := fun y J Jx W hW _ _ hY h0 =>
  back1_in F n hF hro hn y Bs w0 A cap l hl hz J Jx hY W (below_step hb hW) (blk_below hc hW) h0
end Go.Proofs.Ytoleplbmkdhgeaa.Own
/- A region that draws its order, within a round of a loop over a function, by the walk that serves outside of one. -/
namespace Go.Proofs.Ytoleplbmkdhgeaa.Own
open Go.RowKit Go.Shelf Go.Proofs.YtoleplbmkdhgeaaW.PrintWords Go.Proofs.YtoleplbmkdhgeaaW.PrintLast Go.Proofs.YtoleplbmkdhgeaaW.PrintMore Go.Proofs.Ytoleplbmkdhgeaa.PN Go.Proofs.Ytoleplbmkdhgeaa.Hnd Go.Lib Go.Proofs.Ytoleplbmkdhgeaa.Chk

def noDefer (ops : Array Oper) : Bool := ops.all fun o => match o.op with | .defer _ => false | _ => true
theorem noDefer_at {ops : Array Oper} (h : noDefer ops = true) {i : Nat} {o : Oper} (ho : ops[i]? = some o) : ∀ c, o.op ≠ .defer c := by
  intro c e
  have h1 := Array.all_eq_true_iff_forall_mem.1 h o (Array.mem_of_getElem? ho)
  rw [e] at h1
  simp at h1
theorem wp_round {l n : Nat} {P : Program} {o : Oper} {a : Go.Act} {w : World} {K : Go.Act → World → Prop} {Q : Exit → Go.Act → World → Prop} (hd : ∀ c, o.op ≠ .defer c) (h : o.wp P a w K Q) : o.wpIn (Fence.wide.inRound l) n P a w K Q := by
  unfold Oper.wpIn
  refine ⟨fun f _ => trivial, ?_⟩
  rw [Fence.inRound_round, Oper.semAt_some l _ _ hd]
  unfold Oper.wp at h
  generalize (execOp a.eval o).run P w = r at h ⊢
  cases r with
  | ok x w' =>
    cases x with
    | value v => exact h
    | skip => exact h
    | defer d => exact h
    | enter f args => exact ⟨fun q => absurd q (by simp [Fence.wide]), (callsIn_wide (n := n - 1)).2 h⟩
    | row row args =>
      refine ⟨fun q => absurd q (by simp [Fence.wide]), fun c cs _ => ?_⟩
      obtain ⟨v, w2, hr, hs⟩ := h c cs
      exact ⟨v, w2, hr, stepsIn_wide.2 hs⟩
    | _ => exact h.elim
  | halt x w' =>
    cases x with
    | panic v => exact h
    | _ => exact h.elim
theorem any_round {l n : Nat} {P : Program} {md : Region.Mode} {ops : Array Oper} {Q : Exit → Go.Act → World → Prop} (hd : noDefer ops = true) (hQ : ¬ LetsOut Q) : ∀ (fuel : Nat) (listed : Array Bool) (a : Go.Act) (w : World), wpAny P md ops Q fuel listed a w → wpAnyIn (Fence.wide.inRound l) n P md ops Q fuel listed a w
  | 0, _, _, _, h => h
  | fuel + 1, listed, a, w, h => ⟨h.1, fun i hi => by
    have h1 := h.2 i hi
    unfold wpOp at h1
    unfold wpOpIn
    cases ho : ops[i]? with
    | none => rw [ho] at h1; exact any_round hd hQ fuel _ _ _ h1
    | some o =>
      rw [ho] at h1
      simp only at h1 ⊢
      by_cases hw : Region.wanted o (yielded ops a.tmps) = true
      · rw [if_pos hw] at h1 ⊢
        rcases h1 with h1 | h1
        · exact Oper.wpIn_mono (fun a w h => any_round hd hQ fuel _ a w h) (wp_round (noDefer_at hd ho) h1)
        · exact absurd h1.2 hQ
      · rw [if_neg hw] at h1 ⊢
        exact ⟨fun f _ => trivial, any_round hd hQ fuel _ _ _ h1⟩⟩
theorem start_in {P : Program} {ops : Array Oper} {Q : Exit → Go.Act → World → Prop} {S : World → Prop} {ds : List Nat} {id n y m : Nat} {a : Go.Act} {w : World} (hd : noDefer ops = true) (hQ : ¬ LetsOut Q) (l : Array Bool) (hm : P.follows .mixedOrders = true) (hn : ops.size = n) (hl : Array.replicate n false = l) (hS : S w.drew)
    (h : S w.drew → wpAnyLast P .any ops Q S ds n l a w.drew) : (Code.region id ops true).wpIn (Fence.wide.inRound y) m P Q a w := by
  subst hn
  subst hl
  exact wpIn_region_any hm (any_round hd hQ _ _ _ _ (wpAny_of_last _ _ _ _ (h hS)))
end Go.Proofs.Ytoleplbmkdhgeaa.Own
