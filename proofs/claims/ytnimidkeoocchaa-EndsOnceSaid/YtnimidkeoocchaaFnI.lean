/- slices.IndexFunc, slices.ContainsFunc and slices.DeleteFunc at ints, by any predicate. -/
import Derived.Test.YtnimidkeoocchaaHand
import Derived.Test.YtnimidkeoocchaaPE0
import Derived.Shelf.Abstract
import Derived.Deep.DeepCutAuto
import Derived.Lib.SliceRun
set_option linter.unusedVariables false
set_option linter.unusedSimpArgs false
namespace Go.Proofs.Ytnimidkeoocchaa.Fni
open Go.RowKit Go.Proofs.YtnimidkeoocchaaW.PrintWords Go.Proofs.YtnimidkeoocchaaW.PrintLast Go.Proofs.YtnimidkeoocchaaW.PrintMore Go.Proofs.Ytnimidkeoocchaa.PE Go.Proofs.Ytnimidkeoocchaa.Hnd Go.Lib

theorem own_sameH {w w' : World} {base : Nat} {e : TypeId} {size : Nat} {v : Value} {n : Nat} {xs : List Value} (h : w.ownsRow base e size v n xs) (hs : ∀ k, v.ownBlock = some k → w'.heap[k]? = w.heap[k]?) : w'.ownsRow base e size v n xs := by
  refine ⟨h.1, ?_⟩
  rcases h.2 with hn | ⟨g, cap, cur, rfl, hb, hgg, rest⟩
  · exact .inl hn
  · exact .inr ⟨g, cap, cur, rfl, hb, (hs g rfl).trans hgg, rest⟩
theorem own_tyH {w : World} {base : Nat} {e : TypeId} {size : Nat} {v : Value} {n : Nat} {xs : List Value} (h : w.ownsRow base e size v n xs) : ∀ k, v.ownBlock = some k → ∃ cur, w.heap[k]? = some (.cells cur e (0, 0)) := by
  intro k hk
  rcases h.2 with ⟨rfl, _⟩ | ⟨g, cap, cur, rfl, hb, hgg, rest⟩
  · simp [Value.ownBlock] at hk
  · simp [Value.ownBlock] at hk
    subst hk
    exact ⟨cur, hgg⟩
theorem own_nthH {w : World} {base : Nat} {e : TypeId} {size : Nat} {v : Value} {n : Nat} {xs : List Value} (h : w.ownsRow base e size v n xs) (hn : 0 < n) : ∃ g cap, v = .slice (some ⟨g, 0, none⟩) n cap := by
  rcases h.2 with ⟨_, h0⟩ | ⟨g, cap, cur, rfl, _⟩
  · omega
  · exact ⟨g, cap, rfl⟩
theorem own_shapeH {w : World} {base : Nat} {e : TypeId} {size : Nat} {v : Value} {n : Nat} {xs : List Value} (h : w.ownsRow base e size v n xs) : ∃ A cap, v = .slice A n cap ∧ n ≤ cap := by
  rcases h.2 with ⟨rfl, rfl⟩ | ⟨g, cap, cur, rfl, _, _, hc, _⟩
  · exact ⟨none, 0, rfl, Nat.le_refl _⟩
  · exact ⟨_, cap, rfl, hc⟩
/-- What is asked of a predicate that is handed over: of each number of a list it tells p, wherever memory is as it was, but for S. -/
def PrI (g : Nat) (lb : Array Value) (p : Int → Bool) (l : List Int) (S : Nat → Prop) (w : World) : Prop := ∀ W : World, w.heap.size ≤ W.heap.size → (∀ k, k < w.heap.size → ¬ S k → W.heap[k]? = w.heap[k]?) → ∀ x ∈ l, Calls Try.prog g (#[.int .i64 x] ++ lb) W fun e w' => e = .returned (.bool (p x)) ∧ Below W.heap.size W w'
def idxN (p : Int → Bool) (l : List Int) : Int := match l.findIdx? p with | some i => (i : Int) | none => -1
theorem idxN_at {p : Int → Bool} {l : List Int} {i : Nat} (hi : i < l.length) (h : p l[i] = true) (hb : ∀ j (hj : j < l.length), j < i → p l[j] = false) : idxN p l = (i : Int) := by
  unfold idxN
  have : l.findIdx? p = some i := List.findIdx?_eq_some_iff_getElem.2 ⟨hi, h, fun j hj => by rw [hb j (by omega) hj]; simp⟩
  rw [this]
theorem idxN_no {p : Int → Bool} {l : List Int} (hb : ∀ j (hj : j < l.length), p l[j] = false) : idxN p l = -1 := by
  unfold idxN
  have : l.findIdx? p = none := by
    rw [List.findIdx?_eq_none_iff]
    intro x hx
    obtain ⟨j, hj, rfl⟩ := List.getElem_of_mem hx
    exact hb j hj
  rw [this]
theorem idxN_cases (p : Int → Bool) (l : List Int) : (idxN p l = -1 ∧ ∀ x ∈ l, p x = false) ∨ ∃ i, ∃ hi : i < l.length, idxN p l = (i : Int) ∧ p l[i] = true ∧ ∀ j (hj : j < l.length), j < i → p l[j] = false := by
  unfold idxN
  cases h : l.findIdx? p with
  | none =>
    rw [List.findIdx?_eq_none_iff] at h
    exact .inl ⟨rfl, fun x hx => by simpa using h x hx⟩
  | some i =>
    obtain ⟨hi, h1, h2⟩ := List.findIdx?_eq_some_iff_getElem.1 h
    exact .inr ⟨i, hi, rfl, h1, fun j hj hlt => by have := h2 j hlt; simpa using this⟩
theorem rdI {l : List Int} {i : Nat} (h : i < l.length) : rd l i = l[i] := by unfold rd; simp [List.getD_eq_getElem?_getD, h]
set_option maxHeartbeats 4000000 in
set_option maxRecDepth 100000 in
theorem index_calls (g : Nat) (lb : Array Value) (p : Int → Bool) (eg : ∀ args w, (callFunc g args).run Try.prog w = .ok (.enter g args) w) (w : World) (A : Option Addr) (c : Nat) (l : List Int) (hl : (Kd.int .i64).C w A l.length l) (hp : PrI g lb p l (fun _ => False) w) (hz : l.length ≤ 1000000) :
    Calls Try.prog 69 #[.slice A l.length c, .func (.func g) #[] lb] w fun e w' => e = .returned (.int .i64 (idxN p l)) ∧ Below w.heap.size w w' := by
  have HL := Aside0.mk hl
  have HZ := Aside0.mk hz
  have HP := Aside0.mk hp
  clear hl hz hp
  go_enter Try.func69, Try.ntmps69
  go_wp2
  go_loopg [8] l.length (fun kq v8 W => ∃ i : Nat, v8 = .int .i64 (i : Int) ∧ Aside0 (i ≤ l.length ∧ kq = l.length - i) ∧ Aside0 (∀ j (hj : j < l.length), j < i → p l[j] = false) ∧ Aside0 (Below w.heap.size w W))
  case atStart => exact ⟨0, rfl, ⟨Nat.zero_le _, by omega⟩, ⟨fun j hj h => absurd h (Nat.not_lt_zero _)⟩, ⟨Below.refl _ _⟩⟩
  case round =>
    obtain ⟨i, rfl, HIQ, HN, HB⟩ := hrel
    by_cases hlt : i < l.length
    · have hi0 : (0 : Int) ≤ (i : Int) := by omega
      have hi1 : (i : Int) < (l.length : Int) := by omega
      obtain ⟨ad, e, hx⟩ := Kd.at_int (Kd.C_below HL.out HB.out) (i : Int) (by omega) (by omega)
      rw [Int.toNat_natCast, rdI hlt] at hx
      subst e
      have hdec : decide ((i : Int) < (l.length : Int)) = true := decide_eq_true hi1
      have hdec2 : decide (i < l.length) = true := decide_eq_true hlt
      have HLT := Aside0.mk hlt
      have HCALL := Aside0.mk (HP.out wr HB.out.size (fun k hk _ => HB.out.block k hk) l[i] (List.getElem_mem hlt))
      cases hq : p l[i] with
      | true =>
        have HQ := Aside0.mk hq
        rw [hq] at HCALL
        generalize l[i] = y1 at hx HCALL
        clear hq
        go_wp2_with (go_at_fn g; refine HCALL.out.mono ?_; rintro e w' ⟨rfl, hb'⟩)
        go_ret
        exact ⟨by rw [idxN_at HLT.out HQ.out HN.out]; rfl, below_step HB.out hb'⟩
      | false =>
        have HQ := Aside0.mk hq
        rw [hq] at HCALL
        generalize l[i] = y1 at hx HCALL
        clear hq
        go_wp2_with (go_at_fn g; refine HCALL.out.mono ?_; rintro e w' ⟨rfl, hb'⟩)
        go_roundg (l.length - (i + 1))
        case measure => have := HIQ.out; have := HLT.out; omega
        case rel =>
          refine ⟨i + 1, by first | rfl | (have := HLT.out; have := HZ.out; rw [show wrap64 ((i : Int) + 1) = ((i + 1 : Nat) : Int) from by unfold wrap64; omega]), ⟨by have := HLT.out; omega, rfl⟩, ⟨fun j hj h => ?_⟩, ⟨below_step HB.out hb'⟩⟩
          by_cases e : j = i
          · subst e; exact HQ.out
          · exact HN.out j hj (by omega)
    · have e_ : i = l.length := by have := HIQ.out; omega
      subst e_
      have hdec : decide ((l.length : Int) < (l.length : Int)) = false := decide_eq_false (by omega)
      have hdec2 : decide (l.length < l.length) = false := decide_eq_false hlt
      clear hlt HIQ
      go_wp2
      go_ret
      exact ⟨by rw [idxN_no (fun j hj => HN.out j hj hj)]; rfl, HB.out⟩
theorem idxN_any (p : Int → Bool) (l : List Int) : decide (idxN p l ≥ 0) = l.any p := by
  unfold idxN
  cases h : l.findIdx? p with
  | none =>
    rw [List.findIdx?_eq_none_iff] at h
    have : l.any p = false := List.any_eq_false.2 (fun x hx => by simp [h x hx])
    rw [this]; rfl
  | some i =>
    obtain ⟨hi, h1, _⟩ := List.findIdx?_eq_some_iff_getElem.1 h
    have : l.any p = true := List.any_eq_true.2 ⟨l[i], List.getElem_mem hi, h1⟩
    rw [this]
    exact decide_eq_true (by show (i : Int) ≥ 0; omega)
set_option maxHeartbeats 4000000 in
set_option maxRecDepth 100000 in
theorem any_calls (g : Nat) (lb : Array Value) (p : Int → Bool) (eg : ∀ args w, (callFunc g args).run Try.prog w = .ok (.enter g args) w) (w : World) (A : Option Addr) (c : Nat) (l : List Int) (hl : (Kd.int .i64).C w A l.length l) (hp : PrI g lb p l (fun _ => False) w) (hz : l.length ≤ 1000000) :
    Calls Try.prog 44 #[.slice A l.length c, .func (.func g) #[] lb] w fun e w' => e = .returned (.bool (l.any p)) ∧ Below w.heap.size w w' := by
  have HCALL := Aside0.mk (index_calls g lb p eg w A c l hl hp hz)
  have hx := idxN_any p l
  clear hl hp
  generalize idxN p l = q at HCALL hx
  generalize l.any p = r at hx ⊢
  go_enter Try.func44, Try.ntmps44
  go_wp2_with (go_at_call 69; refine HCALL.out.mono ?_; rintro e w' ⟨rfl, hb'⟩)
  go_ret
  exact ⟨by rw [← hx]; first | rfl | simp, hb'⟩
/-! ### DeleteFunc -/
structure Kept1 (q : Int → Bool) (l : List Int) (i j : Nat) (cur : List Int) : Prop where
  ij : i < j
  jn : j ≤ l.length
  len : cur.length = l.length
  front : cur.take i = (l.take j).filter q
  back : cur.drop j = l.drop j
theorem kept1_get {q : Int → Bool} {l cur : List Int} {i j : Nat} (h : Kept1 q l i j cur) (hj : j < l.length) : cur[j]'(by have := h.len; omega) = l[j] := by
  have h1 : (cur.drop j)[0]'(by rw [List.length_drop]; have := h.len; omega) = (l.drop j)[0]'(by rw [List.length_drop]; omega) := by simp only [h.back]
  simpa using h1
theorem kept1_drop {q : Int → Bool} {l cur : List Int} {i j : Nat} (h : Kept1 q l i j cur) (hj : j < l.length) (hx : q l[j] = false) : Kept1 q l i (j + 1) cur := by
  refine ⟨by have := h.ij; omega, hj, h.len, ?_, ?_⟩
  · rw [List.take_succ_eq_append_getElem hj, List.filter_append, h.front]; simp [hx]
  · rw [← List.drop_drop, h.back, List.drop_drop]
theorem kept1_keep {q : Int → Bool} {l cur : List Int} {i j : Nat} (h : Kept1 q l i j cur) (hj : j < l.length) (hx : q l[j] = true) : Kept1 q l (i + 1) (j + 1) (cur.set i l[j]) := by
  have hij := h.ij
  have hl := h.len
  refine ⟨by omega, hj, by simpa using hl, ?_, ?_⟩
  · have hi : i < cur.length := by omega
    rw [List.take_succ_eq_append_getElem (by simpa using hi), List.take_set_of_le (Nat.le_refl _), h.front, List.take_succ_eq_append_getElem hj, List.filter_append]; simp [hx]
  · rw [List.drop_set_of_lt (by omega), ← List.drop_drop, h.back, List.drop_drop]
theorem kept1_first {q : Int → Bool} {l : List Int} {i : Nat} (hi : i < l.length) (h : q l[i] = false) (hb : ∀ j (hj : j < l.length), j < i → q l[j] = true) : Kept1 q l i (i + 1) l := by
  refine ⟨by omega, hi, rfl, ?_, rfl⟩
  rw [List.take_succ_eq_append_getElem hi, List.filter_append, List.filter_eq_self.2 (fun x hx => ?_)]
  · simp [h]
  · obtain ⟨j, hj, rfl⟩ := List.getElem_of_mem hx
    rw [List.length_take] at hj
    rw [List.getElem_take]
    exact hb j (by omega) (by omega)
abbrev IR (W : World) (B g c n : Nat) (xs : List Int) : Prop := W.ownsRow B 3 1 (.slice (some ⟨g, 0, none⟩) n c) n (xs.map (Value.int .i64))
theorem IR.cell {W : World} {B g c n : Nat} {xs : List Int} (h : IR W B g c n xs) (i : Nat) (hi : i < xs.length) : W.cell? ⟨g, i, none⟩ = some (.int .i64 xs[i]) := by
  have hl : xs.length = n := by have := h.1; simp at this; omega
  rw [World.ownsRow.cellAt h i (by omega)]
  simp [hi]
theorem IR.set {W : World} {B g c n : Nat} {xs : List Int} (h : IR W B g c n xs) (i : Nat) (x : Int) : IR (W.setCell ⟨g, i, none⟩ (.int .i64 x)) B g c n (xs.set i x) := by
  have h_ := (World.ownsRow.stored h i (.int .i64 x)).1
  unfold IR
  rw [List.map_set]; exact h_
theorem IR.put {B g c n : Nat} : ∀ (zs : List Int) (i : Nat) (xs : List Int) (W : World), IR W B g c n xs → i + zs.length ≤ n → ∃ ys, IR (W.setCells g i (zs.map (Value.int .i64))) B g c n ys ∧ ys.take i = xs.take i ∧ W.grownBy (W.setCells g i (zs.map (Value.int .i64))) (some g)
  | [], i, xs, W, h, hi => ⟨xs, h, rfl, ⟨rfl, rfl, rfl, Nat.le_refl _, fun _ _ _ => rfl⟩⟩
  | z :: zs, i, xs, W, h, hi => by
    obtain ⟨ys, h1, h2, h3⟩ := IR.put zs (i + 1) _ _ (h.set i z) (by simp at hi; omega)
    refine ⟨ys, h1, ?_, ?_⟩
    · have := congrArg (List.take i) h2
      rw [List.take_take, Nat.min_eq_left (by omega), List.take_take, Nat.min_eq_left (by omega), List.take_set_of_le (Nat.le_refl _)] at this
      exact this
    · have g1 := (World.ownsRow.stored h i (.int .i64 z)).2
      exact ⟨h3.os.trans g1.os, h3.tape.trans g1.tape, h3.output.trans g1.output, Nat.le_trans g1.size h3.size, fun k hk hne => (h3.block k (Nat.lt_of_lt_of_le hk g1.size) hne).trans (g1.block k hk hne)⟩
theorem IR.take {W : World} {B g c n m : Nat} {xs : List Int} (h : IR W B g c n xs) (hm : m ≤ n) : IR W B g c m (xs.take m) := by
  rcases h.2 with ⟨h', _⟩ | ⟨g', cap', cur, h', hb, hg, hnc, hcm, hcs, htake⟩
  · simp at h'
  · simp only [Value.slice.injEq, Option.some.injEq, Addr.mk.injEq, and_true, true_and] at h'
    obtain ⟨rfl, rfl⟩ := h'
    have hl : xs.length = n := by have := h.1; simp at this; omega
    refine ⟨by simp; omega, .inr ⟨g, c, cur, rfl, hb, hg, by omega, hcm, hcs, ?_⟩⟩
    rw [List.map_take, ← htake, List.take_take, Nat.mul_one, Nat.mul_one, Nat.min_eq_left hm]
theorem zeroI (w : World) : (zeroValue 3).run Try.prog w = .ok (.int .i64 0) w := by kernel_rfl
set_option maxHeartbeats 8000000 in
set_option maxRecDepth 100000 in
theorem del_calls (g0 : Nat) (lb : Array Value) (p : Int → Bool) (eg : ∀ args w, (callFunc g0 args).run Try.prog w = .ok (.enter g0 args) w) (w : World) (B : Nat) (v : Value) (l : List Int) (hR : w.ownsRow B 3 1 v l.length (l.map (Value.int .i64))) (hp : PrI g0 lb p l (fun k => v.ownBlock = some k) w) (hz : l.length ≤ 1000000) (hBw : B ≤ w.heap.size) :
    Calls Try.prog 53 #[v, .func (.func g0) #[] lb] w fun e w' => ∃ v', e = .returned v' ∧ w'.ownsRow B 3 1 v' (l.filter (fun x => !p x)).length ((l.filter (fun x => !p x)).map (Value.int .i64)) ∧ v'.ownBlock = v.ownBlock ∧ (∀ k, k < w.heap.size → ¬ v.ownBlock = some k → w'.heap[k]? = w.heap[k]?) ∧ Below B w w' := by
  have hC : ∀ A c, v = .slice A l.length c → (Kd.int .i64).C w A l.length l := fun A c e => (Kd.R_reads' (Kd.R_of_own (enc := Value.int .i64) (h1 := fun _ => rfl) (ok := fun _ => True) (xs := l) (e ▸ hR) (fun _ _ => trivial))).2.2
  obtain ⟨A, c, ev, hlc⟩ := own_shapeH hR
  subst ev
  have hcall := index_calls g0 lb p eg w A c l (hC A c rfl) (fun W hs hk x hx => hp W hs (fun k h1 _ => hk k h1 (fun h => h)) x hx) hz
  have HP := Aside0.mk hp
  have HR := Aside0.mk hR
  have HBW := Aside0.mk hBw
  have HZ := Aside0.mk hz
  rcases idxN_cases p l with ⟨e1, hall⟩ | ⟨i0, hi0, e1, hid, hbe⟩
  · rw [e1] at hcall
    have HCALL := Aside0.mk hcall
    have HF : Aside0 (l.filter (fun x => !p x) = l) := ⟨List.filter_eq_self.2 (fun x hx => by have h_ := hall x hx; simp only [h_]; rfl)⟩
    clear hcall e1 hall hR hC hz
    go_enter Try.func53, Try.ntmps53
    go_wp2_with (go_at_call 69; refine HCALL.out.mono ?_; rintro e w' ⟨rfl, hb'⟩)
    go_ret
    refine ⟨_, rfl, ?_, rfl, fun k hk _ => hb'.block k hk, below_cut hb' HBW.out⟩
    rw [HF.out]
    exact own_sameH HR.out (fun k hk => hb'.block k (HR.out.lt k hk).2)
  · obtain ⟨g, cap, ev⟩ := own_nthH hR (by omega)
    injection ev with ev1 ev2 ev3
    subst ev1
    subst ev3
    rw [e1] at hcall
    have HCALL := Aside0.mk hcall
    have HK0 := Aside0.mk (kept1_first (q := fun x => !p x) hi0 (by show (!p l[i0]) = false; rw [hid]; rfl) (fun j hj h => by show (!p l[j]) = true; rw [hbe j hj h]; rfl))
    have HBG : Aside0 (B ≤ g) := ⟨(hR.lt g rfl).1⟩
    have HLC := Aside0.mk hlc
    have HI0 := Aside0.mk hi0
    clear hcall e1 hid hbe hR hC hz hlc hi0
    have hi1 : ((i0 : Int) == -1) = false := by first | (simp; done) | (simp; omega)
    go_enter Try.func53, Try.ntmps53
    go_wp2_with (go_at_call 69; refine HCALL.out.mono ?_; rintro e w1 ⟨rfl, hb'⟩)
    have HR1 : Aside0 (IR w1 B g c l.length l) := ⟨own_sameH HR.out (fun k hk => hb'.block k (HR.out.lt k hk).2)⟩
    have HB1 := Aside0.mk (below_cut hb' HBW.out)
    have HF1 : Aside0 (w.heap.size ≤ w1.heap.size ∧ ∀ k, k < w.heap.size → ¬ some g = some k → w1.heap[k]? = w.heap[k]?) := ⟨hb'.size, fun k hk _ => hb'.block k hk⟩
    clear hb' hi1
    go_loopg [5, 6] l.length (fun kq v5 v6 W => ∃ (i j : Nat) (cur : List Int), v5 = .int .i64 (i : Int) ∧ v6 = .int .i64 (j : Int) ∧ Aside0 (l.length - j ≤ kq) ∧ Aside0 (Kept1 (fun x => !p x) l i j cur) ∧ Aside0 (IR W B g c l.length cur) ∧ Aside0 (Below B w W) ∧ Aside0 (w.heap.size ≤ W.heap.size ∧ ∀ k, k < w.heap.size → ¬ some g = some k → W.heap[k]? = w.heap[k]?))
    case atStart => exact ⟨i0, i0 + 1, l, rfl, by first | rfl | (have := HZ.out; have := HI0.out; rw [show wrap64 ((i0 : Int) + 1) = ((i0 + 1 : Nat) : Int) from by unfold wrap64; omega]), ⟨by have := HI0.out; omega⟩, HK0, HR1, HB1, HF1⟩
    case round =>
      clear HK0 HR1 HB1 HF1
      obtain ⟨i, j, cur, rfl, rfl, HIQ, HK, HRW, HB, HFK⟩ := hrel
      by_cases hlt : j < l.length
      · have hi0 : (0 : Int) ≤ (j : Int) := by omega
        have hi1 : (j : Int) < (l.length : Int) := by omega
        have hcl := HK.out.len
        have hcj : j < cur.length := by omega
        have hx0 := HRW.out.cell j hcj
        rw [kept1_get HK.out hlt] at hx0
        have hdec : decide ((j : Int) < (l.length : Int)) = true := decide_eq_true hi1
        have hdec2 : decide (j < l.length) = true := decide_eq_true hlt
        have HLT := Aside0.mk hlt
        have HKD : Aside0 ((!p l[j]) = false → Kept1 (fun x => !p x) l i (j + 1) cur) := ⟨fun h => kept1_drop HK.out hlt h⟩
        have HKK : Aside0 ((!p l[j]) = true → Kept1 (fun x => !p x) l (i + 1) (j + 1) (cur.set i l[j])) := ⟨fun h => kept1_keep HK.out hlt h⟩
        have HPX := Aside0.mk (HP.out wr HFK.out.1 HFK.out.2 l[j] (List.getElem_mem hlt))
        generalize l[j] = x at hx0 HKD HKK HPX
        have HCX := HPX
        clear hcl hcj
        cases hq : p x with
        | true =>
          rw [hq] at HCX
          have HK2 := Aside0.mk (HKD.out (by simp only [hq]; rfl))
          clear hq
          go_wp2_with (go_at_fn g0; refine HCX.out.mono ?_; rintro e w2 ⟨rfl, hb'⟩)
          go_roundg (l.length - (j + 1))
          case measure => have := HIQ.out; have := HLT.out; omega
          case rel => exact ⟨i, j + 1, cur, rfl, by first | rfl | (have := HLT.out; have := HZ.out; rw [show wrap64 ((j : Int) + 1) = ((j + 1 : Nat) : Int) from by unfold wrap64; omega]), ⟨Nat.le_refl _⟩, HK2, ⟨own_sameH HRW.out (fun k hk => hb'.block k (HRW.out.lt k hk).2)⟩, ⟨HB.out.trans (below_cut hb' (Nat.le_trans HBW.out HB.out.size))⟩, ⟨Nat.le_trans HFK.out.1 hb'.size, fun k hk hn => (hb'.block k (Nat.lt_of_lt_of_le hk HFK.out.1)).trans (HFK.out.2 k hk hn)⟩⟩
        | false =>
          rw [hq] at HCX
          have HK2 := Aside0.mk (HKK.out (by simp only [hq]; rfl))
          clear hq
          go_upto_region 9 with (go_at_fn g0; refine HCX.out.mono ?_; rintro e w2 ⟨rfl, hb'⟩)
          have HR2 : Aside0 (IR w2 B g c l.length cur) := ⟨own_sameH HRW.out (fun k hk => hb'.block k (HRW.out.lt k hk).2)⟩
          have HB2 : Aside0 (Below B w w2) := ⟨HB.out.trans (below_cut hb' (Nat.le_trans HBW.out HB.out.size))⟩
          have HF2 : Aside0 (w.heap.size ≤ w2.heap.size ∧ ∀ k, k < w.heap.size → ¬ some g = some k → w2.heap[k]? = w.heap[k]?) := ⟨Nat.le_trans HFK.out.1 hb'.size, fun k hk hn => (hb'.block k (Nat.lt_of_lt_of_le hk HFK.out.1)).trans (HFK.out.2 k hk hn)⟩
          have hij := HK.out.ij
          have hlt2 := HLT.out
          obtain ⟨u0, hs0⟩ : ∃ u, w2.cell? ⟨g, i, none⟩ = some u := ⟨_, HR2.out.cell i (by rw [HK.out.len]; omega)⟩
          have hf0 := World.ownsRow.frozenAt HR2.out i
          have hin0 : (0 : Int) ≤ (i : Int) := Int.natCast_nonneg _
          have hin1 : (i : Int) < (l.length : Int) := by omega
          have hput := HR2.out.set i x
          have HPUT := Aside0.mk hput
          clear hb' hij hlt2 hlt hput
          go_wp2
          go_roundg (l.length - (j + 1))
          case measure => have := HIQ.out; have := HLT.out; omega
          case rel => exact ⟨i + 1, j + 1, _, by first | rfl | (have := HLT.out; have := HK.out.ij; have := HZ.out; rw [show wrap64 ((i : Int) + 1) = ((i + 1 : Nat) : Int) from by unfold wrap64; omega]), by first | rfl | (have := HLT.out; have := HZ.out; rw [show wrap64 ((j : Int) + 1) = ((j + 1 : Nat) : Int) from by unfold wrap64; omega]), ⟨Nat.le_refl _⟩, HK2, HPUT, ⟨HB2.out.setCell HBG.out _⟩, ⟨by simpa using HF2.out.1, fun k hk hn => (heap_setCell_other _ _ k _ (fun e => hn (by rw [e]))).trans (HF2.out.2 k hk hn)⟩⟩
      · have e_ : j = l.length := by have := HK.out.jn; omega
        subst e_
        have hdec : decide ((l.length : Int) < (l.length : Int)) = false := decide_eq_false (by omega)
        have hdec2 : decide (l.length < l.length) = false := decide_eq_false hlt
        have hil := HK.out.ij
        have hclr := fun ty => run_clear_slice wr 29 3 ty (.int .i64 0) Try.underlying29 zeroI rfl rfl g i (l.length - i) (c - i) (by omega) (fun t ht => by rw [HRW.out.cell (i + t) (by rw [HK.out.len]; omega)]; rfl) (fun t ht => World.ownsRow.frozenAt HRW.out _)
        have hrep : List.replicate (l.length - i) (Value.int .i64 0) = (List.replicate (l.length - i) (0 : Int)).map (Value.int .i64) := by rw [List.map_replicate]
        obtain ⟨ys, hR2, hT2, hG2⟩ := IR.put (List.replicate (l.length - i) 0) i cur wr HRW.out (by simp; omega)
        rw [← hrep] at hR2 hG2
        have hR3 := hR2.take (m := i) (by omega)
        have hE : ys.take i = l.filter (fun x => !p x) := by rw [hT2, HK.out.front, List.take_length]
        rw [hE] at hR3
        have HLF : Aside0 (i = (l.filter (fun x => !p x)).length) := ⟨by have := hR3.1; simp at this; exact this.symm⟩
        have HR3 := Aside0.mk hR3
        have HF3 : Aside0 (∀ k, k < w.heap.size → ¬ some g = some k → (wr.setCells g i (List.replicate (l.length - i) (Value.int .i64 0))).heap[k]? = w.heap[k]?) := ⟨fun k hk hn => (hG2.block k (Nat.lt_of_lt_of_le hk HFK.out.1) (fun e => hn e.symm)).trans (HFK.out.2 k hk hn)⟩
        have HB3 : Aside0 (Below B w (wr.setCells g i (List.replicate (l.length - i) (Value.int .i64 0)))) := ⟨⟨hG2.os.trans HB.out.os, hG2.tape.trans HB.out.tape, hG2.output.trans HB.out.output, Nat.le_trans HB.out.size hG2.size, fun k hk => (hG2.block k (Nat.lt_of_lt_of_le hk (Nat.le_trans HBW.out HB.out.size)) (by have := HBG.out; intro e_; injection e_; omega)).trans (HB.out.block k hk)⟩⟩
        have hci : (c = i) = False := eq_false (by have := HLC.out; omega)
        have hp1 : ((i : Int) ≤ (l.length : Int)) = True := eq_true (by omega)
        have hp2 : ((i : Int) ≤ (c : Int)) = True := eq_true (by have := HLC.out; omega)
        have hp3 : i ≤ l.length := by omega
        have hp4 : i ≤ c := by have := HLC.out; omega
        clear hlt hR2 hG2 hR3 hil hT2 hE hrep
        go_wp2
        go_ret
        exact ⟨_, rfl, by rw [← HLF.out]; exact HR3.out, rfl, HF3.out, HB3.out⟩
end Go.Proofs.Ytnimidkeoocchaa.Fni
