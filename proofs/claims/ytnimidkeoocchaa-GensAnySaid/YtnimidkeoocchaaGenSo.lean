/- slices.Sort at a row of the call's own. -/
import Derived.Test.YtnimidkeoocchaaShelf
import Derived.Test.YtnimidkeoocchaaHand
import Derived.Sort.OwnSortedInts
import Derived.Lib.OwnBridge
import Derived.Test.YtnimidkeoocchaaPG0
import Derived.Shelf.Abstract
import Derived.Deep.DeepCutAuto
import Derived.Lib.SliceRun
set_option linter.unusedVariables false
set_option linter.unusedSimpArgs false
namespace Go.Proofs.Ytnimidkeoocchaa.Gen
open Go.RowKit Go.Proofs.YtnimidkeoocchaaW.PrintWords Go.Proofs.YtnimidkeoocchaaW.PrintLast Go.Proofs.YtnimidkeoocchaaW.PrintMore Go.Sort

def sortL (zs : List Int) : List Int := zs.mergeSort (fun x y => decide (x ≤ y))
theorem sort_spec (zs : List Int) : (sortL zs).Pairwise (· ≤ ·) ∧ (sortL zs).length = zs.length ∧ ∀ x, x ∈ sortL zs ↔ x ∈ zs := by
  refine ⟨?_, List.length_mergeSort zs, fun x => List.mem_mergeSort⟩
  have h := List.pairwise_mergeSort (le := fun (x y : Int) => decide (x ≤ y)) (fun a b c h1 h2 => by simp at *; omega) (fun a b => by simp; omega) zs
  exact h.imp (fun hab => by simpa using hab)
theorem sort_own (w : World) (B : Nat) (v : Value) (zs : List Int) (h : w.ownsRow B 3 1 v zs.length (zs.map (Value.int .i64))) (hz : zs.length ≤ 1000000) :
    Calls Try.prog 46 #[v] w fun e w' => e = .returned (.tuple #[]) ∧ w'.ownsRow B 3 1 v zs.length ((sortL zs).map (Value.int .i64)) ∧ w.grownBy w' v.ownBlock := by
  rcases h.2 with ⟨rfl, hn⟩ | ⟨g, cap, cur, rfl, hb, hg, hnc, hcm, hcs, ht⟩
  · have e0 : zs = [] := List.eq_nil_of_length_eq_zero hn
    subst e0
    refine (Try.slices_Sort_int_none none 0 w).mono ?_
    rintro e w' ⟨rfl, rfl⟩
    refine ⟨rfl, ?_, ⟨rfl, rfl, rfl, Nat.le_refl _, fun _ _ _ => rfl⟩⟩
    have e1 : sortL [] = [] := List.eq_nil_of_length_eq_zero (sort_spec []).2.1
    rw [e1]
    exact World.ownsRow_nil _ _ _ _
  · have hH := holds_of_blockI (ss := zs) hg (by simpa using ht)
    refine (Try.slices_Sort_int g 0 cap zs w hH (Array.getElem?_eq_some_iff.1 hg).1 (by omega)).mono ?_
    rintro e w' ⟨rfl, n, os, rfl⟩
    exact ⟨rfl, ownsRow_sortedI (ts := sortL zs) (sort_spec zs).2.1 hb hg hnc hcm hcs, grownBy_sortedI _⟩
/-- Two rising rows of the same numbers are one. -/
theorem rising_eq : ∀ {a b : List Int}, a.Pairwise (· < ·) → b.Pairwise (· < ·) → (∀ x, x ∈ a ↔ x ∈ b) → a = b
  | [], [], _, _, _ => rfl
  | [], y :: b, _, _, h => by have := (h y).2 (List.mem_cons_self ..); simp at this
  | x :: a, [], _, _, h => by have := (h x).1 (List.mem_cons_self ..); simp at this
  | x :: a, y :: b, ha, hb, h => by
    obtain ⟨ha1, ha2⟩ := List.pairwise_cons.1 ha
    obtain ⟨hb1, hb2⟩ := List.pairwise_cons.1 hb
    have hxy : x = y := by
      rcases List.mem_cons.1 ((h x).1 (List.mem_cons_self ..)) with e | h1
      · exact e
      · rcases List.mem_cons.1 ((h y).2 (List.mem_cons_self ..)) with e | h2
        · exact e.symm
        · have := ha1 _ h2; have := hb1 _ h1; omega
    subst hxy
    congr 1
    refine rising_eq ha2 hb2 fun z => ⟨fun hz => ?_, fun hz => ?_⟩
    · rcases List.mem_cons.1 ((h z).1 (List.mem_cons_of_mem _ hz)) with e | h1
      · have := ha1 _ hz; omega
      · exact h1
    · rcases List.mem_cons.1 ((h z).2 (List.mem_cons_of_mem _ hz)) with e | h1
      · have := hb1 _ hz; omega
      · exact h1
theorem sort_rising {zs : List Int} (h : zs.Nodup) : (sortL zs).Pairwise (· < ·) := by
  have h1 := (sort_spec zs).1
  have h2 : (sortL zs).Nodup := (List.mergeSort_perm zs _).nodup_iff.2 h
  exact (h1.and h2).imp (fun hab => by obtain ⟨a, b⟩ := hab; omega)
end Go.Proofs.Ytnimidkeoocchaa.Gen
/- slices.IndexFunc and slices.ContainsFunc at ints, by a method value (its receiver q ahead of the argument). -/
namespace Go.Proofs.Ytnimidkeoocchaa.Fnb
open Go.RowKit Go.Proofs.YtnimidkeoocchaaW.PrintWords Go.Proofs.YtnimidkeoocchaaW.PrintLast Go.Proofs.YtnimidkeoocchaaW.PrintMore Go.Proofs.Ytnimidkeoocchaa.PG Go.Proofs.Ytnimidkeoocchaa.Hnd Go.Lib

theorem own_sameH {w w' : World} {base : Nat} {e : TypeId} {size : Nat} {v : Value} {n : Nat} {xs : List Value} (h : w.ownsRow base e size v n xs) (hs : ∀ k, v.ownBlock = some k → w'.heap[k]? = w.heap[k]?) : w'.ownsRow base e size v n xs := by
  refine ⟨h.1, ?_⟩
  rcases h.2 with hn | ⟨g, cap, cur, rfl, hb, hgg, rest⟩
  · exact .inl hn
  · exact .inr ⟨g, cap, cur, rfl, hb, (hs g rfl).trans hgg, rest⟩
theorem own_tyH {w : World} {base : Nat} {e : TypeId} {size : Nat} {v : Value} {n : Nat} {xs : List Value} (h : w.ownsRow base e size v n xs) : ∀ k, v.ownBlock = some k → ∃ cur, w.heap[k]? = some (.cells cur e (0, 0)) := by
  intro k hk
  rcases h.2 with ⟨rfl, _⟩ | ⟨g, cap, cur, rfl, hb, hgg, rest⟩
  · simp [Value.ownBlock] at hk
  · simp [Value.ownBlock] at hk
    subst hk
    exact ⟨cur, hgg⟩
theorem own_nthH {w : World} {base : Nat} {e : TypeId} {size : Nat} {v : Value} {n : Nat} {xs : List Value} (h : w.ownsRow base e size v n xs) (hn : 0 < n) : ∃ g cap, v = .slice (some ⟨g, 0, none⟩) n cap := by
  rcases h.2 with ⟨_, h0⟩ | ⟨g, cap, cur, rfl, _⟩
  · omega
  · exact ⟨g, cap, rfl⟩
theorem own_shapeH {w : World} {base : Nat} {e : TypeId} {size : Nat} {v : Value} {n : Nat} {xs : List Value} (h : w.ownsRow base e size v n xs) : ∃ A cap, v = .slice A n cap ∧ n ≤ cap := by
  rcases h.2 with ⟨rfl, rfl⟩ | ⟨g, cap, cur, rfl, _, _, hc, _⟩
  · exact ⟨none, 0, rfl, Nat.le_refl _⟩
  · exact ⟨_, cap, rfl, hc⟩
/-- What is asked of a predicate that is handed over: of each number of a list it tells p, wherever memory is as it was, but for S. -/
def PrB (g : Nat) (q : Value) (p : Int → Bool) (l : List Int) (S : Nat → Prop) (w : World) : Prop := ∀ W : World, w.heap.size ≤ W.heap.size → (∀ k, k < w.heap.size → ¬ S k → W.heap[k]? = w.heap[k]?) → ∀ x ∈ l, Calls Try.prog g #[q, .int .i64 x] W fun e w' => e = .returned (.bool (p x)) ∧ Below W.heap.size W w'
def idxN (p : Int → Bool) (l : List Int) : Int := match l.findIdx? p with | some i => (i : Int) | none => -1
theorem idxN_at {p : Int → Bool} {l : List Int} {i : Nat} (hi : i < l.length) (h : p l[i] = true) (hb : ∀ j (hj : j < l.length), j < i → p l[j] = false) : idxN p l = (i : Int) := by
  unfold idxN
  have : l.findIdx? p = some i := List.findIdx?_eq_some_iff_getElem.2 ⟨hi, h, fun j hj => by rw [hb j (by omega) hj]; simp⟩
  rw [this]
theorem idxN_no {p : Int → Bool} {l : List Int} (hb : ∀ j (hj : j < l.length), p l[j] = false) : idxN p l = -1 := by
  unfold idxN
  have : l.findIdx? p = none := by
    rw [List.findIdx?_eq_none_iff]
    intro x hx
    obtain ⟨j, hj, rfl⟩ := List.getElem_of_mem hx
    exact hb j hj
  rw [this]
theorem idxN_cases (p : Int → Bool) (l : List Int) : (idxN p l = -1 ∧ ∀ x ∈ l, p x = false) ∨ ∃ i, ∃ hi : i < l.length, idxN p l = (i : Int) ∧ p l[i] = true ∧ ∀ j (hj : j < l.length), j < i → p l[j] = false := by
  unfold idxN
  cases h : l.findIdx? p with
  | none =>
    rw [List.findIdx?_eq_none_iff] at h
    exact .inl ⟨rfl, fun x hx => by simpa using h x hx⟩
  | some i =>
    obtain ⟨hi, h1, h2⟩ := List.findIdx?_eq_some_iff_getElem.1 h
    exact .inr ⟨i, hi, rfl, h1, fun j hj hlt => by have := h2 j hlt; simpa using this⟩
theorem rdI {l : List Int} {i : Nat} (h : i < l.length) : rd l i = l[i] := by unfold rd; simp [List.getD_eq_getElem?_getD, h]
set_option maxHeartbeats 4000000 in
set_option maxRecDepth 100000 in
theorem index_calls (g : Nat) (q : Value) (p : Int → Bool) (eg : ∀ args w, (callFunc g args).run Try.prog w = .ok (.enter g args) w) (w : World) (A : Option Addr) (c : Nat) (l : List Int) (hl : (Kd.int .i64).C w A l.length l) (hp : PrB g q p l (fun _ => False) w) (hz : l.length ≤ 1000000) :
    Calls Try.prog 69 #[.slice A l.length c, .func (.func g) #[q] #[]] w fun e w' => e = .returned (.int .i64 (idxN p l)) ∧ Below w.heap.size w w' := by
  have HL := Aside0.mk hl
  have HZ := Aside0.mk hz
  have HP := Aside0.mk hp
  clear hl hz hp
  go_enter Try.func69, Try.ntmps69
  go_wp2
  go_loopg [8] l.length (fun kq v8 W => ∃ i : Nat, v8 = .int .i64 (i : Int) ∧ Aside0 (i ≤ l.length ∧ kq = l.length - i) ∧ Aside0 (∀ j (hj : j < l.length), j < i → p l[j] = false) ∧ Aside0 (Below w.heap.size w W))
  case atStart => exact ⟨0, rfl, ⟨Nat.zero_le _, by omega⟩, ⟨fun j hj h => absurd h (Nat.not_lt_zero _)⟩, ⟨Below.refl _ _⟩⟩
  case round =>
    obtain ⟨i, rfl, HIQ, HN, HB⟩ := hrel
    by_cases hlt : i < l.length
    · have hi0 : (0 : Int) ≤ (i : Int) := by omega
      have hi1 : (i : Int) < (l.length : Int) := by omega
      obtain ⟨ad, e, hx⟩ := Kd.at_int (Kd.C_below HL.out HB.out) (i : Int) (by omega) (by omega)
      rw [Int.toNat_natCast, rdI hlt] at hx
      subst e
      have hdec : decide ((i : Int) < (l.length : Int)) = true := decide_eq_true hi1
      have hdec2 : decide (i < l.length) = true := decide_eq_true hlt
      have HLT := Aside0.mk hlt
      have HCALL := Aside0.mk (HP.out wr HB.out.size (fun k hk _ => HB.out.block k hk) l[i] (List.getElem_mem hlt))
      cases hq : p l[i] with
      | true =>
        have HQ := Aside0.mk hq
        rw [hq] at HCALL
        generalize l[i] = y1 at hx HCALL
        clear hq
        go_wp2_with (go_at_fn g; refine HCALL.out.mono ?_; rintro e w' ⟨rfl, hb'⟩)
        go_ret
        exact ⟨by rw [idxN_at HLT.out HQ.out HN.out]; rfl, below_step HB.out hb'⟩
      | false =>
        have HQ := Aside0.mk hq
        rw [hq] at HCALL
        generalize l[i] = y1 at hx HCALL
        clear hq
        go_wp2_with (go_at_fn g; refine HCALL.out.mono ?_; rintro e w' ⟨rfl, hb'⟩)
        go_roundg (l.length - (i + 1))
        case measure => have := HIQ.out; have := HLT.out; omega
        case rel =>
          refine ⟨i + 1, by first | rfl | (have := HLT.out; have := HZ.out; rw [show wrap64 ((i : Int) + 1) = ((i + 1 : Nat) : Int) from by unfold wrap64; omega]), ⟨by have := HLT.out; omega, rfl⟩, ⟨fun j hj h => ?_⟩, ⟨below_step HB.out hb'⟩⟩
          by_cases e : j = i
          · subst e; exact HQ.out
          · exact HN.out j hj (by omega)
    · have e_ : i = l.length := by have := HIQ.out; omega
      subst e_
      have hdec : decide ((l.length : Int) < (l.length : Int)) = false := decide_eq_false (by omega)
      have hdec2 : decide (l.length < l.length) = false := decide_eq_false hlt
      clear hlt HIQ
      go_wp2
      go_ret
      exact ⟨by rw [idxN_no (fun j hj => HN.out j hj hj)]; rfl, HB.out⟩
theorem idxN_any (p : Int → Bool) (l : List Int) : decide (idxN p l ≥ 0) = l.any p := by
  unfold idxN
  cases h : l.findIdx? p with
  | none =>
    rw [List.findIdx?_eq_none_iff] at h
    have : l.any p = false := List.any_eq_false.2 (fun x hx => by simp [h x hx])
    rw [this]; rfl
  | some i =>
    obtain ⟨hi, h1, _⟩ := List.findIdx?_eq_some_iff_getElem.1 h
    have : l.any p = true := List.any_eq_true.2 ⟨l[i], List.getElem_mem hi, h1⟩
    rw [this]
    exact decide_eq_true (by show (i : Int) ≥ 0; omega)
set_option maxHeartbeats 4000000 in
set_option maxRecDepth 100000 in
theorem any_calls (g : Nat) (q : Value) (p : Int → Bool) (eg : ∀ args w, (callFunc g args).run Try.prog w = .ok (.enter g args) w) (w : World) (A : Option Addr) (c : Nat) (l : List Int) (hl : (Kd.int .i64).C w A l.length l) (hp : PrB g q p l (fun _ => False) w) (hz : l.length ≤ 1000000) :
    Calls Try.prog 44 #[.slice A l.length c, .func (.func g) #[q] #[]] w fun e w' => e = .returned (.bool (l.any p)) ∧ Below w.heap.size w w' := by
  have HCALL := Aside0.mk (index_calls g q p eg w A c l hl hp hz)
  have hx := idxN_any p l
  clear hl hp
  generalize idxN p l = qi at HCALL hx
  generalize l.any p = r at hx ⊢
  go_enter Try.func44, Try.ntmps44
  go_wp2_with (go_at_call 69; refine HCALL.out.mono ?_; rintro e w' ⟨rfl, hb'⟩)
  go_ret
  exact ⟨by rw [← hx]; first | rfl | simp, hb'⟩
end Go.Proofs.Ytnimidkeoocchaa.Fnb
