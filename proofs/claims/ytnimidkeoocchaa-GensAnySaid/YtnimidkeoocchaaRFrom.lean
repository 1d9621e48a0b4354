/- The reference's From, of no pairs: what it answers is what weak's answers. -/
import Derived.Test.YtnimidkeoocchaaFromPure
import Derived.Test.YtnimidkeoocchaaHand
set_option linter.unusedVariables false
set_option linter.unusedSimpArgs false
namespace Go.Proofs.Ytnimidkeoocchaa.Rch
open Go.RowKit Go.Proofs.YtnimidkeoocchaaW.PrintWords Go.Proofs.YtnimidkeoocchaaW.PrintLast Go.Proofs.YtnimidkeoocchaaW.PrintMore Go.Proofs.Ytnimidkeoocchaa.PG Go.Proofs.Ytnimidkeoocchaa.Hnd

/-- The set that is seen, and whether it grew, each by way of a pointer. -/
structure Sv (W : World) (B gv gs gm : Nat) (m : Bool) (s : List Bool) : Prop where
  hv : W.heap[gv]? = some (.cells #[.slice (some ⟨gs, 0, none⟩) s.length s.length] 48 (0, 0))
  row : W.ownsRow B 4 1 (.slice (some ⟨gs, 0, none⟩) s.length s.length) s.length (bools s)
  hm : W.heap[gm]? = some (.cells #[.bool m] 4 (0, 0))
  ne : gm ≠ gs
  bm : B ≤ gm
  bv : B ≤ gv
theorem own_same' {w w' : World} {base : Nat} {e : TypeId} {size : Nat} {v : Value} {n : Nat} {xs : List Value} (h : w.ownsRow base e size v n xs) (hs : ∀ k, v.ownBlock = some k → w'.heap[k]? = w.heap[k]?) : w'.ownsRow base e size v n xs := by
  refine ⟨h.1, ?_⟩
  rcases h.2 with hn | ⟨g, cap, cur, rfl, hb, hgg, rest⟩
  · exact .inl hn
  · exact .inr ⟨g, cap, cur, rfl, hb, (hs g rfl).trans hgg, rest⟩
theorem Sv.below {W W1 : World} {B gv gs gm : Nat} {m : Bool} {s : List Bool} (h : Sv W B gv gs gm m s) (hb : Below W.heap.size W W1) : Sv W1 B gv gs gm m s :=
  ⟨blk_below h.hv hb, own_same' h.row (fun k hk => hb.block k (h.row.lt k hk).2), blk_below h.hm hb, h.ne, h.bm, h.bv⟩
theorem Sv.mark {W : World} {B gv gs gm : Nat} {m : Bool} {s : List Bool} (h : Sv W B gv gs gm m s) (b : Bool) : Sv (W.setCell ⟨gm, 0, none⟩ (.bool b)) B gv gs gm b s :=
  ⟨blk_far h.hv (p := ⟨gm, 0, none⟩) (blk_ne h.hv h.hm (by decide)) _, own_setCell h.row (p := ⟨gm, 0, none⟩) (by simpa [Value.ownBlock] using h.ne) _, blk_put h.hm 0 _ rfl, h.ne, h.bm, h.bv⟩
theorem Sv.put {W : World} {B gv gs gm : Nat} {m : Bool} {s : List Bool} (h : Sv W B gv gs gm m s) (i : Nat) (b : Bool) : Sv (W.setCell ⟨gs, i, none⟩ (.bool b)) B gv gs gm m (s.set i b) := by
  obtain ⟨cur, hc⟩ : ∃ cur, W.heap[gs]? = some (.cells cur 4 (0, 0)) := by
    rcases h.row.2 with ⟨h_, _⟩ | ⟨g', cap, cur, he, _, hh, _⟩
    · simp at h_
    · simp only [Value.slice.injEq, Option.some.injEq, Addr.mk.injEq, and_true, true_and] at he
      obtain ⟨rfl, rfl⟩ := he
      exact ⟨cur, hh⟩
  have hne : gv ≠ gs := blk_ne h.hv hc (by decide)
  have h_ := own_setB h.row i b
  refine ⟨?_, ?_, (heap_setCell_other W _ _ _ h.ne).trans h.hm, h.ne, h.bm, h.bv⟩
  · rw [List.length_set]; exact (heap_setCell_other W _ _ _ hne).trans h.hv
  · rw [List.length_set]; exact h_
set_option maxHeartbeats 8000000 in
set_option maxRecDepth 100000 in
theorem see_calls (W : World) (B gv gs gm : Nat) (m : Bool) (s : List Bool) (k : Int) (h : Sv W B gv gs gm m s) (hk : 0 ≤ k ∧ k < (s.length : Int)) (hB : B ≤ W.heap.size) :
    Calls Try.prog 56 #[.int .i64 k, .pointer (some ⟨gm, 0, none⟩), .pointer (some ⟨gv, 0, none⟩)] W fun e w' => e = .returned (.tuple #[]) ∧ Sv w' B gv gs gm (m || !s.getD k.toNat false) (s.set k.toNat true) ∧ (∀ j, j ≠ gm → j ≠ gs → w'.heap[j]? = W.heap[j]?) ∧ Below B W w' := by
  obtain ⟨n, rfl⟩ : ∃ n : Nat, k = n := ⟨k.toNat, by omega⟩
  have hn : n < s.length := by omega
  have x0 := (blk_cell h.hv 0).trans rfl
  have x1 := (blk_cell h.hm 0).trans rfl
  have x2 := own_getB h.row n hn
  have z1 := blk_frozen h.hm 0
  have z2 := own_free h.row n
  have hvm : gv ≠ gm := blk_ne h.hv h.hm (by decide)
  have hsm : gs ≠ gm := Ne.symm h.ne
  have hk0 := hk.1
  have hk1 := hk.2
  have HS := Aside0.mk h
  have HBW := Aside0.mk hB
  have HBS := Aside0.mk (own_base h.row gs rfl)
  rw [Int.toNat_natCast]
  cases m with
  | true =>
    have HP := Aside0.mk ((h.mark true).put n true)
    generalize s.getD n false = b at x2
    clear h hk hB
    go_enter Try.func56, Try.ntmps56
    go_wp2
    go_end0
    exact ⟨by simp, HP.out, fun j h1 h2 => (heap_setCell_other _ _ j _ h2).trans (heap_setCell_other _ _ j _ h1), ((Below.refl B W).setCell (p := ⟨gm, 0, none⟩) HS.out.bm _).setCell (p := ⟨gs, n, none⟩) HBS.out _⟩
  | false =>
    have HP := Aside0.mk ((h.mark (!s.getD n false)).put n true)
    generalize s.getD n false = b at x2 HP
    clear h hk hB
    go_enter Try.func56, Try.ntmps56
    go_wp2
    go_end0
    exact ⟨by simp, HP.out, fun j h1 h2 => (heap_setCell_other _ _ j _ h2).trans (heap_setCell_other _ _ j _ h1), ((Below.refl B W).setCell (p := ⟨gm, 0, none⟩) HS.out.bm _).setCell (p := ⟨gs, n, none⟩) HBS.out _⟩

/-! ### Rounds, in plain words -/
structure Rs (has : List (List Int)) (l : List Int) (s : List Bool) : Prop where
  len : s.length = has.length
  lf : ∀ n : Nat, s.getD n false = true → Lf has l n
  root : ∀ n ∈ l, s.getD n.toNat false = true
def Closed (has : List (List Int)) (s : List Bool) : Prop := ∀ n : Nat, s.getD n false = true → ∀ k ∈ has.getD n [], s.getD k.toNat false = true
theorem Rs.all {has : List (List Int)} {l : List Int} {s : List Bool} (h : Rs has l s) (hc : Closed has s) (hh : ∀ l ∈ has, InR has.length l) (hl : InR has.length l) : s = fromL has l := by
  obtain ⟨h1, h2⟩ := fromL_iff hh hl
  refine bools_ext h.len h1 (fun i hi => ?_)
  rw [h2 i hi]
  constructor
  · intro hs
    have h_ := h.lf i.toNat hs
    rwa [show ((i.toNat : Nat) : Int) = i from by omega] at h_
  · intro hf
    clear hi
    induction hf with
    | root hr => exact h.root _ hr
    | has _ hk ih => exact hc _ ih _ hk
structure Rn (has : List (List Int)) (l : List Int) (s0 : List Bool) (i j : Nat) (m : Bool) (s : List Bool) : Prop where
  rs : Rs has l s
  less : m = true → unseen s < unseen s0
  same : m = false → s = s0 ∧ (∀ n : Nat, n < i → s.getD n false = true → ∀ k ∈ has.getD n [], s.getD k.toNat false = true) ∧ (s.getD i false = true → ∀ k ∈ (has.getD i []).take j, s.getD k.toNat false = true)
theorem Rn.start {has : List (List Int)} {l : List Int} {s : List Bool} (h : Rs has l s) : Rn has l s 0 0 false s := ⟨h, fun e => (by cases e), fun _ => ⟨rfl, fun n hn => absurd hn (Nat.not_lt_zero _), fun _ k hk => by simp at hk⟩⟩
theorem Rn.skip {has : List (List Int)} {l : List Int} {s0 s : List Bool} {i j : Nat} {m : Bool} (h : Rn has l s0 i j m s) (hs : s.getD i false = false) : Rn has l s0 i (j + 1) m s :=
  ⟨h.rs, h.less, fun e => ⟨(h.same e).1, (h.same e).2.1, fun h2 => by rw [hs] at h2; cases h2⟩⟩
theorem getD_set {s : List Bool} {i : Nat} (hi : i < s.length) (n : Nat) : (s.set i true).getD n false = if n = i then true else s.getD n false := by
  simp only [List.getD_eq_getElem?_getD, List.getElem?_set]
  by_cases e : i = n
  · subst e; simp [hi]
  · rw [if_neg e, if_neg (fun h => e h.symm)]
theorem set_seen {s : List Bool} {i : Nat} (hi : i < s.length) (h : s.getD i false = true) : s.set i true = s := by
  apply List.ext_getElem?
  intro n
  rw [List.getElem?_set]
  split
  · rename_i e
    subst e
    try rw [if_pos hi]
    rw [List.getD_eq_getElem?_getD, List.getElem?_eq_getElem hi] at h
    rw [List.getElem?_eq_getElem hi]
    simpa using h.symm
  · rfl
theorem Rn.see {has : List (List Int)} {l : List Int} {s0 s : List Bool} {i j : Nat} {m : Bool} (h : Rn has l s0 i j m s) (hh : ∀ l ∈ has, InR has.length l) (hs : s.getD i false = true) (hj : j < (has.getD i []).length) :
    Rn has l s0 i (j + 1) (m || !s.getD ((has.getD i [])[j]).toNat false) (s.set ((has.getD i [])[j]).toNat true) := by
  have hin := row_in hh i _ (List.getElem_mem hj)
  have hmem : (has.getD i [])[j] ∈ has.getD i [] := List.getElem_mem hj
  have htk : ∀ k, k ∈ (has.getD i []).take (j + 1) → k ∈ (has.getD i []).take j ∨ k = (has.getD i [])[j] := by
    intro k hk
    rw [List.take_succ_eq_append_getElem hj] at hk
    rcases List.mem_append.1 hk with hk | hk
    · exact .inl hk
    · exact .inr (by simpa using hk)
  generalize (has.getD i [])[j] = k at hin hmem htk ⊢
  have hk : k.toNat < s.length := by rw [h.rs.len]; omega
  cases hq : s.getD k.toNat false with
  | true =>
    rw [set_seen hk hq]
    simp only [Bool.not_true, Bool.or_false]
    refine ⟨h.rs, h.less, fun e => ⟨(h.same e).1, (h.same e).2.1, fun h2 x hx => ?_⟩⟩
    rcases htk x hx with hx | rfl
    · exact (h.same e).2.2 h2 x hx
    · exact hq
  | false =>
    simp only [Bool.not_false, Bool.or_true]
    refine ⟨⟨by rw [List.length_set]; exact h.rs.len, fun n hn => ?_, fun n hn => ?_⟩, fun _ => ?_, fun e => by cases e⟩
    · rw [getD_set hk] at hn
      split at hn
      · rename_i e
        subst e
        have h_ := Lf.has (h.rs.lf i hs) (k := k) (by rw [Int.toNat_natCast]; exact hmem)
        rwa [show ((k.toNat : Nat) : Int) = k from by omega]
      · exact h.rs.lf n hn
    · rw [getD_set hk]; split
      · rfl
      · exact h.rs.root n hn
    · have h_ := unseen_set s k.toNat (by rw [getD_true_false _ _ hk]; exact hq)
      cases hm : m with
      | true => have := h.less hm; omega
      | false => rw [← (h.same hm).1]; omega
theorem Rn.row {has : List (List Int)} {l : List Int} {s0 s : List Bool} {i : Nat} {m : Bool} (h : Rn has l s0 i (has.getD i []).length m s) : Rn has l s0 (i + 1) 0 m s := by
  refine ⟨h.rs, h.less, fun e => ⟨(h.same e).1, fun n hn h2 k hk => ?_, fun _ k hk => by simp at hk⟩⟩
  by_cases e2 : n = i
  · subst e2
    exact (h.same e).2.2 h2 k (by rw [List.take_length]; exact hk)
  · exact (h.same e).2.1 n (by omega) h2 k hk
theorem Rn.closed {has : List (List Int)} {l : List Int} {s0 s : List Bool} (h : Rn has l s0 has.length 0 false s) : Closed has s := by
  intro n hn k hk
  by_cases e : n < has.length
  · exact (h.same rfl).2.1 n e hn k hk
  · rw [List.getD_eq_getElem?_getD, List.getElem?_eq_none (by omega)] at hk
    simp at hk
structure Ro (has : List (List Int)) (l : List Int) (s : List Bool) : Prop where
  len : s.length = has.length
  lf : ∀ n : Nat, s.getD n false = true → (n : Int) ∈ l
theorem root_set {l : List Int} {i : Nat} {s : List Bool} (hi : i < l.length) (hin : InR s.length l) (h : ∀ n ∈ l.take i, s.getD n.toNat false = true) : ∀ n ∈ l.take (i + 1), (s.set l[i].toNat true).getD n.toNat false = true := by
  intro n hn
  have h1 := hin _ (List.getElem_mem hi)
  rw [getD_set (by omega)]
  split
  · rfl
  · rename_i e
    rw [List.take_succ_eq_append_getElem hi] at hn
    rcases List.mem_append.1 hn with hn | hn
    · exact h n hn
    · have : n = l[i] := by simpa using hn
      rw [this] at e; exact absurd rfl e
theorem ro_set {has : List (List Int)} {l : List Int} {i : Nat} {s : List Bool} (hi : i < l.length) (hin : InR s.length l) (h : Ro has l s) : Ro has l (s.set l[i].toNat true) := by
  have h1 := hin _ (List.getElem_mem hi)
  refine ⟨by rw [List.length_set]; exact h.len, fun n hn => ?_⟩
  rw [getD_set (by omega)] at hn
  split at hn
  · rename_i e
    rw [show (n : Int) = l[i] from by omega]
    exact List.getElem_mem hi
  · exact h.lf n hn

theorem at_row {w : World} {A : Option Addr} {n : Nat} {has : List (List Int)} (h : Kd.C (Kd.slice 3 (Kd.int .i64)) w A n has) (i : Nat) (hi : i < n) :
    ∃ ad B c, A = some ad ∧ w.cell? (ad.add i) = some (.slice B (has.getD i []).length c) ∧ (has.getD i []).length ≤ c ∧ Kd.C (Kd.int .i64) w B (has.getD i []).length (has.getD i []) := by
  obtain ⟨ad, cs, e, hl, hK, hc⟩ := Kd.C_get h [] (i : Int) (by omega) (by omega)
  obtain ⟨B, c, rfl, h1, h2⟩ := hK
  rw [Int.toNat_natCast] at hc h1 h2
  exact ⟨ad, B, c, e, by have h_ := hc 0 _ rfl; simpa [Kd.slice] using h_, h1, h2⟩
theorem rdI' {l : List Int} {i : Nat} (h : i < l.length) : rd l i = l[i] := by unfold rd; simp [List.getD_eq_getElem?_getD, h]
/-- What stays of memory, but for the set, and what came later. -/
structure Fq (w1 W : World) (gs : Nat) : Prop where
  size : w1.heap.size ≤ W.heap.size
  blk : ∀ k, k < w1.heap.size → k ≠ gs → W.heap[k]? = w1.heap[k]?
theorem Fq.alloc {w1 W : World} {gs : Nat} (h : Fq w1 W gs) (o : Obj) : Fq w1 (W.alloc o) gs := ⟨by have := h.size; simp; omega, fun k hk hn => ((below_alloc (Below.refl W.heap.size W) o).block k (by have := h.size; omega)).trans (h.blk k hk hn)⟩
theorem Fq.set {w1 W : World} {gs : Nat} (h : Fq w1 W gs) {p : Addr} (hp : p.block = gs ∨ w1.heap.size ≤ p.block) (u : Value) : Fq w1 (W.setCell p u) gs := ⟨by have := h.size; simpa using this, fun k hk hn => (heap_setCell_other W p k u (fun e => by rcases hp with h_ | h_ <;> omega)).trans (h.blk k hk hn)⟩
theorem Fq.step {w1 W W' : World} {gs gm : Nat} (h : Fq w1 W gs) (hm : w1.heap.size ≤ gm) (hs : W.heap.size ≤ W'.heap.size) (hk : ∀ j, j ≠ gm → j ≠ gs → W'.heap[j]? = W.heap[j]?) : Fq w1 W' gs := ⟨Nat.le_trans h.size hs, fun k hk1 hn => (hk k (by omega) hn).trans (h.blk k hk1 hn)⟩
theorem Sv.fresh {W : World} {B gv gs gm : Nat} {m b : Bool} {s : List Bool} (h : Sv W B gv gs gm m s) (hB : B ≤ W.heap.size) (u : Array Value) (hu : u = #[.bool b]) : Sv (W.alloc (.cells u 4)) B gv gs W.heap.size b s := by
  subst hu
  have hb := below_alloc (Below.refl W.heap.size W) (.cells #[.bool b] 4)
  have h_ := h.below hb
  exact ⟨h_.hv, h_.row, blk_new W _, fun e => by have := (h.row.lt gs rfl).2; omega, hB, h.bv⟩
structure Sw (W : World) (B gv gs : Nat) (s : List Bool) : Prop where
  hv : W.heap[gv]? = some (.cells #[.slice (some ⟨gs, 0, none⟩) s.length s.length] 48 (0, 0))
  row : W.ownsRow B 4 1 (.slice (some ⟨gs, 0, none⟩) s.length s.length) s.length (bools s)
  bv : B ≤ gv
theorem Sw.put {W : World} {B gv gs : Nat} {s : List Bool} (h : Sw W B gv gs s) (i : Nat) (b : Bool) : Sw (W.setCell ⟨gs, i, none⟩ (.bool b)) B gv gs (s.set i b) := by
  obtain ⟨cur, hc⟩ : ∃ cur, W.heap[gs]? = some (.cells cur 4 (0, 0)) := by
    rcases h.row.2 with ⟨h_, _⟩ | ⟨g', cap, cur, he, _, hh, _⟩
    · simp at h_
    · simp only [Value.slice.injEq, Option.some.injEq, Addr.mk.injEq, and_true, true_and] at he
      obtain ⟨rfl, rfl⟩ := he
      exact ⟨cur, hh⟩
  have hne : gv ≠ gs := blk_ne h.hv hc (by decide)
  have h_ := own_setB h.row i b
  refine ⟨?_, ?_, h.bv⟩
  · rw [List.length_set]; exact (heap_setCell_other W _ _ _ hne).trans h.hv
  · rw [List.length_set]; exact h_
theorem Sw.fresh {W : World} {B gv gs : Nat} {b : Bool} {s : List Bool} (h : Sw W B gv gs s) (hB : B ≤ W.heap.size) (u : Array Value) (hu : u = #[.bool b]) : Sv (W.alloc (.cells u 4)) B gv gs W.heap.size b s := by
  subst hu
  have hb := below_alloc (Below.refl W.heap.size W) (.cells #[.bool b] 4)
  exact ⟨blk_below h.hv hb, own_same' h.row (fun k hk => hb.block k (h.row.lt k hk).2), blk_new W _, fun e => by have := (h.row.lt gs rfl).2; omega, hB, h.bv⟩
theorem sized {s : List Bool} (h : unseen s ≤ s.length) : True := trivial
set_option maxHeartbeats 16000000 in
set_option maxRecDepth 100000 in
theorem rfrom_pairs (w : World) (AH : Option Addr) (cH : Nat) (has : List (List Int)) (AR : Option Addr) (nR cR : Nat) (A : Option Addr) (c : Nat) (l : List Int) (AP : Option Addr) (cP : Nat)
    (hH : Kd.C (Kd.slice 3 (Kd.int .i64)) w AH has.length has) (hl : Kd.C (Kd.int .i64) w A l.length l) (hlc : l.length ≤ c)
    (hhas : ∀ l ∈ has, InR has.length l) (hin : InR has.length l) (hsz : has.length ≤ 1000000) :
    Calls Try.prog 31 #[.agg #[.slice AH has.length cH, .slice AR nR cR], .slice A l.length c, .slice AP 0 cP] w fun e w' => ∃ v0 : Value, e = .returned v0 ∧ Kd.R Kd.bool 4 w' w.heap.size (fun _ => True) v0 (fromL has l) ∧ Below w.heap.size w w' := by
  have HH := Aside0.mk hH
  have HL := Aside0.mk hl
  have HLC := Aside0.mk hlc
  have HS := Aside0.mk hhas
  have HN := Aside0.mk hin
  have HZ := Aside0.mk hsz
  have hm0 : has.length ≤ 1000000 := hsz
  have HLM : Aside0 (l.length ≤ 9223372036854775807) := ⟨hl.2.1⟩
  have hmk : ∀ W : World, (Instr.makeSlice 48 (.int .i64 (has.length : Int)) (.int .i64 (has.length : Int))).run Try.prog W = .ok (.slice (some ⟨W.heap.size, 0, none⟩) has.length has.length) (W.alloc (.cells (madeCells #[.bool false] has.length) 4)) := by
    intro W
    exact run_make_row' 48 4 (.bool false) 1 Try.underlying48 (by kernel_rfl) rfl .i64 .i64 has.length (by omega) (by omega) W
  clear hH hl hlc hhas hin hsz
  go_enter Try.func31, Try.ntmps31
  go_wp2_with fail
  have hw1 : Below w.heap.size w (((w.alloc (Obj.cells #[.slice AH has.length cH, .slice AR nR cR] 38)).alloc (Obj.cells (madeCells #[.bool false] has.length) 4)).alloc (Obj.cells #[.slice (some ⟨w.heap.size + 1, 0, none⟩) has.length has.length] 48)) := below_alloc (below_alloc (below_alloc (Below.refl _ _) _) _) _
  have hsw : Sw (((w.alloc (Obj.cells #[.slice AH has.length cH, .slice AR nR cR] 38)).alloc (Obj.cells (madeCells #[.bool false] has.length) 4)).alloc (Obj.cells #[.slice (some ⟨w.heap.size + 1, 0, none⟩) has.length has.length] 48)) w.heap.size (w.heap.size + 1 + 1) (w.heap.size + 1) (List.replicate has.length false) := by
    have ho := own_made_bool (w.alloc (Obj.cells #[.slice AH has.length cH, .slice AR nR cR] 38)) w.heap.size 4 has.length (by simp) (by omega)
    refine ⟨?_, ?_, by omega⟩
    · have h_ := heap_alloc_new ((w.alloc (Obj.cells #[.slice AH has.length cH, .slice AR nR cR] 38)).alloc (Obj.cells (madeCells #[.bool false] has.length) 4)) (Obj.cells #[.slice (some ⟨w.heap.size + 1, 0, none⟩) has.length has.length] 48)
      simp only [List.length_replicate]
      have hz : ((w.alloc (Obj.cells #[.slice AH has.length cH, .slice AR nR cR] 38)).alloc (Obj.cells (madeCells #[.bool false] has.length) 4)).heap.size = w.heap.size + 1 + 1 := by simp
      rw [hz] at h_
      exact h_
    · have h_ := ho.alloc (Obj.cells #[.slice (some ⟨w.heap.size + 1, 0, none⟩) has.length has.length] 48)
      simp only [List.length_replicate]
      have hz : (w.alloc (Obj.cells #[.slice AH has.length cH, .slice AR nR cR] 38)).heap.size = w.heap.size + 1 := by simp
      rw [hz] at h_
      exact h_
  have hgb : (((w.alloc (Obj.cells #[.slice AH has.length cH, .slice AR nR cR] 38)).alloc (Obj.cells (madeCells #[.bool false] has.length) 4)).alloc (Obj.cells #[.slice (some ⟨w.heap.size + 1, 0, none⟩) has.length has.length] 48)).heap[w.heap.size]? = some (.cells #[.slice AH has.length cH, .slice AR nR cR] 38 (0, 0)) := by
    have h1 := blk_new w (Obj.cells #[.slice AH has.length cH, .slice AR nR cR] 38)
    have h2 := blk_below h1 (below_alloc (Below.refl _ _) (Obj.cells (madeCells #[.bool false] has.length) 4))
    exact blk_below h2 (below_alloc (Below.refl _ _) _)
  have hgz : w.heap.size < (((w.alloc (Obj.cells #[.slice AH has.length cH, .slice AR nR cR] 38)).alloc (Obj.cells (madeCells #[.bool false] has.length) 4)).alloc (Obj.cells #[.slice (some ⟨w.heap.size + 1, 0, none⟩) has.length has.length] 48)).heap.size := blk_lt hgb
  generalize (((w.alloc (Obj.cells #[.slice AH has.length cH, .slice AR nR cR] 38)).alloc (Obj.cells (madeCells #[.bool false] has.length) 4)).alloc (Obj.cells #[.slice (some ⟨w.heap.size + 1, 0, none⟩) has.length has.length] 48)) = w1 at hw1 hsw hgb hgz ⊢
  have HW1 := Aside0.mk hw1
  have HSW := Aside0.mk hsw
  have HGB := Aside0.mk hgb
  have HGZ := Aside0.mk hgz
  have HGS : Aside0 (w.heap.size + 1 ≠ w.heap.size ∧ w.heap.size + 1 + 1 ≠ w.heap.size) := ⟨by omega, by omega⟩
  clear hw1 hsw hgb hgz hmk
  have HB0 : Aside0 (w.heap.size ≤ w.heap.size + 1) := ⟨by omega⟩
  generalize w.heap.size + 1 + 1 = gv at HSW HGS
  generalize w.heap.size + 1 = gs at HSW HGS HB0
  go_loopg [24] l.length (fun kq v24 W => ∃ (i : Nat) (s : List Bool), v24 = .int .i64 (i : Int) ∧ Aside0 (i ≤ l.length ∧ kq = l.length - i) ∧ Aside0 (Sw W w.heap.size gv gs s) ∧ Aside0 (Ro has l s ∧ ∀ n ∈ l.take i, s.getD n.toNat false = true) ∧ Aside0 (Fq w1 W gs) ∧ Aside0 (Below w.heap.size w W))
  case atStart => exact ⟨0, List.replicate has.length false, rfl, ⟨Nat.zero_le _, by omega⟩, HSW, ⟨⟨by simp, fun n hn => by simp [List.getD_eq_getElem?_getD, List.getElem?_replicate] at hn; split at hn <;> simp at hn⟩, fun n hn => by simp at hn⟩, ⟨⟨Nat.le_refl _, fun _ _ _ => rfl⟩⟩, HW1⟩
  case round =>
    clear HSW HW1
    obtain ⟨i, s, rfl, HIQ, HW, HO, HF, HB⟩ := hrel
    by_cases hlt : i < l.length
    · have hi0 : (0 : Int) ≤ (i : Int) := by omega
      have hi1 : (i : Int) < (l.length : Int) := by omega
      obtain ⟨ad, e, hx⟩ := Kd.at_int (Kd.C_below HL.out HB.out) (i : Int) (by omega) (by omega)
      rw [Int.toNat_natCast, rdI' hlt] at hx
      subst e
      have hdec : decide ((i : Int) < (l.length : Int)) = true := decide_eq_true hi1
      have hdec2 : decide (i < l.length) = true := decide_eq_true hlt
      have HLT := Aside0.mk hlt
      have hy := HN.out _ (List.getElem_mem hlt)
      have hsl : InR s.length l := by rw [HO.out.1.len]; exact HN.out
      have HR1 := Aside0.mk (root_set hlt hsl HO.out.2)
      have HR2 := Aside0.mk (ro_set hlt hsl HO.out.1)
      generalize l[i] = y at hx hy HR1 HR2
      obtain ⟨n, rfl⟩ : ∃ n : Nat, y = n := ⟨y.toNat, by omega⟩
      have hn0 : (0 : Int) ≤ (n : Int) := hy.1
      have hn1 : (n : Int) < (s.length : Int) := by rw [HO.out.1.len]; exact hy.2
      have x0 := (blk_cell HW.out.hv 0).trans rfl
      have x2 := own_getB HW.out.row n (by omega)
      have z2 := own_free HW.out.row n
      generalize s.getD n false = b at x2
      rw [Int.toNat_natCast] at HR1 HR2
      have HP := Aside0.mk (HW.out.put n true)
      have HFP := Aside0.mk (HF.out.set (p := ⟨gs, n, none⟩) (.inl rfl) (.bool true))
      have HBP := Aside0.mk (HB.out.setCell (p := ⟨gs, n, none⟩) (own_base HW.out.row gs rfl) (.bool true))
      have HW64 : Aside0 (wrap64 ((i : Int) + 1) = ((i + 1 : Nat) : Int)) := ⟨by have := HLM.out; unfold wrap64; omega⟩
      clear hy hsl hlt
      go_wp2_with fail
      go_roundg (l.length - (i + 1))
      case measure => have := HIQ.out; have := HLT.out; omega
      case rel => exact ⟨i + 1, _, by first | rfl | rw [HW64.out], ⟨by have := HLT.out; omega, rfl⟩, HP, ⟨HR2.out, HR1.out⟩, HFP, HBP⟩
    · have e_ : i = l.length := by have := HIQ.out; omega
      subst e_
      have hdec : decide ((l.length : Int) < (l.length : Int)) = false := decide_eq_false (by omega)
      have hdec2 : decide (l.length < l.length) = false := decide_eq_false hlt
      have HRS : Aside0 (Rs has l s) := ⟨⟨HO.out.1.len, fun n hn => .root (HO.out.1.lf n hn), fun n hn => HO.out.2 n (by rw [List.take_length]; exact hn)⟩⟩
      clear hlt HIQ HO
      go_wp2_with fail
      have HSV := Aside0.mk (HW.out.fresh (b := true) HB.out.size _ rfl)
      have HFV := Aside0.mk (HF.out.alloc (.cells #[.bool true] 4))
      have HBV := Aside0.mk (below_alloc HB.out (.cells #[.bool true] 4))
      have HGM := Aside0.mk HF.out.size
      go_loopg [10] (2 * unseen s + 1) (fun kq v10 W => ∃ (gm : Nat) (b : Bool) (s : List Bool), v10 = .pointer (some ⟨gm, 0, none⟩) ∧ Aside0 (kq = 2 * unseen s + (if b = true then 1 else 0)) ∧ Aside0 (Sv W w.heap.size gv gs gm b s) ∧ Aside0 (w1.heap.size ≤ gm) ∧ Aside0 (Rs has l s ∧ (b = false → Closed has s)) ∧ Aside0 (Fq w1 W gs) ∧ Aside0 (Below w.heap.size w W))
      case atStart => exact ⟨wr.heap.size, true, s, rfl, ⟨rfl⟩, HSV, HGM, ⟨HRS.out, fun e => by cases e⟩, HFV, HBV⟩
      case round =>
        clear HSV HFV HBV HGM HRS HW HF HB
        obtain ⟨gm, b, s, rfl, HQ, HV, HGM, HRS, HF, HB⟩ := hrel
        have y0 := (blk_cell HV.out.hm 0).trans rfl
        have yz := blk_frozen HV.out.hm 0
        cases b with
        | false =>
          have x0 := (blk_cell HV.out.hv 0).trans rfl
          have HE := Aside0.mk (HRS.out.1.all (HRS.out.2 rfl) HS.out HN.out)
          clear HRS HQ
          go_wp2_with fail
          go_ret
          refine ⟨_, rfl, ?_, HB.out⟩
          rw [← HE.out]
          exact Kd.R_of_own (enc := Value.bool) (h1 := fun _ => rfl) HV.out.row (fun _ _ => trivial)
        | true =>
          have hgg : w.heap.size ≠ gm := by have := HGZ.out; have := HGM.out; omega
          have g0 : wr.cell? ⟨w.heap.size, 0, none⟩ = some (.slice AH has.length cH) := (blk_cell ((HF.out.blk _ HGZ.out (Ne.symm HGS.out.1)).trans HGB.out) 0).trans rfl
          have HV1 := Aside0.mk (HV.out.mark false)
          have HF1 := Aside0.mk (HF.out.set (p := ⟨gm, 0, none⟩) (.inr HGM.out) (.bool false))
          have HB1 := Aside0.mk (HB.out.setCell (p := ⟨gm, 0, none⟩) HV.out.bm (.bool false))
          have HRN := Aside0.mk (Rn.start HRS.out.1)
          have HQ' : Aside0 (gk = 2 * unseen s + 1) := ⟨by have := HQ.out; simpa using this⟩
          clear HRS HQ HV HF HB
          go_wp2_with fail
          clear y0 yz g0
          go_loopg [37] has.length (fun kq v37 W => ∃ (i : Nat) (m : Bool) (s' : List Bool), v37 = .int .i64 (i : Int) ∧ Aside0 (i ≤ has.length ∧ kq = has.length - i) ∧ Aside0 (Sv W w.heap.size gv gs gm m s') ∧ Aside0 (Rn has l s i 0 m s') ∧ Aside0 (Fq w1 W gs) ∧ Aside0 (Below w.heap.size w W))
          case atStart => exact ⟨0, false, s, rfl, ⟨Nat.zero_le _, by omega⟩, HV1, HRN, HF1, HB1⟩
          case round =>
            clear HV1 HRN HF1 HB1
            obtain ⟨i, m, s1, rfl, HIQ, HV, HRN, HF, HB⟩ := hrel
            by_cases hlt : i < has.length
            · have hi0 : (0 : Int) ≤ (i : Int) := by omega
              have hi1 : (i : Int) < (has.length : Int) := by omega
              obtain ⟨ad, Ai, ci, e, hx0, hci, hCi⟩ := at_row HH.out i hlt
              subst e
              have hx := pw_cell_below HB.out hx0
              clear hx0
              have hdec : decide ((i : Int) < (has.length : Int)) = true := decide_eq_true hi1
              have hdec2 : decide (i < has.length) = true := decide_eq_true hlt
              have HLT := Aside0.mk hlt
              have HCI := Aside0.mk hCi
              have HRO := Aside0.mk (row_in HS.out i)
              obtain ⟨row, hrow⟩ : ∃ row, row = has.getD i [] := ⟨_, rfl⟩
              have HROW := Aside0.mk hrow
              rw [← hrow] at hx hci HCI HRO
              have HRM : Aside0 (row.length ≤ 9223372036854775807) := ⟨HCI.out.2.1⟩
              clear hCi hrow hlt
              go_wp2_with fail
              clear hx
              go_loopg [44] row.length (fun kq v44 W => ∃ (j : Nat) (m : Bool) (s' : List Bool), v44 = .int .i64 (j : Int) ∧ Aside0 (j ≤ row.length ∧ kq = row.length - j) ∧ Aside0 (Sv W w.heap.size gv gs gm m s') ∧ Aside0 (Rn has l s i j m s') ∧ Aside0 (Fq w1 W gs) ∧ Aside0 (Below w.heap.size w W) ∧ Aside0 (Below wr.heap.size wr wr))
              case atStart => exact ⟨0, m, s1, rfl, ⟨Nat.zero_le _, by omega⟩, HV, HRN, HF, HB, ⟨Below.refl _ _⟩⟩
              case round =>
                clear HV HRN HF HB
                obtain ⟨j, m, s2, rfl, HJQ, HV, HRN, HF, HB, _⟩ := hrel
                by_cases hjt : j < row.length
                · have hj0 : (0 : Int) ≤ (j : Int) := by omega
                  have hj1 : (j : Int) < (row.length : Int) := by omega
                  obtain ⟨ad2, e, hx⟩ := Kd.at_int (Kd.C_below HCI.out HB.out) (j : Int) (by omega) (by omega)
                  rw [Int.toNat_natCast, rdI' hjt] at hx
                  subst e
                  have hdec : decide ((j : Int) < (row.length : Int)) = true := decide_eq_true hj1
                  have hdec2 : decide (j < row.length) = true := decide_eq_true hjt
                  have HJT := Aside0.mk hjt
                  have hy := HRO.out _ (List.getElem_mem hjt)
                  have HSE : Aside0 (s2.getD i false = true → Rn has l s i (j + 1) (m || !s2.getD (row[j]).toNat false) (s2.set (row[j]).toNat true)) := ⟨fun h_ => by
                    have hj' : j < (has.getD i []).length := by rw [← HROW.out]; exact hjt
                    have h2_ := HRN.out.see HS.out h_ hj'
                    simp only [← HROW.out] at h2_
                    exact h2_⟩
                  have hlen := HRN.out.rs.len
                  generalize row[j] = y at hx hy HSE
                  have hyy : 0 ≤ y ∧ y < (s2.length : Int) := by rw [hlen]; exact hy
                  have HCALL := Aside0.mk (see_calls wr w.heap.size gv gs gm m s2 y HV.out hyy HB.out.size)
                  have hi1' : (i : Int) < (s2.length : Int) := by rw [hlen]; exact hi1
                  have v0 := (blk_cell HV.out.hv 0).trans rfl
                  have v1 := own_getB HV.out.row i (by omega)
                  have HW64 : Aside0 (wrap64 ((j : Int) + 1) = ((j + 1 : Nat) : Int)) := ⟨by have := HRM.out; unfold wrap64; omega⟩
                  have HGX := Aside0.mk HV.out.hm
                  clear hy hyy hjt hlen
                  cases hq : s2.getD i false with
                  | true =>
                    rw [hq] at v1
                    have HR2 := Aside0.mk (HSE.out hq)
                    clear hq HSE
                    go_wp2_with fail
                    refine HCALL.out.mono ?_
                    rintro e w2 ⟨rfl, hv2, hk2, hb2⟩
                    have HV2 := Aside0.mk hv2
                    have HF2 := Aside0.mk (HF.out.step HGM.out hb2.size hk2)
                    have HB2 := Aside0.mk (HB.out.trans hb2)
                    clear hv2 hk2 hb2
                    go_wp2_with fail
                    go_roundg (row.length - (j + 1))
                    case measure => have := HJQ.out; have := HJT.out; omega
                    case rel => exact ⟨j + 1, _, _, by first | rfl | rw [HW64.out], ⟨by have := HJT.out; omega, rfl⟩, HV2, HR2, HF2, HB2, ⟨Below.refl _ _⟩⟩
                  | false =>
                    rw [hq] at v1
                    have HR2 := Aside0.mk (HRN.out.skip hq)
                    clear hq HSE
                    go_wp2_with fail
                    go_roundg (row.length - (j + 1))
                    case measure => have := HJQ.out; have := HJT.out; omega
                    case rel => exact ⟨j + 1, _, _, by first | rfl | rw [HW64.out], ⟨by have := HJT.out; omega, rfl⟩, HV, HR2, HF, HB, ⟨Below.refl _ _⟩⟩
                · have e_ : j = row.length := by have := HJQ.out; omega
                  subst e_
                  have hdec : decide ((row.length : Int) < (row.length : Int)) = false := decide_eq_false (by omega)
                  have hdec2 : decide (row.length < row.length) = false := decide_eq_false hjt
                  have HR2 : Aside0 (Rn has l s (i + 1) 0 m s2) := ⟨by have h_ := HRN.out; rw [HROW.out] at h_; exact h_.row⟩
                  have HW64 : Aside0 (wrap64 ((i : Int) + 1) = ((i + 1 : Nat) : Int)) := ⟨by have := HZ.out; have := HLT.out; unfold wrap64; omega⟩
                  clear hjt HJQ HRN
                  go_wp2_with fail
                  go_roundg (has.length - (i + 1))
                  case measure => have := HIQ.out; have := HLT.out; omega
                  case rel => exact ⟨i + 1, _, _, by first | rfl | rw [HW64.out], ⟨by have := HLT.out; omega, rfl⟩, HV, HR2, HF, HB⟩
            · have e_ : i = has.length := by have := HIQ.out; omega
              subst e_
              have hdec : decide ((has.length : Int) < (has.length : Int)) = false := decide_eq_false (by omega)
              have hdec2 : decide (has.length < has.length) = false := decide_eq_false hlt
              clear hlt HIQ
              go_wp2_with fail
              go_loopg [59] 0 (fun kq v59 W => v59 = .int .i64 0 ∧ W = wr)
              case atStart => exact ⟨rfl, rfl⟩
              case round =>
                obtain ⟨rfl, rfl⟩ := hrel
                have t0 := (blk_cell HV.out.hm 0).trans rfl
                go_wp2_with fail
                have HV3 := Aside0.mk (HV.out.fresh (b := m) HB.out.size _ rfl)
                have HF3 := Aside0.mk (HF.out.alloc (.cells #[.bool m] 4))
                have HB3 := Aside0.mk (below_alloc HB.out (.cells #[.bool m] 4))
                have HG3 := Aside0.mk HF.out.size
                go_roundg (2 * unseen s1 + (if m = true then 1 else 0))
                case measure =>
                  have h1 := HQ'.out
                  have h2 := HRN.out
                  cases hm : m with
                  | true => have := h2.less hm; simp; omega
                  | false => rw [(h2.same hm).1]; simp; omega
                case rel => exact ⟨_, m, s1, rfl, ⟨rfl⟩, HV3, HG3, ⟨HRN.out.rs, fun e => by subst e; exact HRN.out.closed⟩, HF3, HB3⟩
theorem rfrom_calls (w : World) (AH : Option Addr) (cH : Nat) (has : List (List Int)) (AR : Option Addr) (nR cR : Nat) (A : Option Addr) (c : Nat) (l : List Int)
    (hH : Kd.C (Kd.slice 3 (Kd.int .i64)) w AH has.length has) (hl : Kd.C (Kd.int .i64) w A l.length l) (hlc : l.length ≤ c)
    (hhas : ∀ l ∈ has, InR has.length l) (hin : InR has.length l) (hsz : has.length ≤ 1000000) :
    Calls Try.prog 31 #[.agg #[.slice AH has.length cH, .slice AR nR cR], .slice A l.length c, .slice none 0 0] w fun e w' => ∃ v0 : Value, e = .returned v0 ∧ Kd.R Kd.bool 4 w' w.heap.size (fun _ => True) v0 (fromL has l) ∧ Below w.heap.size w w' :=
  rfrom_pairs w AH cH has AR nR cR A c l none 0 hH hl hlc hhas hin hsz
end Go.Proofs.Ytnimidkeoocchaa.Rch
