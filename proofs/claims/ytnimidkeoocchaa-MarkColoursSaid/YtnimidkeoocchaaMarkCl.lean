/- The colours' laws, in plain words; a row of rows that others own. -/
import Derived.Test.YtnimidkeoocchaaMarkNeed
set_option linter.unusedVariables false
set_option linter.unusedSimpArgs false
namespace Go.Proofs.Ytnimidkeoocchaa.Mrk
open Go.RowKit Go.Proofs.YtnimidkeoocchaaW.PrintWords Go.Proofs.YtnimidkeoocchaaW.PrintLast Go.Proofs.YtnimidkeoocchaaW.PrintMore Go.Proofs.Ytnimidkeoocchaa.PK Go.Proofs.Ytnimidkeoocchaa.Hnd Go.Proofs.Ytnimidkeoocchaa.Rch

theorem K.first {B : List Bool} {l : List Th} (h : K 1 true B l) {n : Nat} {x : Int} (hx : x ∈ (graphL l).getD n []) : (col l).getD n 0 = 2 → (col l).getD x.toNat 0 ≠ 0 := by
  obtain ⟨m, rfl, hp⟩ := mem_graph.1 hx
  rw [col_at, col_at, Int.toNat_natCast]
  exact (h.m rfl).d1 rfl n m hp
def whiteAt (l : List Th) (n : Nat) : List Int := if 1 < (col l).getD n 0 then [] else (graphL l).getD n []
def whiteL (l : List Th) : List (List Int) := (List.range l.length).map (whiteAt l)
def greyTo (cs : List Int) (i : Nat) : List Int := ((List.range i).filter (fun i => cs.getD i 0 == 1)).map Int.ofNat
theorem whiteL_len (l : List Th) : (whiteL l).length = l.length := by simp [whiteL]
theorem whiteL_at {l : List Th} {n : Nat} (h : n < l.length) : (whiteL l).getD n [] = whiteAt l n := by
  unfold whiteL
  rw [List.getD_eq_getElem?_getD, List.getElem?_map, List.getElem?_range h]; rfl
theorem whiteL_in {l : List Th} (ho : OkL l) : ∀ r ∈ whiteL l, InR (whiteL l).length r := by
  intro r hr
  rw [whiteL_len]
  obtain ⟨n, _, rfl⟩ := List.mem_map.1 hr
  unfold whiteAt
  split
  · intro x hx; simp at hx
  · have h_ := row_in (graphL_in ho) n
    rwa [graphL_len] at h_
theorem greyTo_in {l : List Th} (i : Nat) (hi : i ≤ l.length) : InR (whiteL l).length (greyTo (col l) i) := by
  intro x hx
  rw [whiteL_len]
  obtain ⟨n, hn, rfl⟩ := List.mem_map.1 hx
  have := List.mem_range.1 (List.mem_filter.1 hn).1
  constructor
  · exact Int.natCast_nonneg n
  · show (n : Int) < _
    omega
theorem greyTo_next (cs : List Int) (i : Nat) : greyTo cs (i + 1) = greyTo cs i ++ (if (cs.getD i 0 == 1) = true then [(i : Int)] else []) := by
  unfold greyTo
  rw [List.range_succ, List.filter_append, List.map_append]
  congr 1
  by_cases h : (cs.getD i 0 == 1) = true
  · rw [if_pos h, List.filter_cons, if_pos h]; rfl
  · rw [if_neg h, List.filter_cons, if_neg h]; rfl
theorem greyTo_len (cs : List Int) (i : Nat) : (greyTo cs i).length ≤ i := by
  unfold greyTo
  rw [List.length_map]
  exact Nat.le_trans (List.length_filter_le _ _) (by simp)
theorem gy_lf {l : List Th} {k : Nat} (h : Gy l k) : Lf (whiteL l) (greyTo (col l) l.length) (k : Int) := by
  induction h with
  | @grey n hn =>
    refine .root ?_
    have hl : n < l.length := cl_lt (by omega)
    unfold greyTo
    refine List.mem_map.2 ⟨n, List.mem_filter.2 ⟨List.mem_range.2 hl, ?_⟩, rfl⟩
    rw [col_at]
    show (cl l n == 1) = true
    rw [hn]; rfl
  | @has n k _ hn hp ih =>
    refine .has ih ?_
    rw [Int.toNat_natCast, whiteL_at (pl_lt hp)]
    unfold whiteAt
    rw [if_neg (by rw [col_at]; show ¬ 1 < cl l n; omega)]
    exact mem_graph.2 ⟨k, rfl, hp⟩
theorem K.second {B : List Bool} {l : List Th} (h : K 2 true B l) {k : Nat} (hk : k < l.length) (hn : (needL l).getD k false = true) (h0 : (col l).getD k 0 = 0) : (fromL (whiteL l) (greyTo (col l) l.length)).getD k false = true := by
  have ho := h.inv.ok
  rw [col_at] at h0
  have hg := (h.m rfl).y rfl k hk ((h.m rfl).need ((need_iff ho hk).1 hn)) h0
  have h_ := (fromL_iff (whiteL_in ho) (greyTo_in l.length (Nat.le_refl _))).2 (k : Int) (by rw [whiteL_len]; omega)
  rw [Int.toNat_natCast] at h_
  exact h_.2 (gy_lf hg)
theorem MkO.graph' {w0 W : World} {N : Nat} {ok : Nat → Prop} {g : Nat} {kind : Int} {mk : Bool} {l : List Th} (h : MkO w0 W N ok g kind mk l) : Calls Try.prog 30 #[.pointer (some ⟨g, 0, none⟩)] W fun e w' => ∃ AH cH AR cR gl hl, gl = graphL l ∧ hl = heldL l ∧ e = .returned (.agg #[.slice AH gl.length cH, .slice AR hl.length cR]) ∧ KH.R 29 w' W.heap.size (fun _ => True) (.slice AH gl.length cH) gl ∧ (Kd.int .i64).R 3 w' W.heap.size (fun _ => True) (.slice AR hl.length cR) hl ∧ Below W.heap.size W w' := by
  refine h.graph.mono ?_
  rintro e w' ⟨AH, cH, AR, cR, h1, h2, h3, h4⟩
  exact ⟨AH, cH, AR, cR, _, _, rfl, rfl, h1, h2, h3, h4⟩
theorem MkO.colours' {w0 W : World} {N : Nat} {ok : Nat → Prop} {g : Nat} {kind : Int} {mk : Bool} {l : List Th} (h : MkO w0 W N ok g kind mk l) : Calls Try.prog 27 #[.pointer (some ⟨g, 0, none⟩)] W fun e w' => ∃ A c cs, cs = col l ∧ e = .returned (.slice A cs.length c) ∧ Kd.R (Kd.int .i64) 3 w' W.heap.size (fun _ => True) (.slice A cs.length c) cs ∧ Below W.heap.size W w' := by
  refine h.colours.mono ?_
  rintro e w' ⟨v, rfl, h1, h2⟩
  obtain ⟨A, c, e1⟩ := Kd.R_slice h1
  subst e1
  exact ⟨A, c, _, rfl, rfl, h1, h2⟩
/-! ### A row of rows that others own -/
abbrev Tr := Option Addr × Nat × Nat
abbrev KT : Kd Tr := Kd.scalar (fun p => Value.slice p.1 p.2.1 p.2.2) (fun _ => rfl)
def Rws (W : World) (ts : List Tr) (has : List (List Int)) : Prop := ts.length = has.length ∧ ∀ i (h1 : i < ts.length) (h2 : i < has.length), ts[i].2.1 = has[i].length ∧ has[i].length ≤ ts[i].2.2 ∧ (Kd.int .i64).C W ts[i].1 has[i].length has[i]
theorem Rws.nil (W : World) : Rws W [] [] := ⟨rfl, fun i h => by simp at h⟩
theorem Rws.snoc {W : World} {ts : List Tr} {has : List (List Int)} (h : Rws W ts has) {A : Option Addr} {c : Nat} {r : List Int} (hc : r.length ≤ c) (hr : (Kd.int .i64).C W A r.length r) : Rws W (ts ++ [(A, r.length, c)]) (has ++ [r]) := by
  refine ⟨by simp [h.1], fun i h1 h2 => ?_⟩
  by_cases e : i < ts.length
  · have e2 : i < has.length := by rw [← h.1]; exact e
    rw [List.getElem_append_left e, List.getElem_append_left e2]
    exact h.2 i e e2
  · have e1 : i = ts.length := by simp at h1; omega
    subst e1
    have e2 := h.1
    rw [List.getElem_append_right (Nat.le_refl _), List.getElem_append_right (by omega)]
    simp [e2, hc, hr]
theorem Rws.below {W W1 : World} {ts : List Tr} {has : List (List Int)} (h : Rws W ts has) (hb : Below W.heap.size W W1) : Rws W1 ts has := ⟨h.1, fun i h1 h2 => ⟨(h.2 i h1 h2).1, (h.2 i h1 h2).2.1, Kd.C_below (h.2 i h1 h2).2.2 hb⟩⟩
theorem Rws.C {W : World} {A : Option Addr} {ts : List Tr} {has : List (List Int)} (h : Rws W ts has) (hc : KT.C W A ts.length ts) : KH.C W A has.length has := by
  obtain ⟨_, h2, h3⟩ := hc
  refine ⟨rfl, by rw [← h.1]; exact h2, fun hp => ?_⟩
  obtain ⟨ad, e, hx⟩ := h3 (by rw [h.1]; exact hp)
  refine ⟨ad, e, fun i p hi => ?_⟩
  have hi2 : i < has.length := by
    by_cases e : i < has.length
    · exact e
    · rw [List.getElem?_eq_none (by omega)] at hi; cases hi
  have hi1 : i < ts.length := by rw [h.1]; exact hi2
  rw [List.getElem?_eq_getElem hi2] at hi
  have hi' := Option.some.inj hi
  obtain ⟨cs, c1, c2, c3⟩ := hx i ts[i] (List.getElem?_eq_getElem hi1)
  obtain ⟨r1, r2, r3⟩ := h.2 i hi1 hi2
  refine ⟨cs, c1, ?_, c3⟩
  rw [← hi']
  have c2' : cs = [Value.slice ts[i].1 ts[i].2.1 ts[i].2.2] := c2
  exact ⟨ts[i].1, ts[i].2.2, by rw [c2', r1], r2, r3⟩
end Go.Proofs.Ytnimidkeoocchaa.Mrk
