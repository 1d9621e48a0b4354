/- Package weak's live: what it answers. -/
import Derived.Test.YtoleplbmkdhgeaaReach
import Derived.Test.YtoleplbmkdhgeaaCheckPure
set_option linter.unusedVariables false
set_option linter.unusedSimpArgs false
namespace Go.Proofs.Ytoleplbmkdhgeaa.Rch
open Go.RowKit Go.Proofs.YtoleplbmkdhgeaaW.PrintWords Go.Proofs.YtoleplbmkdhgeaaW.PrintLast Go.Proofs.YtoleplbmkdhgeaaW.PrintMore Go.Proofs.Ytoleplbmkdhgeaa.PQ Go.Proofs.Ytoleplbmkdhgeaa.Chk

abbrev Pair := S28
def scan1 (sm : (List Bool × List Int) × Bool) (p : Pair) : (List Bool × List Int) × Bool :=
  if sm.1.1.getD p.f0.toNat false = true ∧ sm.1.1.getD p.f1.toNat true = false then (reachL sm.1 [p.f1], true) else sm
def scanL (s : List Bool × List Int) (ps : List Pair) : (List Bool × List Int) × Bool := ps.foldl scan1 (s, false)
def liveR (has : List (List Int)) (ps : List Pair) : Nat → List Bool × List Int → List Bool × List Int
  | 0, s => s
  | k + 1, s => if (scanL (allL has (meas s) s) ps).2 = true then liveR has ps k (scanL (allL has (meas s) s) ps).1 else (scanL (allL has (meas s) s) ps).1
def liveL (has : List (List Int)) (roots : List Int) (ps : List Pair) : List Bool :=
  let s := reachL (List.replicate has.length false, []) roots
  (liveR has ps (unseen s.1 + 1) s).1
def inP (n : Nat) (p : Pair) : Bool := inr n p.f0 && inr n p.f1
def live.f (k : Nat) (has : List (List Int)) (roots : List Int) (ps : List Pair) : Option (List Bool × Int) :=
  (weak_Check.f k has roots).bind fun e => if e = 0 then (if ps.length > 50 then some ([], 2) else if ps.all (inP has.length) = true then some (liveL has roots ps, 0) else some ([], 3)) else some ([], e)

/-- A state that may be: as long as the graph, with things to do that are there. -/
structure St (n : Nat) (s : List Bool × List Int) : Prop where
  len : s.1.length = n
  todo : InR n s.2
  room : s.2.length + unseen s.1 ≤ 1000000
/-- Ahead of a round: with what is still to come one ends at fin. -/
def Heads (has : List (List Int)) (ps : List Pair) (fin : List Bool × List Int) (k : Nat) (m : Bool) (s : List Bool × List Int) : Prop :=
  if m = true then liveR has ps k s = fin ∧ unseen s.1 < k else s = fin
theorem St.reach {n : Nat} {s : List Bool × List Int} (h : St n s) (l : List Int) (hl : InR n l) : St n (reachL s l) :=
  ⟨by rw [reachL_length]; exact h.len, reachL_in l h.todo hl, by rw [reachL_room]; exact h.room⟩
theorem St.drop {n : Nat} {s : List Bool × List Int} (h : St n s) : St n (s.1, s.2.dropLast) :=
  ⟨h.len, fun x hx => h.todo x (List.dropLast_subset _ hx), by have := h.room; simp only [List.length_dropLast]; omega⟩
theorem St.all {has : List (List Int)} {n : Nat} (hh : ∀ l ∈ has, InR n l) : ∀ (k : Nat) {s : List Bool × List Int}, St n s → St n (allL has k s)
  | 0, _, h => h
  | k + 1, s, h => by
    rw [allL]
    split
    · exact h
    · refine St.all hh k (h.drop.reach _ ?_)
      rw [List.getD_eq_getElem?_getD]
      cases hg : has[(s.2.getLastD 0).toNat]? with
      | none => intro x hx; simp at hx
      | some l => exact hh l (List.mem_of_getElem? hg)
theorem allL_unseen (has : List (List Int)) : ∀ (k : Nat) (s : List Bool × List Int), unseen (allL has k s).1 ≤ unseen s.1
  | 0, _ => Nat.le_refl _
  | k + 1, s => by
    rw [allL]
    split
    · exact Nat.le_refl _
    · exact Nat.le_trans (allL_unseen has k _) (reachL_unseen _ (s.1, s.2.dropLast))
theorem scanL_snoc (s : List Bool × List Int) (ps : List Pair) (p : Pair) : scanL s (ps ++ [p]) = scan1 (scanL s ps) p := by simp [scanL]
theorem scan1_unseen (sm : (List Bool × List Int) × Bool) (p : Pair) : unseen (scan1 sm p).1.1 ≤ unseen sm.1.1 ∧ ((scan1 sm p).2 = true → sm.2 = true ∨ unseen (scan1 sm p).1.1 < unseen sm.1.1) := by
  unfold scan1
  split
  · rename_i h
    have hset := unseen_set sm.1.1 p.f1.toNat h.2
    have hr : reachL sm.1 [p.f1] = (sm.1.1.set p.f1.toNat true, sm.1.2 ++ [p.f1]) := by
      simp only [reachL, List.foldl_cons, List.foldl_nil, push]
      rw [if_neg (by rw [h.2]; decide)]
    rw [hr]
    exact ⟨by simp only; omega, fun _ => .inr (by simp only; omega)⟩
  · exact ⟨Nat.le_refl _, fun h => .inl h⟩
theorem scan_fold (ps : List Pair) : ∀ sm : (List Bool × List Int) × Bool, unseen (ps.foldl scan1 sm).1.1 ≤ unseen sm.1.1 ∧ ((ps.foldl scan1 sm).2 = true → sm.2 = true ∨ unseen (ps.foldl scan1 sm).1.1 < unseen sm.1.1) := by
  induction ps with
  | nil => intro sm; exact ⟨Nat.le_refl _, fun h => .inl h⟩
  | cons p ps ih =>
    intro sm
    rw [List.foldl_cons]
    obtain ⟨h1, h2⟩ := scan1_unseen sm p
    obtain ⟨h3, h4⟩ := ih (scan1 sm p)
    refine ⟨Nat.le_trans h3 h1, fun h => ?_⟩
    rcases h4 h with h | h
    · rcases h2 h with h | h
      · exact .inl h
      · exact .inr (by omega)
    · exact .inr (by omega)
theorem scanL_unseen (s : List Bool × List Int) (ps : List Pair) (h : (scanL s ps).2 = true) : unseen (scanL s ps).1.1 < unseen s.1 := by
  rcases (scan_fold ps (s, false)).2 h with h | h
  · simp at h
  · exact h
theorem Rc.alloc_drew {B : Nat} {W : World} {g : Nat} {h0 h1 vt : Value} {gs cs : Nat} {s : List Bool × List Int} (h : Rc B W g h0 h1 vt gs cs s) (o : Obj) (m : Nat) : Rc B ((W.alloc o).drewN m) g h0 h1 vt gs cs s :=
  ⟨blk_drewN (blk_alloc h.1 _) _, h.2.1.alloc o, h.2.2.1.alloc o, h.2.2.2⟩
theorem Rc.alloc {B : Nat} {W : World} {g : Nat} {h0 h1 vt : Value} {gs cs : Nat} {s : List Bool × List Int} (h : Rc B W g h0 h1 vt gs cs s) (o : Obj) : Rc B (W.alloc o) g h0 h1 vt gs cs s :=
  ⟨blk_alloc h.1 _, h.2.1.alloc o, h.2.2.1.alloc o, h.2.2.2⟩
theorem C_lit (W : World) (n : Int) : Kd.C (Kd.int .i64) (W.alloc (.cells #[.int .i64 n] 3)) (some ⟨W.heap.size, 0, none⟩) 1 [n] := by
  have ho := own_lit W W.heap.size 3 .i64 [n] (Nat.le_refl _) (by simp)
  exact (Kd.R_reads' (Kd.R_of_own (enc := Value.int .i64) (h1 := fun _ => rfl) (ok := fun _ => True) ho (fun _ _ => trivial))).2.2
theorem raise {α : Type} {f : Nat → Option α} (h : ∀ k, LeO (f k) (f (k + 1))) {k m : Nat} (hkm : k ≤ m) {r : α} (hr : f k = some r) : f m = some r := by
  induction hkm with
  | refl => exact hr
  | step _ ih => exact h _ _ ih
theorem V_of_C {α : Type} {d : Kd α} (hd : Kd.Heap d) {w : World} {e base : Nat} {A : Option Addr} {c : Nat} {xs : List α} (h : d.C w A xs.length xs) (hc : xs.length ≤ c) : Kd.V d e w base (fun _ => True) (.slice A xs.length c) xs :=
  ⟨A, c, rfl, hc, fun W' hW => hd.C (fun k hk => hW k trivial hk) h⟩
theorem at_pair {w : World} {A : Option Addr} {n : Nat} {xs : List Pair} (h : Kd.C k28 w A n xs) (i : Nat) (hi : i < n) : ∃ ad, A = some ad ∧ w.cell? (ad.add (i * 2)) = some (.int .i64 (xs.getD i z28).f0) ∧ w.cell? ⟨(ad.add (i * 2)).block, (ad.add (i * 2)).off + 1, none⟩ = some (.int .i64 (xs.getD i z28).f1) := by
  obtain ⟨ad, e, h0, h1⟩ := at_T28 h (i : Int) (by omega) (by omega)
  exact ⟨ad, e, by simpa [rd_T28] using h0, by simpa [rd_T28] using h1⟩
set_option maxHeartbeats 8000000 in
set_option maxRecDepth 100000 in
theorem live_calls (k : Nat) (w : World) (AH : Option Addr) (cH : Nat) (has : List (List Int)) (AR : Option Addr) (cR : Nat) (roots : List Int) (AP : Option Addr) (cP : Nat) (ps : List Pair) (r1 : List Bool) (r2 : Int)
    (hH : Kd.C (Kd.slice 3 (Kd.int .i64)) w AH has.length has) (hHc : has.length ≤ cH) (hR : Kd.C (Kd.int .i64) w AR roots.length roots) (hRc : roots.length ≤ cR)
    (hP : Kd.C k28 w AP ps.length ps) (hPc : ps.length ≤ cP) (h : live.f k has roots ps = some (r1, r2)) :
    Calls Try.prog 36 #[.agg #[.slice AH has.length cH, .slice AR roots.length cR], .slice AP ps.length cP] w fun e w' => ∃ v0 : Value, e = .returned (.tuple #[v0, .int .i64 r2]) ∧ Kd.R Kd.bool 4 w' w.heap.size (fun _ => True) v0 r1 ∧ Below w.heap.size w w' := by
  have HH := Aside0.mk hH
  have HHC := Aside0.mk hHc
  have HR := Aside0.mk hR
  have HRC := Aside0.mk hRc
  have HP := Aside0.mk hP
  have HPC := Aside0.mk hPc
  clear hH hHc hR hRc hP hPc
  unfold live.f at h
  obtain ⟨e, hce, h⟩ := Option.bind_eq_some_iff.1 h
  have HCE := Aside0.mk hce
  have hWB : Below w.heap.size w (w.alloc (Obj.cells #[.slice AH has.length cH, .slice AR roots.length cR] 25)) := below_alloc (Below.refl _ _) _
  have HWB := Aside0.mk hWB
  have HBK := Aside0.mk (heap_alloc_new w (Obj.cells #[.slice AH has.length cH, .slice AR roots.length cR] 25))
  clear hce hWB
  go_enter Try.func36, Try.ntmps36
  go_wp2_with fail
  refine (weak_Check.calls k (fun _ => True) AH cH has (fun _ => True) AR cR roots e _ (V_of_C (Kd.heap_slice _ (Kd.heap_int _)) (Kd.C_below HH.out HWB.out) HHC.out) (V_of_C (Kd.heap_int _) (Kd.C_below HR.out HWB.out) HRC.out) HCE.out).mono ?_
  rintro e1 w1 ⟨rfl, hb1⟩
  have HB1 := Aside0.mk (below_step HWB.out hb1)
  have HBK1 := Aside0.mk (blk_below HBK.out hb1)
  clear HBK HWB hb1
  by_cases he : e = 0
  · subst he
    rw [if_pos rfl] at h
    have hok := check_ok (Option.some.inj ((check_f has roots (max k (checkK has roots)) (Nat.le_max_right _ _)).symm.trans (raise (fun k => weak_Check.mono _ _ k) (Nat.le_max_left _ _) HCE.out)))
    obtain ⟨g1, g2, g3, g4, g5⟩ := hok
    have G1 := Aside0.mk g1
    have G4 := Aside0.mk (show InR has.length roots from g4)
    have G5 := Aside0.mk (show ∀ l ∈ has, InR has.length l from g5)
    have hm0 : has.length ≤ 1000000 := by omega
    clear g1 g2 g3 g4 g5
    by_cases hp : ps.length > 50
    · rw [if_pos hp] at h
      simp only [Option.some.injEq, Prod.mk.injEq] at h
      obtain ⟨rfl, rfl⟩ := h
      have hd1 : decide ((50 : Int) < (ps.length : Int)) = true := by simp; omega
      have hd2 : decide (50 < ps.length) = true := by simp; omega
      clear hp
      go_wp2
      go_ret2
      exact ⟨_, rfl, Kd.R_nil _ _ _ _ _, HB1.out⟩
    · rw [if_neg hp] at h
      have hd1 : decide ((50 : Int) < (ps.length : Int)) = false := by simp; omega
      have hd2 : decide (50 < ps.length) = false := by simp; omega
      have HPL := Aside0.mk hp
      have H := Aside0.mk h
      clear hp h
      go_wp2
      go_loopg [23] ps.length (fun kq v23 W => ∃ (i : Nat), v23 = .int .i64 (i : Int) ∧ Aside0 (i ≤ ps.length ∧ kq = ps.length - i) ∧ Aside0 ((ps.take i).all (inP has.length) = true) ∧ Aside0 (W.heap[w.heap.size]? = some (.cells #[.slice AH has.length cH, .slice AR roots.length cR] 25 (0, 0))) ∧ Aside0 (Below w.heap.size w W))
      case atStart => exact ⟨0, rfl, ⟨Nat.zero_le _, by omega⟩, ⟨rfl⟩, HBK1, HB1⟩
      case round =>
        obtain ⟨i, rfl, HIQ, HA, HBK, HB⟩ := hrel
        have hc0 : wr.cell? ⟨w.heap.size, 0, none⟩ = some (.slice AH has.length cH) := (blk_cell HBK.out 0).trans rfl
        have hc1 : wr.cell? ⟨w.heap.size, 1, none⟩ = some (.slice AR roots.length cR) := (blk_cell HBK.out 1).trans rfl
        have hsz : w.heap.size < wr.heap.size := blk_lt HBK.out
        by_cases hlt : i < ps.length
        · obtain ⟨ad, eA, hx0, hx1⟩ := at_pair HP.out i hlt
          subst eA
          have hx0' := (HB.out.cell (World.block_lt_of_cell? w _ hx0)).trans hx0
          have hx1' := (HB.out.cell (World.block_lt_of_cell? w _ hx1)).trans hx1
          have hp0 : (0 ≤ (i : Int)) = True := by simp
          have hp1 : ((i : Int) < (ps.length : Int)) = True := by simp; omega
          have hdec : decide ((i : Int) < (ps.length : Int)) = true := by simp; omega
          have hdec2 : decide (i < ps.length) = true := by simp; omega
          have hsn : ps.take (i + 1) = ps.take i ++ [ps.getD i z28] := by rw [List.take_succ_eq_append_getElem hlt]; simp [List.getD_eq_getElem?_getD, hlt]
          have HSN := Aside0.mk hsn
          have HLT := Aside0.mk hlt
          have hmem : ps.getD i z28 ∈ ps := by rw [List.getD_eq_getElem?_getD, List.getElem?_eq_getElem hlt]; exact List.getElem_mem hlt
          have HMEM := Aside0.mk hmem
          clear hx0 hx1 hsn hlt hmem
          obtain ⟨p, hpp⟩ : ∃ p, p = ps.getD i z28 := ⟨_, rfl⟩
          rw [← hpp] at hx0' hx1' HSN HMEM
          clear hpp
          have HC0 := Aside0.mk (in_f p.f0 has.length)
          have HC1 := Aside0.mk (in_f p.f1 has.length)
          cases h0 : inr has.length p.f0 with
          | false =>
            have HF : Aside0 (ps.all (inP has.length) = false) := ⟨by rw [List.all_eq_false]; exact ⟨p, HMEM.out, by simp [inP, h0]⟩⟩
            rw [h0] at HC0
            clear h0
            go_wp2_with (go_at_call 52; (with_reducible refine (weak_in.calls p.f0 (has.length : Int) false _ HC0.out).mono ?_); rintro e w' ⟨rfl, ⟨nd, rfl⟩⟩)
            go_ret2
            have h := H.out
            rw [if_neg (by rw [HF.out]; decide)] at h
            simp only [Option.some.injEq, Prod.mk.injEq] at h
            obtain ⟨rfl, rfl⟩ := h
            exact ⟨_, rfl, Kd.R_nil _ _ _ _ _, by repeat (first | exact HB.out | apply below_alloc | apply pw_below_drewN | apply below_drew1 | refine Below.setCell ?_ (by simp; exact HB.out.size) _)⟩
          | true =>
            rw [h0] at HC0
            cases h1 : inr has.length p.f1 with
            | false =>
              have HF : Aside0 (ps.all (inP has.length) = false) := ⟨by rw [List.all_eq_false]; exact ⟨p, HMEM.out, by simp [inP, h1]⟩⟩
              rw [h1] at HC1
              clear h0 h1
              go_wp2_with (first | (go_at_call 52; (with_reducible refine (weak_in.calls p.f0 (has.length : Int) true _ HC0.out).mono ?_); rintro e w' ⟨rfl, ⟨nd, rfl⟩⟩) | (go_at_call 52; (with_reducible refine (weak_in.calls p.f1 (has.length : Int) false _ HC1.out).mono ?_); rintro e w' ⟨rfl, ⟨nd, rfl⟩⟩))
              go_ret2
              have h := H.out
              rw [if_neg (by rw [HF.out]; decide)] at h
              simp only [Option.some.injEq, Prod.mk.injEq] at h
              obtain ⟨rfl, rfl⟩ := h
              exact ⟨_, rfl, Kd.R_nil _ _ _ _ _, by repeat (first | exact HB.out | apply below_alloc | apply pw_below_drewN | apply below_drew1 | refine Below.setCell ?_ (by simp; exact HB.out.size) _)⟩
            | true =>
              have HT : Aside0 (inP has.length p = true) := ⟨by simp [inP, h0, h1]⟩
              rw [h1] at HC1
              clear h0 h1
              go_wp2_with (first | (go_at_call 52; (with_reducible refine (weak_in.calls p.f0 (has.length : Int) true _ HC0.out).mono ?_); rintro e w' ⟨rfl, ⟨nd, rfl⟩⟩) | (go_at_call 52; (with_reducible refine (weak_in.calls p.f1 (has.length : Int) true _ HC1.out).mono ?_); rintro e w' ⟨rfl, ⟨nd, rfl⟩⟩))
              go_roundg (ps.length - (i + 1))
              case measure => have := HIQ.out; have := HLT.out; omega
              case rel =>
                refine ⟨i + 1, by first | rfl | (have := HLT.out; have := HPL.out; rw [show wrap64 ((i : Int) + 1) = ((i + 1 : Nat) : Int) from by unfold wrap64; omega]), ⟨by have := HLT.out; omega, rfl⟩, ⟨?_⟩, ⟨?_⟩, ⟨?_⟩⟩
                · rw [HSN.out, List.all_append, HA.out]; simpa using HT.out
                · repeat (first | exact HBK.out | refine blk_drewN ?_ _ | refine blk_alloc ?_ _)
                · repeat (first | exact HB.out | apply below_alloc | apply pw_below_drewN | apply below_drew1)
        · have hdec : decide ((i : Int) < (ps.length : Int)) = false := by simp; omega
          have hdec2 : decide (i < ps.length) = false := by simp; omega
          have hall : ps.all (inP has.length) = true := by
            have h_ := HA.out
            rwa [List.take_of_length_le (by omega)] at h_
          have h := H.out
          rw [if_pos hall] at h
          simp only [Option.some.injEq, Prod.mk.injEq] at h
          obtain ⟨hr1, rfl⟩ := h
          have HALL := Aside0.mk hall
          have HR1 := Aside0.mk hr1
          have hmk : ∀ W : World, (Instr.makeSlice 38 (.int .i64 (has.length : Int)) (.int .i64 (has.length : Int))).run Try.prog W = .ok (.slice (some ⟨W.heap.size, 0, none⟩) has.length has.length) (W.alloc (.cells (madeCells #[.bool false] has.length) 4)) := by
            intro W
            exact run_make_row' 38 4 (.bool false) 1 Try.underlying38 (by kernel_rfl) rfl .i64 .i64 has.length (by omega) (by omega) W
          clear hlt hall hr1 H HA HIQ
          go_wp2
          go_region
          go_wp2_with fail
          have hI : Rc w.heap.size ((wr.alloc (Obj.cells (madeCells #[.bool false] has.length) 4)).alloc (Obj.cells #[.slice AH has.length cH, .slice AR roots.length cR, .slice (some ⟨wr.heap.size, 0, none⟩) has.length has.length, .slice none 0 0] 102)).drew (wr.heap.size + 1) (.slice AH has.length cH) (.slice AR roots.length cR) (.slice none 0 0) wr.heap.size has.length (List.replicate has.length false, []) := by
            have ho := own_made_bool wr w.heap.size 4 has.length (by omega) (by omega)
            refine ⟨?_, ?_, own_nil _ _ _ _, by omega⟩
            · have h_ := heap_alloc_new (wr.alloc (Obj.cells (madeCells #[.bool false] has.length) 4)) (.cells #[.slice AH has.length cH, .slice AR roots.length cR, .slice (some ⟨wr.heap.size, 0, none⟩) has.length has.length, .slice none 0 0] 102)
              simp only [List.length_replicate]
              have hz : (wr.alloc (Obj.cells (madeCells #[.bool false] has.length) 4)).heap.size = wr.heap.size + 1 := by simp
              rw [hz] at h_
              exact h_
            · have h_ := ho.alloc (.cells #[.slice AH has.length cH, .slice AR roots.length cR, .slice (some ⟨wr.heap.size, 0, none⟩) has.length has.length, .slice none 0 0] 102)
              simp only [List.length_replicate]
              exact h_
          have HI := Aside0.mk hI
          clear hI
          refine (reach_calls w.heap.size _ (wr.heap.size + 1) (.slice AH has.length cH) (.slice AR roots.length cR) (.slice none 0 0) wr.heap.size has.length (List.replicate has.length false, []) AR cR roots HI.out ?i2 HRC.out ?i4 ?i5 ?i6).mono ?_
          case i2 => exact Kd.C_below HR.out (below_drew1 (below_alloc (below_alloc HB.out _) _))
          case i4 =>
            intro ad ha hpos
            have hb_ := block_of_C HR.out ha hpos
            unfold wr_
            simp [Value.ownBlock]
            omega
          case i5 => intro x hx; simpa using G4.out x hx
          case i6 => simp [unseen_replicate]; omega
          rintro e w2 ⟨rfl, vt2, hI2, hkp2, hm2, hb2⟩
          have hB2 : Below w.heap.size w w2 := (below_drew1 (below_alloc (below_alloc HB.out _) _)).trans hb2
          have HI2 := Aside0.mk hI2
          have HB2 := Aside0.mk hB2
          have hlen := reachL_length roots (List.replicate has.length false, [])
          have hroom := reachL_room roots (List.replicate has.length false, [])
          have hinl : InR has.length (reachL (List.replicate has.length false, []) roots).2 := reachL_in roots (fun x hx => by simp at hx) G4.out
          clear hI2 hkp2 hm2 hb2 hB2 HI HBK HBK1 HB HB1 hc0 hc1 hsz
          obtain ⟨s, hs⟩ : ∃ s, s = reachL (List.replicate has.length false, []) roots := ⟨_, rfl⟩
          rw [← hs] at hlen hroom hinl HI2
          have HFIN := Aside0.mk (show r1 = (liveR has ps (unseen s.1 + 1) s).1 from by rw [← HR1.out]; unfold liveL; rw [hs])
          have HST := Aside0.mk (show St has.length s from ⟨by simpa using hlen, hinl, by rw [hroom]; simp [unseen_replicate]; omega⟩)
          clear hs hlen hroom hinl HR1
          generalize wr.heap.size = g0 at HI2 ⊢
          go_wp2_with fail
          go_loopg [10] (unseen s.1 + 1) (fun kq v10 W => ∃ (m : Bool) (s' : List Bool × List Int) (vt' : Value), v10 = .bool m ∧ Aside0 (Heads has ps (liveR has ps (unseen s.1 + 1) s) kq m s') ∧ Aside0 (Rc w.heap.size W (g0 + 1) (.slice AH has.length cH) (.slice AR roots.length cR) vt' g0 has.length s') ∧ Aside0 (St has.length s') ∧ Aside0 (Below w.heap.size w W))
          case atStart => exact ⟨true, s, vt2, rfl, ⟨by unfold Heads; simp⟩, HI2, HST, HB2⟩
          case round =>
            obtain ⟨m, s', vt', rfl, HH0, HI, HS, HB⟩ := hrel
            cases m with
            | false =>
              obtain ⟨hg3, hs3, ht3, _⟩ := HI.out
              have hc2 : wr.cell? ⟨g0 + 1, 2, none⟩ = some (.slice (some ⟨g0, 0, none⟩) s'.1.length has.length) := (blk_cell hg3 2).trans rfl
              have HS3 := Aside0.mk hs3
              clear hg3 hs3 ht3
              go_wp2
              go_ret2
              have hf : s' = liveR has ps (unseen s.1 + 1) s := by have h_ := HH0.out; unfold Heads at h_; simpa using h_
              refine ⟨_, rfl, ?_, HB.out⟩
              rw [HFIN.out, ← hf]
              exact Kd.R_of_own (enc := Value.bool) (h1 := fun _ => rfl) HS3.out (fun _ _ => trivial)
            | true =>
              have hh : liveR has ps gk s' = liveR has ps (unseen s.1 + 1) s ∧ unseen s'.1 < gk := by have h_ := HH0.out; unfold Heads at h_; simpa using h_
              obtain ⟨k', rfl⟩ : ∃ k', gk = k' + 1 := ⟨gk - 1, by omega⟩
              have HK0 := Aside0.mk hh
              clear hh HH0
              go_wp2_with fail
              refine (all_calls w _ (g0 + 1) AH cH has (.slice AR roots.length cR) vt' g0 has.length s' HI.out HB.out HH.out HS.out.len HS.out.todo G5.out HS.out.room).mono ?_
              rintro e w3 ⟨rfl, vt3, hI3, hfin, hkp3, hm3, hb3⟩
              have HI3 := Aside0.mk hI3
              have HB3 := Aside0.mk hb3
              have HS3 := Aside0.mk (St.all G5.out (meas s') HS.out)
              have HU3 := Aside0.mk (allL_unseen has (meas s') s')
              clear hI3 hfin hkp3 hm3 hb3 HI HB HS
              obtain ⟨s1, hs1⟩ : ∃ s1, s1 = allL has (meas s') s' := ⟨_, rfl⟩
              rw [← hs1] at HI3 HS3 HU3
              have HS1 := Aside0.mk hs1
              clear hs1
              go_wp2
              go_loopg [10, 60] ps.length (fun kq v10 v60 W => ∃ (i : Nat) (m : Bool) (s2 : List Bool × List Int) (vt2 : Value), v60 = .int .i64 (i : Int) ∧ v10 = .bool m ∧ Aside0 (i ≤ ps.length ∧ kq = ps.length - i) ∧ Aside0 ((s2, m) = scanL s1 (ps.take i)) ∧ Aside0 (Rc w.heap.size W (g0 + 1) (.slice AH has.length cH) (.slice AR roots.length cR) vt2 g0 has.length s2) ∧ Aside0 (St has.length s2) ∧ Aside0 (Below w.heap.size w W))
              case atStart => exact ⟨0, false, s1, vt3, rfl, rfl, ⟨Nat.zero_le _, by omega⟩, ⟨rfl⟩, HI3, HS3, HB3⟩
              case round =>
                obtain ⟨i, m, s2, vt2', rfl, rfl, HIQ, HA, HI, HS, HB⟩ := hrel
                by_cases hlt : i < ps.length
                · obtain ⟨ad, eA, hx0, hx1⟩ := at_pair HP.out i hlt
                  subst eA
                  have hx0' := (HB.out.cell (World.block_lt_of_cell? w _ hx0)).trans hx0
                  have hx1' := (HB.out.cell (World.block_lt_of_cell? w _ hx1)).trans hx1
                  have hp0 : (0 ≤ (i : Int)) = True := by simp
                  have hp1 : ((i : Int) < (ps.length : Int)) = True := by simp; omega
                  have hdec : decide ((i : Int) < (ps.length : Int)) = true := by simp; omega
                  have hdec2 : decide (i < ps.length) = true := by simp; omega
                  have hsn : ps.take (i + 1) = ps.take i ++ [ps.getD i z28] := by rw [List.take_succ_eq_append_getElem hlt]; simp [List.getD_eq_getElem?_getD, hlt]
                  have HSN := Aside0.mk hsn
                  have HLT := Aside0.mk hlt
                  have hmem : ps.getD i z28 ∈ ps := by rw [List.getD_eq_getElem?_getD, List.getElem?_eq_getElem hlt]; exact List.getElem_mem hlt
                  have hin := List.all_eq_true.1 HALL.out _ hmem
                  simp only [inP, inr, Bool.and_eq_true, decide_eq_true_eq] at hin
                  clear hx0 hx1 hsn hlt hmem
                  obtain ⟨p, hpp⟩ : ∃ p, p = ps.getD i z28 := ⟨_, rfl⟩
                  rw [← hpp] at hx0' hx1' HSN hin
                  clear hpp
                  obtain ⟨hg, hs, ht, hBg⟩ := HI.out
                  have hlen := HS.out.len
                  have hsz : g0 + 1 < wr.heap.size := blk_lt hg
                  have hc2 : wr.cell? ⟨g0 + 1, 2, none⟩ = some (.slice (some ⟨g0, 0, none⟩) s2.1.length has.length) := (blk_cell hg 2).trans rfl
                  have hgz : g0 < wr.heap.size := own_lt hs g0 rfl
                  have hk0 : wr.cell? ⟨g0, p.f0.toNat, none⟩ = some (.bool (s2.1.getD p.f0.toNat true)) := by
                    have h_ := hs.cells (g := g0) rfl p.f0.toNat _ (bools_get _ _ (by omega))
                    rwa [add_plain] at h_
                  have hk1 : wr.cell? ⟨g0, p.f1.toNat, none⟩ = some (.bool (s2.1.getD p.f1.toNat true)) := by
                    have h_ := hs.cells (g := g0) rfl p.f1.toNat _ (bools_get _ _ (by omega))
                    rwa [add_plain] at h_
                  have he0 : s2.1.getD p.f0.toNat false = s2.1.getD p.f0.toNat true := by
                    rw [List.getD_eq_getElem?_getD, List.getD_eq_getElem?_getD, List.getElem?_eq_getElem (by omega)]
                    rfl
                  have hq0 : (0 ≤ p.f0) = True := eq_true hin.1.1
                  have hq1 : (p.f0 < (s2.1.length : Int)) = True := eq_true (by rw [hlen]; exact hin.1.2)
                  have hq2 : (0 ≤ p.f1) = True := eq_true hin.2.1
                  have hq3 : (p.f1 < (s2.1.length : Int)) = True := eq_true (by rw [hlen]; exact hin.2.2)
                  have HIN := Aside0.mk hin
                  have HE0 := Aside0.mk he0
                  clear hg hs ht hBg hlen hin he0
                  have hi1 : wrap64 ((i : Int) + 1) = ((i + 1 : Nat) : Int) := by have := HLT.out; have := HPL.out; unfold wrap64; omega
                  have HI1 := Aside0.mk hi1
                  clear hi1
                  cases hb0 : s2.1.getD p.f0.toNat true with
                  | false =>
                    rw [hb0] at hk0
                    have HS1' : Aside0 (scanL s1 (ps.take (i + 1)) = (s2, m)) := ⟨by
                      rw [HSN.out, scanL_snoc, ← HA.out, scan1, if_neg]
                      intro hx
                      have h_ := hx.1
                      simp only at h_
                      rw [HE0.out, hb0] at h_
                      exact absurd h_ (by decide)⟩
                    clear hb0
                    go_wp2
                    go_quiet (fail)
                    go_wp2
                    go_roundg (ps.length - (i + 1))
                    case measure => have := HIQ.out; have := HLT.out; omega
                    case rel =>
                      refine ⟨i + 1, m, s2, vt2', by first | rfl | rw [HI1.out], rfl, ⟨by have := HLT.out; omega, rfl⟩, ⟨HS1'.out.symm⟩, ⟨?_⟩, HS, ⟨?_⟩⟩
                      · exact Rc.alloc_drew HI.out _ _
                      · repeat (first | exact HB.out | apply below_alloc | apply pw_below_drewN | apply below_drew1)
                  | true =>
                    rw [hb0] at hk0
                    cases hb1 : s2.1.getD p.f1.toNat true with
                    | true =>
                      rw [hb1] at hk1
                      have HS1' : Aside0 (scanL s1 (ps.take (i + 1)) = (s2, m)) := ⟨by
                        rw [HSN.out, scanL_snoc, ← HA.out, scan1, if_neg]
                        intro hx
                        have h_ := hx.2
                        simp only at h_
                        rw [hb1] at h_
                        exact absurd h_ (by decide)⟩
                      clear hb0 hb1
                      go_wp2
                      go_quiet (fail)
                      go_wp2
                      go_roundg (ps.length - (i + 1))
                      case measure => have := HIQ.out; have := HLT.out; omega
                      case rel =>
                        refine ⟨i + 1, m, s2, vt2', by first | rfl | rw [HI1.out], rfl, ⟨by have := HLT.out; omega, rfl⟩, ⟨HS1'.out.symm⟩, ⟨?_⟩, HS, ⟨?_⟩⟩
                        · exact Rc.alloc_drew HI.out _ _
                        · repeat (first | exact HB.out | apply below_alloc | apply pw_below_drewN | apply below_drew1)
                    | false =>
                      rw [hb1] at hk1
                      have HS1' : Aside0 (scanL s1 (ps.take (i + 1)) = (reachL s2 [p.f1], true)) := ⟨by
                        rw [HSN.out, scanL_snoc, ← HA.out, scan1, if_pos ⟨by simp only; rw [HE0.out, hb0], by simp only; rw [hb1]⟩]⟩
                      clear hb0 hb1
                      go_wp2
                      go_quiet (fail)
                      go_wp2_with fail
                      have HI4 := Aside0.mk ((Rc.alloc_drew HI.out (.cells #[.int .i64 p.f0, .int .i64 p.f1] 28) nq).alloc (.cells #[.int .i64 p.f1] 3))
                      have HB4 : Aside0 (Below w.heap.size w (((wr.alloc (Obj.cells #[.int .i64 p.f0, .int .i64 p.f1] 28)).drewN nq).alloc (Obj.cells #[.int .i64 p.f1] 3))) := ⟨below_alloc (pw_below_drewN (below_alloc HB.out _) _) _⟩
                      have hlit := C_lit ((wr.alloc (Obj.cells #[.int .i64 p.f0, .int .i64 p.f1] 28)).drewN nq) p.f1
                      have hz4 : ((wr.alloc (Obj.cells #[.int .i64 p.f0, .int .i64 p.f1] 28)).drewN nq).heap.size = wr.heap.size + 1 := by simp
                      rw [hz4] at hlit
                      have HLIT := Aside0.mk hlit
                      have hin1 : InR has.length [p.f1] := fun x hx => by rw [List.mem_singleton.1 hx]; have := HIN.out; omega
                      have HIN1 := Aside0.mk hin1
                      have HVT := Aside0.mk (show ∀ k, vt2'.ownBlock = some k → k < wr.heap.size from fun k hk => own_lt HI.out.2.2.1 k hk)
                      clear hlit hz4 hin1
                      refine (reach_calls w.heap.size _ (g0 + 1) (.slice AH has.length cH) (.slice AR roots.length cR) vt2' g0 has.length s2 (some ⟨wr.heap.size + 1, 0, none⟩) 1 [p.f1] HI4.out HLIT.out (Nat.le_refl _) ?i4 ?i5 HS.out.room).mono ?_
                      case i4 =>
                        intro ad_ ha _
                        injection ha with ha
                        subst ha
                        unfold wr_
                        intro hx
                        rcases hx with hx | hx | hx
                        · simp at hx; omega
                        · simp at hx; omega
                        · have h_ := HVT.out (wr.heap.size + 1) hx.symm; omega
                      case i5 => intro x hx; have h_ := HIN1.out x hx; rw [HS.out.len]; exact h_
                      rintro e w4 ⟨rfl, vt4, hI4, hkp4, hm4, hb4⟩
                      have HI5 := Aside0.mk hI4
                      have HB5 := Aside0.mk (HB4.out.trans hb4)
                      have HS5 := Aside0.mk (HS.out.reach [p.f1] HIN1.out)
                      clear hI4 hkp4 hm4 hb4
                      go_wp2
                      go_roundg (ps.length - (i + 1))
                      case measure => have := HIQ.out; have := HLT.out; omega
                      case rel => exact ⟨i + 1, true, reachL s2 [p.f1], vt4, by first | rfl | rw [HI1.out], rfl, ⟨by have := HLT.out; omega, rfl⟩, ⟨HS1'.out.symm⟩, HI5, HS5, HB5⟩
                · have hdec : decide ((i : Int) < (ps.length : Int)) = false := by simp; omega
                  have hdec2 : decide (i < ps.length) = false := by simp; omega
                  have HLT := Aside0.mk hlt
                  clear hlt
                  go_wp2
                  go_roundg k'
                  case measure => omega
                  case rel =>
                    have hsc : scanL s1 ps = (s2, m) := by
                      have h_ := HA.out
                      rw [List.take_of_length_le (by have := HLT.out; omega)] at h_
                      exact h_.symm
                    refine ⟨m, s2, vt2', rfl, ⟨?_⟩, HI, HS, HB⟩
                    have h1 := HK0.out.1
                    rw [liveR, ← HS1.out, hsc] at h1
                    unfold Heads
                    cases m with
                    | false => simpa using h1
                    | true =>
                      have hu := scanL_unseen s1 ps (by rw [hsc])
                      rw [hsc] at hu
                      simp only at hu
                      have hu3 := HU3.out
                      have hk := HK0.out.2
                      simp only [if_true] at h1 ⊢
                      exact ⟨h1, by omega⟩
  · rw [if_neg he] at h
    simp only [Option.some.injEq, Prod.mk.injEq] at h
    obtain ⟨rfl, rfl⟩ := h
    have hb : (e != 0) = true := by simpa using he
    clear he
    go_wp2
    go_ret2
    exact ⟨_, rfl, Kd.R_nil _ _ _ _ _, HB1.out⟩
end Go.Proofs.Ytoleplbmkdhgeaa.Rch
