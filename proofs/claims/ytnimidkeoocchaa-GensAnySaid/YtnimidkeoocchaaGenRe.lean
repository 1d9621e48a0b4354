/- Package gens: the literal of minor, which marks what it is handed. -/
import Derived.Test.YtnimidkeoocchaaGenBa
import Derived.Test.YtnimidkeoocchaaRowQ
set_option linter.unusedVariables false
set_option linter.unusedSimpArgs false
namespace Go.Proofs.Ytnimidkeoocchaa.Gen
open Go.RowKit Go.Proofs.YtnimidkeoocchaaW.PrintWords Go.Proofs.YtnimidkeoocchaaW.PrintLast Go.Proofs.YtnimidkeoocchaaW.PrintMore Go.Proofs.Ytnimidkeoocchaa.PG Go.Proofs.Ytnimidkeoocchaa.Hnd

/-- What is marked, and what is still to be gone through. -/
structure Mi (W : World) (bs b1 b3 b4 g : Nat) (AS : Option Addr) (cS : Nat) (st : List Bool) (vT : Value) (td : List Int) : Prop where
  e1 : W.heap[b1]? = some (.cells #[.pointer (some ⟨g, 0, none⟩)] 24 (0, 0))
  e3 : W.heap[b3]? = some (.cells #[.slice AS st.length cS] 48 (0, 0))
  e4 : W.heap[b4]? = some (.cells #[vT] 29 (0, 0))
  sr : W.ownsRow bs 4 1 (.slice AS st.length cS) st.length (st.map Value.bool)
  tq : RowQ W bs 3 vT (td.map (Value.int .i64))
  g1 : bs ≤ b1
  g3 : bs ≤ b3
  g4 : bs ≤ b4
def reach1 (l : List Th) (s : List Bool × List Int) (k : Int) : List Bool × List Int := if (youngB l k && !s.1.getD k.toNat false) = true then (s.1.set k.toNat true, s.2 ++ [k]) else s
def reachL (l : List Th) (s : List Bool × List Int) (ks : List Int) : List Bool × List Int := ks.foldl (reach1 l) s
theorem reach1_len (l : List Th) (s : List Bool × List Int) (k : Int) : (reach1 l s k).1.length = s.1.length ∧ (reach1 l s k).2.length ≤ s.2.length + 1 := by
  unfold reach1
  split
  · simp
  · exact ⟨rfl, by omega⟩
theorem reachL_len (l : List Th) : ∀ (ks : List Int) (s : List Bool × List Int), (reachL l s ks).1.length = s.1.length ∧ (reachL l s ks).2.length ≤ s.2.length + ks.length
  | [], s => ⟨rfl, Nat.le_refl _⟩
  | k :: ks, s => by
    have h1 := reach1_len l s k
    have h2 := reachL_len l ks (reach1 l s k)
    unfold reachL at h2 ⊢
    rw [List.foldl_cons]
    refine ⟨by rw [h2.1, h1.1], ?_⟩
    have h3 := h2.2
    rw [List.length_cons]
    omega
theorem reachL_next (l : List Th) (s : List Bool × List Int) {ks : List Int} {i : Nat} (h : i < ks.length) : reachL l s (ks.take (i + 1)) = reach1 l (reachL l s (ks.take i)) ks[i] := by
  unfold reachL
  rw [List.take_succ_eq_append_getElem h, List.foldl_append]; rfl
theorem Mi.below {W W' : World} {bs b1 b3 b4 g : Nat} {AS : Option Addr} {cS : Nat} {st : List Bool} {vT : Value} {td : List Int} (h : Mi W bs b1 b3 b4 g AS cS st vT td) (hb : Below W.heap.size W W') : Mi W' bs b1 b3 b4 g AS cS st vT td :=
  ⟨blk_below h.e1 hb, blk_below h.e3 hb, blk_below h.e4 hb, own_same h.sr (fun k hk => hb.block k (h.sr.lt k hk).2), h.tq.same (fun k hk => hb.block k (h.tq.lt k hk).2), h.g1, h.g3, h.g4⟩
/-- One is marked, and put behind. -/
theorem Mi.mark {W W1 : World} {bs b1 b3 b4 g q : Nat} {cS : Nat} {st : List Bool} {vT v1 : Value} {td : List Int} {k : Int} (h : Mi W bs b1 b3 b4 g (some ⟨q, 0, none⟩) cS st vT td) (i : Nat)
    (hq : RowQ W1 bs 3 v1 ((td ++ [k]).map (Value.int .i64))) (hg : (W.setCell ⟨q, i, none⟩ (.bool true)).grownBy W1 vT.ownBlock) (hat : v1.ownBlock = vT.ownBlock ∨ ∃ b, v1.ownBlock = some b ∧ W.heap.size ≤ b) :
    Mi (W1.setCell ⟨b4, 0, none⟩ v1) bs b1 b3 b4 g (some ⟨q, 0, none⟩) cS (st.set i true) v1 (td ++ [k]) := by
  have hz : (W.setCell ⟨q, i, none⟩ (.bool true)).heap.size = W.heap.size := by simp
  have hs := (World.ownsRow.stored h.sr i (.bool true)).1
  have hqc := own_ty h.sr q rfl
  obtain ⟨curq, hqc⟩ := hqc
  have hk : ∀ k, k < W.heap.size → k ≠ q → some k ≠ vT.ownBlock → W1.heap[k]? = W.heap[k]? := fun k hk hn ht => (hg.block k (by rw [hz]; exact hk) ht).trans (heap_setCell_other W _ k _ hn)
  have ne1 : some b1 ≠ vT.ownBlock := fun e => by obtain ⟨c, hc⟩ := h.tq.ty b1 e.symm; exact blk_ne hc h.e1 (by decide) rfl
  have ne3 : some b3 ≠ vT.ownBlock := fun e => by obtain ⟨c, hc⟩ := h.tq.ty b3 e.symm; exact blk_ne hc h.e3 (by decide) rfl
  have ne4 : some b4 ≠ vT.ownBlock := fun e => by obtain ⟨c, hc⟩ := h.tq.ty b4 e.symm; exact blk_ne hc h.e4 (by decide) rfl
  have neq : some q ≠ vT.ownBlock := fun e => by obtain ⟨c, hc⟩ := h.tq.ty q e.symm; exact blk_ne hc hqc (by decide) rfl
  have f1 := (hk b1 (blk_lt h.e1) (blk_ne h.e1 hqc (by decide)) ne1).trans h.e1
  have f3 := (hk b3 (blk_lt h.e3) (blk_ne h.e3 hqc (by decide)) ne3).trans h.e3
  have f4 := (hk b4 (blk_lt h.e4) (blk_ne h.e4 hqc (by decide)) ne4).trans h.e4
  have hs1 : W1.ownsRow bs 4 1 (.slice (some ⟨q, 0, none⟩) st.length cS) st.length ((st.map Value.bool).set i (.bool true)) := own_same hs (fun k hk' => by
    have e : k = q := by simpa [Value.ownBlock] using hk'.symm
    subst e
    exact hg.block k (by rw [hz]; exact blk_lt hqc) neq)
  have hl : ∀ k, k ≠ b4 → (W1.setCell ⟨b4, 0, none⟩ v1).heap[k]? = W1.heap[k]? := fun k hn => heap_setCell_other W1 _ k _ hn
  refine ⟨(hl b1 (blk_ne h.e1 h.e4 (by decide))).trans f1, by rw [List.length_set]; exact (hl b3 (blk_ne h.e3 h.e4 (by decide))).trans f3, by simpa using blk_set f4 0 v1, ?_, hq.same (fun k hk' => hl k (fun e => ?_)), h.g1, h.g3, h.g4⟩
  · rw [List.length_set, List.map_set]
    exact own_same hs1 (fun k hk' => hl k (fun e => by
      have e2 : k = q := by simpa [Value.ownBlock] using hk'.symm
      exact blk_ne hqc h.e4 (by decide) (e2.symm.trans e)))
  · obtain ⟨c, hc⟩ := hq.ty k hk'
    exact blk_ne hc f4 (by decide) e
/-- What the literal may change of what was there. -/
def Sr (b4 : Nat) (vS vT : Value) (k : Nat) : Prop := k = b4 ∨ vS.ownBlock = some k ∨ vT.ownBlock = some k
theorem Mi.sr_in {W : World} {bs b1 b3 b4 g : Nat} {AS : Option Addr} {cS : Nat} {st : List Bool} {vT : Value} {td : List Int} (h : Mi W bs b1 b3 b4 g AS cS st vT td) {n : Nat} (hn : n = st.length) : ∀ k, Sr b4 (.slice AS n cS) vT k → bs ≤ k ∧ k < W.heap.size := by
  subst hn
  rintro k (rfl | hk | hk)
  · exact ⟨h.g4, blk_lt h.e4⟩
  · exact h.sr.lt k hk
  · exact h.tq.lt k hk
set_option maxHeartbeats 16000000 in
set_option maxRecDepth 100000 in
theorem reach_calls (w : World) {ok : Nat → Prop} {g : Nat} {nur : Int} {mb cn : Nat} {rm : Int → Bool} {v : Value} {ps : List Value} {l : List Th} (h : GS w ok g nur mb cn rm v ps l) {bs b1 b3 b4 : Nat} (hok : ∀ k, ok k → k < bs)
    {AS : Option Addr} {cS : Nat} {st : List Bool} {vT : Value} {td : List Int} (hm : Mi w bs b1 b3 b4 g AS cS st vT td) (hst : st.length = l.length) (htd : td.length ≤ 10000)
    (AL : Option Addr) (cL : Nat) (ks : List Int) (hL : ∀ W, Fr (Sr b4 (.slice AS l.length cS) vT) w W → (Kd.int .i64).C W AL ks.length ks) (hkl : ∀ k ∈ ks, k < (l.length : Int)) (hz : ks.length ≤ 1000) (hbs : bs ≤ w.heap.size) :
    Calls Try.prog 67 #[.slice AL ks.length cL, .pointer (some ⟨b1, 0, none⟩), .pointer (some ⟨b3, 0, none⟩), .pointer (some ⟨b4, 0, none⟩)] w fun e w' => e = .returned (.tuple #[]) ∧ (∃ vT', Mi w' bs b1 b3 b4 g AS cS (reachL l (st, td) ks).1 vT' (reachL l (st, td) ks).2) ∧ Below bs w w' ∧ Fr (Sr b4 (.slice AS l.length cS) vT) w w' := by
  have HM := Aside0.mk h
  have HK := Aside0.mk hok
  have HMI := Aside0.mk hm
  have HST := Aside0.mk hst
  have HTD := Aside0.mk htd
  have HL := Aside0.mk hL
  have HKL := Aside0.mk hkl
  have HZ := Aside0.mk hz
  have HBS := Aside0.mk hbs
  have HU := Try.underlying29
  have HSRI := Aside0.mk (hm.sr_in hst.symm)
  clear h hok hm hst htd hL hkl hz hbs
  go_enter Try.func67, Try.ntmps67
  go_wp2
  go_loopg [9] ks.length (fun kq v9 W => ∃ (i : Nat) (vT1 : Value), v9 = .int .i64 (i : Int) ∧ Aside0 (i ≤ ks.length ∧ kq = ks.length - i) ∧ Aside0 (Mi W bs b1 b3 b4 g AS cS (reachL l (st, td) (ks.take i)).1 vT1 (reachL l (st, td) (ks.take i)).2) ∧ Aside0 (Below bs w W) ∧ Aside0 (Fr (Sr b4 (.slice AS l.length cS) vT) w W ∧ (vT1.ownBlock = vT.ownBlock ∨ ∃ b, vT1.ownBlock = some b ∧ w.heap.size ≤ b)))
  case atStart => exact ⟨0, vT, rfl, ⟨Nat.zero_le _, by omega⟩, HMI, ⟨Below.refl _ _⟩, ⟨Fr.refl _ _, .inl rfl⟩⟩
  case round =>
    obtain ⟨i, vT1, rfl, HIQ, HW, HB, HFR⟩ := hrel
    by_cases hlt : i < ks.length
    · have hi0 : (0 : Int) ≤ (i : Int) := by omega
      have hi1 : (i : Int) < (ks.length : Int) := by omega
      obtain ⟨ad, e, hx⟩ := Kd.at_int (HL.out _ HFR.out.1) (i : Int) (by omega) (by omega)
      rw [Int.toNat_natCast, rdI hlt] at hx
      subst e
      have hdec : decide ((i : Int) < (ks.length : Int)) = true := decide_eq_true hi1
      have hdec2 : decide (i < ks.length) = true := decide_eq_true hlt
      have HLT := Aside0.mk hlt
      have HW64 : Aside0 (wrap64 ((i : Int) + 1) = ((i + 1 : Nat) : Int)) := ⟨by have := HZ.out; unfold wrap64; omega⟩
      have HNX := Aside0.mk (reachL_next l (st, td) hlt)
      have HKI := Aside0.mk (HKL.out _ (List.getElem_mem hlt))
      have HRL := Aside0.mk (reachL_len l (ks.take i) (st, td))
      generalize ks[i] = k at hx HNX HKI
      obtain ⟨st1, td1, hsp⟩ : ∃ st1 td1, reachL l (st, td) (ks.take i) = (st1, td1) := ⟨_, _, rfl⟩
      rw [hsp] at HW HNX HRL
      have HW : Aside0 (Mi wr bs b1 b3 b4 g AS cS st1 vT1 td1) := HW
      have HS1 : Aside0 (st1.length = l.length) := ⟨by have := HRL.out.1; have := HST.out; simp at *; omega⟩
      have HT1 : Aside0 (td1.length ≤ 11000) := ⟨by have h_ := HRL.out.2; rw [List.length_take] at h_; have := HTD.out; have := HZ.out; simp at h_; omega⟩
      have HM1 : Aside0 (GS wr ok g nur mb cn rm v ps l) := ⟨HM.out.step (fun k hk ho => HB.out.block k (HK.out k ho))⟩
      have HYC := Aside0.mk (isYoung_calls wr k HM1.out HKI.out)
      have d1 : wr.cell? ⟨b1, 0, none⟩ = some (.pointer (some ⟨g, 0, none⟩)) := (blk_cell HW.out.e1 0).trans rfl
      clear hsp
      cases hy : youngB l k with
      | false =>
        rw [hy] at HYC
        have HE : Aside0 (reachL l (st, td) (ks.take (i + 1)) = (st1, td1)) := ⟨by rw [HNX.out]; unfold reach1; rw [hy, Bool.false_and, if_neg (by decide)]⟩
        clear hy hlt
        go_wp2_with fail
        refine HYC.out.mono ?_
        rintro e w3 ⟨rfl, hb3⟩
        have HB3 : Aside0 (Below bs w w3) := ⟨HB.out.trans (below_cut hb3 (Nat.le_trans HBS.out HB.out.size))⟩
        go_wp2_with fail
        go_roundg (ks.length - (i + 1))
        case measure => have := HIQ.out; have := HLT.out; omega
        case rel => exact ⟨i + 1, vT1, by first | rfl | rw [HW64.out], ⟨by have := HLT.out; omega, rfl⟩, ⟨by rw [HE.out]; exact HW.out.below hb3⟩, HB3, ⟨HFR.out.1.below hb3, HFR.out.2⟩⟩
      | true =>
        rw [hy] at HYC
        have hk0 : 0 ≤ k := by unfold youngB at hy; simp at hy; exact hy.1
        obtain ⟨m, rfl⟩ : ∃ m : Nat, k = m := ⟨k.toNat, by omega⟩
        have hms : m < st1.length := by have := HS1.out; have := HKI.out; omega
        obtain ⟨q, eS⟩ : ∃ q, AS = some ⟨q, 0, none⟩ := by
          obtain ⟨q, cap, e⟩ := own_nth HW.out.sr (by omega)
          injection e with e _ _
          exact ⟨q, e⟩
        subst eS
        have hm0 : (0 : Int) ≤ (m : Int) := by omega
        have hm1 : (m : Int) < (st1.length : Int) := by omega
        have HMS := Aside0.mk hms
        cases hs : st1.getD m false with
        | true =>
          have HE : Aside0 (reachL l (st, td) (ks.take (i + 1)) = (st1, td1)) := ⟨by rw [HNX.out]; unfold reach1; rw [hy, Int.toNat_natCast]; simp only []; rw [hs, if_neg (by decide)]⟩
          have HSV : Aside0 (∀ W', Below wr.heap.size wr W' → W'.cell? ⟨q, m, none⟩ = some (.bool true)) := ⟨fun W' hb => by
            have h_ := World.ownsRow.cellAt (own_same HW.out.sr (fun k hk => hb.block k (HW.out.sr.lt k hk).2)) m (by omega)
            rw [h_, List.getElem?_map, List.getElem?_eq_getElem HMS.out]
            have e_ : st1[m] = true := by rw [← hs, List.getD_eq_getElem?_getD, List.getElem?_eq_getElem HMS.out]; rfl
            rw [e_]; rfl⟩
          clear hy hs hlt hk0 hms
          go_wp2_with fail
          refine HYC.out.mono ?_
          rintro e w3 ⟨rfl, hb3⟩
          have HB3 : Aside0 (Below bs w w3) := ⟨HB.out.trans (below_cut hb3 (Nat.le_trans HBS.out HB.out.size))⟩
          have HW3 := Aside0.mk (HW.out.below hb3)
          have d3 : w3.cell? ⟨b3, 0, none⟩ = some (.slice (some ⟨q, 0, none⟩) st1.length cS) := (blk_cell HW3.out.e3 0).trans rfl
          have dm := HSV.out w3 hb3
          have HF3 := Aside0.mk (HFR.out.1.below hb3)
          clear hb3
          go_wp2_with fail
          go_roundg (ks.length - (i + 1))
          case measure => have := HIQ.out; have := HLT.out; omega
          case rel => exact ⟨i + 1, vT1, by first | rfl | rw [HW64.out], ⟨by have := HLT.out; omega, rfl⟩, ⟨by rw [HE.out]; exact HW3.out⟩, HB3, ⟨HF3.out, HFR.out.2⟩⟩
        | false =>
          have HE : Aside0 (reachL l (st, td) (ks.take (i + 1)) = (st1.set m true, td1 ++ [(m : Int)])) := ⟨by rw [HNX.out]; unfold reach1; rw [hy, Int.toNat_natCast]; simp only []; rw [hs, if_pos (by decide)]⟩
          have HFV : Aside0 (∀ W', Below wr.heap.size wr W' → W'.cell? ⟨q, m, none⟩ = some (.bool false)) := ⟨fun W' hb => by
            have h_ := World.ownsRow.cellAt (own_same HW.out.sr (fun k hk => hb.block k (HW.out.sr.lt k hk).2)) m (by omega)
            rw [h_, List.getElem?_map, List.getElem?_eq_getElem HMS.out]
            have e_ : st1[m] = false := by rw [← hs, List.getD_eq_getElem?_getD, List.getElem?_eq_getElem HMS.out]; rfl
            rw [e_]; rfl⟩
          clear hy hs hlt hk0 hms
          go_wp2_with fail
          refine HYC.out.mono ?_
          rintro e w3 ⟨rfl, hb3⟩
          have HB3 : Aside0 (Below bs w w3) := ⟨HB.out.trans (below_cut hb3 (Nat.le_trans HBS.out HB.out.size))⟩
          have HW3 := Aside0.mk (HW.out.below hb3)
          have d3 : w3.cell? ⟨b3, 0, none⟩ = some (.slice (some ⟨q, 0, none⟩) st1.length cS) := (blk_cell HW3.out.e3 0).trans rfl
          have dm := HFV.out w3 hb3
          have HF3 : Aside0 (Fr (Sr b4 (.slice (some ⟨q, 0, none⟩) l.length cS) vT) w (w3.setCell ⟨q, m, none⟩ (.bool true))) := ⟨(HFR.out.1.below hb3).set (p := ⟨q, m, none⟩) (.inl (.inr (.inl rfl))) _⟩
          have hzm : w3.frozen? ⟨q, m, none⟩ = false := World.ownsRow.frozenAt HW3.out.sr m
          obtain ⟨curq, hqc⟩ := own_ty HW3.out.sr q rfl
          have hqne : q ≠ b4 := blk_ne hqc HW3.out.e4 (by decide)
          have hqT : some q ≠ vT1.ownBlock := fun e => by obtain ⟨c, hc⟩ := HW3.out.tq.ty q e.symm; exact blk_ne hc hqc (by decide) rfl
          have HQB : Aside0 (bs ≤ q) := ⟨(HW3.out.sr.lt q rfl).1⟩
          have hk4 : ∀ k, k ≠ q → (w3.setCell ⟨q, m, none⟩ (.bool true)).heap[k]? = w3.heap[k]? := fun k hn => heap_setCell_other w3 _ k _ hn
          have d4 : (w3.setCell ⟨q, m, none⟩ (.bool true)).cell? ⟨b4, 0, none⟩ = some vT1 := (blk_cell ((hk4 b4 (Ne.symm hqne)).trans HW3.out.e4) 0).trans rfl
          have HTQ : Aside0 (RowQ (w3.setCell ⟨q, m, none⟩ (.bool true)) bs 3 vT1 (td1.map (Value.int .i64))) := ⟨HW3.out.tq.same (fun k hk => hk4 k (fun e => hqT (by rw [hk, e])))⟩
          have HB4 : Aside0 (Below bs w (w3.setCell ⟨q, m, none⟩ (.bool true))) := ⟨HB3.out.setCell (p := ⟨q, m, none⟩) HQB.out _⟩
          have hsz4 : (w3.setCell ⟨q, m, none⟩ (.bool true)).heap.size = w3.heap.size := by simp
          have HSZ4 := Aside0.mk hsz4
          have HE4 : Aside0 ((w3.setCell ⟨q, m, none⟩ (.bool true)).heap[b4]? = some (.cells #[vT1] 29 (0, 0))) := ⟨(hk4 b4 (Ne.symm hqne)).trans HW3.out.e4⟩
          have HNE4 : Aside0 (some b4 ≠ vT1.ownBlock) := ⟨fun e => by obtain ⟨c, hc⟩ := HW3.out.tq.ty b4 e.symm; exact blk_ne hc HW3.out.e4 (by decide) rfl⟩
          obtain ⟨AT, cT, eT, _⟩ := HTQ.out.shape
          rw [List.length_map] at eT
          subst eT
          clear hb3 hqc hqne hqT hk4 hsz4
          go_wp2_with (first | ((with_reducible refine gate_builtin (b := .append) (xs := #[.tmp 26, .tmp 28]) rfl ?_); refine append_q (w0 := w) bs rfl (.tmp 26) (.tmp 28) 29 3 (.int .i64 0) 8 rfl HU info_i rfl (by decide) (.slice AT td1.length cT) (td1.map (Value.int .i64)) (.int .i64 (m : Int)) rfl ?hx rfl HTQ.out HB4.out (Nat.le_trans HBS.out HB4.out.size) ?hl ?_; (case hx => rw [HSZ4.out]; rfl); (case hl => have h_ := HT1.out; rw [List.length_map]; omega); intro v5 w5 hq5 hb5 hg5 hat5; obtain ⟨A5, c5, e5, _⟩ := hq5.shape; have e5' : v5 = .slice A5 (td1.length + 1) c5 := (by simpa using e5); clear e5; subst e5'; have HQ5 := Aside0.mk hq5; have HB5 := Aside0.mk hb5; have HG5 := Aside0.mk hg5; have HAT5 := Aside0.mk hat5; have HE5 := Aside0.mk (blk_grown HE4.out hg5 HNE4.out); clear hq5 hb5 hg5 hat5; have d5 : w5.cell? ⟨b4, 0, none⟩ = some (.slice AT td1.length cT) := (blk_cell HE5.out 0).trans rfl; have f5 : w5.frozen? ⟨b4, 0, none⟩ = false := blk_frozen HE5.out 0))
          have HQ5b : RowQ w5 bs 3 (.slice A5 (td1.length + 1) c5) ((td1 ++ [(m : Int)]).map (Value.int .i64)) := by rw [List.map_append]; exact HQ5.out
          have HFIN := Aside0.mk (HW3.out.mark m HQ5b HG5.out (by rw [← HSZ4.out]; exact HAT5.out))
          have HFX : Aside0 (Fr (Sr b4 (.slice (some ⟨q, 0, none⟩) l.length cS) vT) w (w5.setCell ⟨b4, 0, none⟩ (.slice A5 (td1.length + 1) c5)) ∧ ((Value.slice A5 (td1.length + 1) c5).ownBlock = vT.ownBlock ∨ ∃ b, (Value.slice A5 (td1.length + 1) c5).ownBlock = some b ∧ w.heap.size ≤ b)) := by
            have hgr : ∀ k, (Value.slice AT td1.length cT).ownBlock = some k → Sr b4 (.slice (some ⟨q, 0, none⟩) l.length cS) vT k ∨ w.heap.size ≤ k := fun k hk => by
              rcases HFR.out.2 with h1 | ⟨b, h1, h2⟩
              · exact .inl (.inr (.inr (h1 ▸ hk)))
              · rw [h1] at hk; injection hk with hk; exact .inr (hk ▸ h2)
            refine ⟨(HF3.out.grown HG5.out hgr).set (p := ⟨b4, 0, none⟩) (.inl (.inl rfl)) _, ?_⟩
            rcases HAT5.out with h1 | ⟨b, h1, h2⟩
            · rw [h1]; exact HFR.out.2
            · exact .inr ⟨b, h1, Nat.le_trans HF3.out.size h2⟩
          go_roundg (ks.length - (i + 1))
          case measure => have := HIQ.out; have := HLT.out; omega
          case rel => exact ⟨i + 1, _, by first | rfl | rw [HW64.out], ⟨by have := HLT.out; omega, rfl⟩, ⟨by rw [HE.out]; exact HFIN.out⟩, ⟨HB5.out.setCell (p := ⟨b4, 0, none⟩) HW3.out.g4 _⟩, HFX⟩
    · have e_ : i = ks.length := by have := HIQ.out; omega
      subst e_
      have hdec : decide ((ks.length : Int) < (ks.length : Int)) = false := decide_eq_false (by omega)
      have hdec2 : decide (ks.length < ks.length) = false := decide_eq_false hlt
      clear hlt HIQ
      go_wp2
      go_end0
      have h_ := HW.out
      rw [List.take_length] at h_
      exact ⟨rfl, ⟨vT1, h_⟩, HB.out, HFR.out.1⟩
end Go.Proofs.Ytnimidkeoocchaa.Gen
/- Package gens: what minor marks, in plain words. -/
namespace Go.Proofs.Ytnimidkeoocchaa.Gen
open Go.RowKit Go.Proofs.Ytnimidkeoocchaa.PG

theorem youngB_nat {l : List Th} {k : Int} (h : youngB l k = true) : 0 ≤ k := by unfold youngB at h; simp at h; exact h.1
theorem reach1_get {l : List Th} {s : List Bool × List Int} {k : Int} (hk : k < (s.1.length : Int)) (n : Nat) : (reach1 l s k).1.getD n false = (s.1.getD n false || (youngB l k && decide (k = (n : Int)))) := by
  unfold reach1
  cases hy : youngB l k with
  | false => simp
  | true =>
    have h0 := youngB_nat hy
    obtain ⟨m, rfl⟩ : ∃ m : Nat, k = m := ⟨k.toNat, by omega⟩
    have hm : m < s.1.length := by omega
    rw [Int.toNat_natCast]
    cases hs : s.1.getD m false with
    | true =>
      simp only [Bool.not_true, Bool.and_false, if_neg (by decide : ¬ false = true)]
      by_cases e : m = n
      · subst e; rw [hs]; simp
      · have : decide ((m : Int) = (n : Int)) = false := decide_eq_false (by omega)
        rw [this]; simp
    | false =>
      simp only [Bool.not_false, Bool.and_self, if_true]
      by_cases e : m = n
      · subst e
        simp [List.getD_eq_getElem?_getD, hm]
      · have : decide ((m : Int) = (n : Int)) = false := decide_eq_false (by omega)
        rw [this]
        simp [List.getD_eq_getElem?_getD, List.getElem?_set_ne e]
theorem reachL_get {l : List Th} : ∀ (ks : List Int) (s : List Bool × List Int), (∀ k ∈ ks, k < (s.1.length : Int)) → ∀ n : Nat, (reachL l s ks).1.getD n false = (s.1.getD n false || ks.any (fun k => youngB l k && decide (k = (n : Int))))
  | [], s, _, n => by simp [reachL]
  | k :: ks, s, h, n => by
    have h1 := reach1_get (l := l) (s := s) (h k (List.mem_cons_self ..)) n
    have h2 := reachL_get (l := l) ks (reach1 l s k) (fun x hx => by rw [(reach1_len l s k).1]; exact h x (List.mem_cons_of_mem _ hx)) n
    unfold reachL at h2 ⊢
    rw [List.foldl_cons, h2, h1, List.any_cons, Bool.or_assoc]
/-- What is still to be gone through: what was, and what is marked anew. -/
theorem reachL_todo {l : List Th} : ∀ (ks : List Int) (s : List Bool × List Int), (∀ k ∈ ks, k < (s.1.length : Int)) → ∀ x : Int, x ∈ (reachL l s ks).2 ↔ x ∈ s.2 ∨ (0 ≤ x ∧ s.1.getD x.toNat false = false ∧ (reachL l s ks).1.getD x.toNat false = true)
  | [], s, _, x => by
    simp only [reachL, List.foldl_nil]
    constructor
    · exact .inl
    · rintro (h | ⟨_, h1, h2⟩)
      · exact h
      · rw [h1] at h2; cases h2
  | k :: ks, s, h, x => by
    have hks : ∀ y ∈ ks, y < ((reach1 l s k).1.length : Int) := fun y hy => by rw [(reach1_len l s k).1]; exact h y (List.mem_cons_of_mem _ hy)
    have h2 := reachL_todo (l := l) ks (reach1 l s k) hks x
    have h3 := reachL_get (l := l) ks (reach1 l s k) hks x.toNat
    have e : reachL l s (k :: ks) = reachL l (reach1 l s k) ks := rfl
    rw [e, h2]
    have h1 := reach1_get (l := l) (s := s) (h k (List.mem_cons_self ..)) x.toNat
    by_cases hc : (youngB l k && !s.1.getD k.toNat false) = true
    · have e2 : (reach1 l s k).2 = s.2 ++ [k] := by unfold reach1; rw [if_pos hc]
      simp only [Bool.and_eq_true, Bool.not_eq_true'] at hc
      have h0 := youngB_nat hc.1
      rw [e2, List.mem_append, List.mem_singleton]
      constructor
      · rintro ((h4 | h4) | ⟨h4, h5, h6⟩)
        · exact .inl h4
        · subst h4
          refine .inr ⟨h0, hc.2, ?_⟩
          rw [h3, h1, hc.1]
          simp [Int.toNat_of_nonneg h0]
        · rw [h1] at h5
          simp only [Bool.or_eq_false_iff] at h5
          exact .inr ⟨h4, h5.1, h6⟩
      · rintro (h4 | ⟨h4, h5, h6⟩)
        · exact .inl (.inl h4)
        · by_cases hx : x = k
          · exact .inl (.inr hx)
          · refine .inr ⟨h4, ?_, h6⟩
            rw [h1, h5]
            have : decide (k = ((x.toNat : Nat) : Int)) = false := decide_eq_false (by omega)
            rw [this]; simp
    · have e2 : reach1 l s k = s := by unfold reach1; rw [if_neg hc]
      rw [e2]
/-- Marks and what is to be gone through: together they are as many as before. -/
theorem reach1_sum {l : List Th} {s : List Bool × List Int} {k : Int} (hk : k < (s.1.length : Int)) : (reach1 l s k).2.length + (reach1 l s k).1.count false = s.2.length + s.1.count false := by
  unfold reach1
  by_cases hc : (youngB l k && !s.1.getD k.toNat false) = true
  · rw [if_pos hc]
    simp only [Bool.and_eq_true, Bool.not_eq_true'] at hc
    have h0 := youngB_nat hc.1
    have hm : k.toNat < s.1.length := by omega
    have he : s.1[k.toNat] = false := by have := hc.2; rw [List.getD_eq_getElem?_getD, List.getElem?_eq_getElem hm] at this; exact this
    have h2 : 0 < s.1.count false := List.count_pos_iff.2 (he ▸ List.getElem_mem hm)
    have h1 : (s.1.set k.toNat true).count false = s.1.count false - 1 := by
      rw [List.count_set hm, he]; simp
    simp only [List.length_append, List.length_cons, List.length_nil]
    rw [h1]; omega
  · rw [if_neg hc]
theorem reachL_sum {l : List Th} : ∀ (ks : List Int) (s : List Bool × List Int), (∀ k ∈ ks, k < (s.1.length : Int)) → (reachL l s ks).2.length + (reachL l s ks).1.count false = s.2.length + s.1.count false
  | [], s, _ => rfl
  | k :: ks, s, h => by
    have h1 := reach1_sum (l := l) (s := s) (h k (List.mem_cons_self ..))
    have h2 := reachL_sum (l := l) ks (reach1 l s k) (fun x hx => by rw [(reach1_len l s k).1]; exact h x (List.mem_cons_of_mem _ hx))
    have e : reachL l s (k :: ks) = reachL l (reach1 l s k) ks := rfl
    rw [e, h2, h1]
/-- Reached by minor: held young ones, young places of remembered ones, and of those reached. -/
inductive YR (l : List Th) (rm : Int → Bool) : Int → Prop
  | held {n : Nat} (h : n < l.length) (hh : (thAt l n).f2 = true) (hy : youngB l (n : Int) = true) : YR l rm n
  | rem {x k : Int} (hx : rm x = true) (h0 : 0 ≤ x) (h1 : x < l.length) (hk : k ∈ (thAt l x.toNat).f0) (hy : youngB l k = true) : YR l rm k
  | next {x k : Int} (hx : YR l rm x) (hk : k ∈ (thAt l x.toNat).f0) (hy : youngB l k = true) : YR l rm k
/-- Ahead of the third loop: what is marked is still to be gone through, and reached. -/
structure Pre (l : List Th) (rm : Int → Bool) (st : List Bool) (td : List Int) : Prop where
  len : st.length = l.length
  yr : ∀ n : Nat, st.getD n false = true → YR l rm n ∧ youngB l (n : Int) = true
  td1 : ∀ n : Nat, st.getD n false = true → (n : Int) ∈ td
  td2 : ∀ x ∈ td, 0 ≤ x ∧ st.getD x.toNat false = true
  sum : td.length + st.count false ≤ 1000
theorem Pre.reach {l : List Th} {rm : Int → Bool} {st : List Bool} {td : List Int} (h : Pre l rm st td) {ks : List Int} (hk : ∀ k ∈ ks, k < (l.length : Int)) (hy : ∀ k ∈ ks, youngB l k = true → YR l rm k) : Pre l rm (reachL l (st, td) ks).1 (reachL l (st, td) ks).2 := by
  have hks : ∀ k ∈ ks, k < (((st, td) : List Bool × List Int).1.length : Int) := fun k hk2 => by show k < (st.length : Int); rw [h.len]; exact hk k hk2
  have hg := reachL_get (l := l) ks (st, td) hks
  have ht := reachL_todo (l := l) ks (st, td) hks
  have hs := reachL_sum (l := l) ks (st, td) hks
  refine ⟨by rw [(reachL_len l ks (st, td)).1]; exact h.len, fun n hn => ?_, fun n hn => ?_, fun x hx => ?_, by rw [hs]; exact h.sum⟩
  · rw [hg n] at hn
    rcases Bool.or_eq_true_iff.1 hn with h1 | h1
    · exact h.yr n h1
    · obtain ⟨k, hk1, hk2⟩ := List.any_eq_true.1 h1
      simp only [Bool.and_eq_true, decide_eq_true_eq] at hk2
      obtain ⟨h2, rfl⟩ := hk2
      exact ⟨hy _ hk1 h2, h2⟩
  · rw [ht]
    cases hc : st.getD n false with
    | true => exact .inl (h.td1 n hc)
    | false => exact .inr ⟨by omega, by rw [Int.toNat_natCast]; exact hc, by rw [Int.toNat_natCast]; exact hn⟩
  · rcases (ht x).1 hx with h1 | ⟨h1, _, h2⟩
    · obtain ⟨h3, h4⟩ := h.td2 x h1
      exact ⟨h3, by rw [hg]; show (st.getD x.toNat false || _) = true; rw [h4]; rfl⟩
    · exact ⟨h1, h2⟩
end Go.Proofs.Ytnimidkeoocchaa.Gen
