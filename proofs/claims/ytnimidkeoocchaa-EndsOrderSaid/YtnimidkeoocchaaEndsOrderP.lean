/- The law EndsOrder over the printed functions: plain lists, no program. -/
import Derived.Test.YtnimidkeoocchaaEndsRp
import Derived.Test.YtnimidkeoocchaaPE18
import Derived.Test.YtnimidkeoocchaaStmEndsOrder
set_option linter.unusedVariables false
set_option linter.unusedSimpArgs false
namespace Go.Proofs.Ytnimidkeoocchaa.End
open Go.RowKit Go.Proofs.YtnimidkeoocchaaW.PrintWords Go.Proofs.Ytnimidkeoocchaa.Opn Go.Proofs.Ytnimidkeoocchaa.PE Go.Proofs.Ytnimidkeoocchaa.Rch Go.Proofs.Ytnimidkeoocchaa.Chk

section
variable (has : List (List Int)) (roots : List Int) (RS : List (List Int))
theorem ord_l3 (i kk x26 x27 x42 x43 : Int) (x41 : List Int) (late : Int) (row : List Int) (hz : row.length ≤ 100) (hr : InR has.length row) (hno : ∀ early ∈ row, hB has late early = false) (K0 : Nat)
    (next0 : ∀ k', K0 ≤ k' → backstitchkeep3_EndsOrder.l2 k' RS i kk x26 x27 x41 x42 (wrap64 (x43 + 1)) has roots = some true) :
    ∀ (d j k : Nat), row.length - j = d → j ≤ row.length → K0 + d + 1 ≤ k → backstitchkeep3_EndsOrder.l3 k RS i kk (fromL has (has.getD late.toNat [])) x26 x27 x41 x42 x43 row (row.length : Int) (j : Int) has roots = some true := by
  intro d
  induction d with
  | zero =>
    intro j k hd hi hk
    obtain ⟨k, rfl⟩ : ∃ q, k = q + 1 := ⟨k - 1, by omega⟩
    simp only [backstitchkeep3_EndsOrder.l3]
    rw [if_neg (by omega)]
    exact next0 k (by omega)
  | succ d ih =>
    intro j k hd hi hk
    obtain ⟨k, rfl⟩ : ∃ q, k = q + 1 := ⟨k - 1, by omega⟩
    have hlt : j < row.length := by omega
    have next := ih (j + 1) k (by omega) (by omega) (by omega)
    rw [show ((j + 1 : Nat) : Int) = (j : Int) + 1 from by omega, ← wrap_up (j : Int) (by omega) (by omega)] at next
    have h1 := hr _ (List.getElem_mem hlt)
    have h2 := hno _ (List.getElem_mem hlt)
    simp only [backstitchkeep3_EndsOrder.l3]
    rw [if_pos (by omega), if_pos (by omega), if_pos (by omega), rdI row j hlt, if_pos h1.1, fromL_length, if_pos h1.2]
    have e : rdOf false (fromL has (has.getD late.toNat [])) row[j] = hB has late row[j] := rfl
    rw [e, h2, if_neg (by decide)]
    exact next
theorem ord_l2 (hck : checkE has roots = 0) (i0 : Nat) (hi0 : i0 < RS.length) (kk x26 x27 : Int) (row : List Int) (hz : row.length ≤ 100) (hr : InR has.length row) (hz0 : RS[i0].length ≤ 100) (hr0 : InR has.length RS[i0]) (hno : ∀ late ∈ row, ∀ early ∈ RS[i0], hB has late early = false) (K0 : Nat)
    (next0 : ∀ k', K0 ≤ k' → backstitchkeep3_EndsOrder.l1 k' RS (i0 : Int) (wrap64 (kk + 1)) x26 x27 has roots = some true) :
    ∀ (d j k : Nat), row.length - j = d → j ≤ row.length → K0 + d * 102 + 1 ≤ k → backstitchkeep3_EndsOrder.l2 k RS (i0 : Int) kk x26 x27 row (row.length : Int) (j : Int) has roots = some true := by
  obtain ⟨c1, c2, c3, c4, c5⟩ := check_ok hck
  intro d
  induction d with
  | zero =>
    intro j k hd hi hk
    obtain ⟨k, rfl⟩ : ∃ q, k = q + 1 := ⟨k - 1, by omega⟩
    simp only [backstitchkeep3_EndsOrder.l2]
    rw [if_neg (by omega)]
    exact next0 k (by omega)
  | succ d ih =>
    intro j k hd hi hk
    obtain ⟨k, rfl⟩ : ∃ q, k = q + 1 := ⟨k - 1, by omega⟩
    have hlt : j < row.length := by omega
    have h1 := hr _ (List.getElem_mem hlt)
    simp only [backstitchkeep3_EndsOrder.l2]
    rw [if_pos (by omega), if_pos (by omega), if_pos (by omega), rdI row j hlt, if_pos h1.1, if_pos h1.2]
    have e1 : rd_L1 has row[j] = has.getD row[j].toNat [] := by unfold rd_L1; rfl
    have hrow : InR has.length (has.getD row[j].toNat []) := row_in (fun r hr x hx => c5 r hr x hx) _
    have e2 : backstitchref3_From.f has roots (rd_L1 has row[j]) ([] : List S84) = some (fromL has (has.getD row[j].toNat [])) := by
      unfold backstitchref3_From.f
      rw [e1, if_pos ⟨okF_iff.2 ⟨by omega, fun r hr x hx => c5 r hr x hx, hrow⟩, rfl⟩]
    rw [e2]
    simp only [Option.bind_some]
    rw [if_pos (by omega), if_pos (by omega), rdL RS i0 hi0]
    refine ord_l3 has roots RS _ _ _ _ _ _ _ row[j] RS[i0] hz0 hr0 (hno _ (List.getElem_mem hlt)) (K0 + d * 102 + 1) (fun k' hk' => ?_) RS[i0].length 0 k rfl (by omega) (by omega)
    rw [wrap_up (j : Int) (by omega) (by omega), show (j : Int) + 1 = ((j + 1 : Nat) : Int) from by omega]
    exact ih (j + 1) k' (by omega) (by omega) hk'
theorem ord_l1 (hck : checkE has roots = 0) (hRl : RS.length ≤ 100) (hR : ∀ r ∈ RS, r.length ≤ 100 ∧ InR has.length r) (hno : ∀ i k (hi : i < RS.length) (hk : k < RS.length), i < k → ∀ late ∈ RS[k], ∀ early ∈ RS[i], hB has late early = false)
    (i0 : Nat) (hi0 : i0 < RS.length) (x26 : Int) (K0 : Nat) (next0 : ∀ k', K0 ≤ k' → backstitchkeep3_EndsOrder.l0 k' RS x26 (wrap64 ((i0 : Int) + 1)) has roots = some true) :
    ∀ (d kk k : Nat), RS.length - kk = d → kk ≤ RS.length → i0 < kk → K0 + d * 10202 + 1 ≤ k → backstitchkeep3_EndsOrder.l1 k RS (i0 : Int) (kk : Int) x26 (i0 : Int) has roots = some true := by
  intro d
  induction d with
  | zero =>
    intro kk k hd hi hik hk
    obtain ⟨k, rfl⟩ : ∃ q, k = q + 1 := ⟨k - 1, by omega⟩
    simp only [backstitchkeep3_EndsOrder.l1]
    rw [if_neg (by omega)]
    exact next0 k (by omega)
  | succ d ih =>
    intro kk k hd hi hik hk
    obtain ⟨k, rfl⟩ : ∃ q, k = q + 1 := ⟨k - 1, by omega⟩
    have hlt : kk < RS.length := by omega
    obtain ⟨r1, r2⟩ := hR _ (List.getElem_mem hlt)
    obtain ⟨r3, r4⟩ := hR _ (List.getElem_mem hi0)
    simp only [backstitchkeep3_EndsOrder.l1]
    rw [if_pos (by omega), if_pos (by omega), rdL RS kk hlt]
    refine ord_l2 has roots RS hck i0 hi0 _ _ _ RS[kk] r1 r2 r3 r4 (hno i0 kk hi0 hlt hik) (K0 + d * 10202 + 1) (fun k' hk' => ?_) RS[kk].length 0 k rfl (by omega) (by omega)
    rw [wrap_up (kk : Int) (by omega) (by omega), show (kk : Int) + 1 = ((kk + 1 : Nat) : Int) from by omega]
    exact ih (kk + 1) k' (by omega) (by omega) (by omega) hk'
theorem ord_l0 (hck : checkE has roots = 0) (hRl : RS.length ≤ 100) (hR : ∀ r ∈ RS, r.length ≤ 100 ∧ InR has.length r) (hno : ∀ i k (hi : i < RS.length) (hk : k < RS.length), i < k → ∀ late ∈ RS[k], ∀ early ∈ RS[i], hB has late early = false) :
    ∀ (d i k : Nat), RS.length - i = d → i ≤ RS.length → 20 + d * 1020300 + 1 ≤ k → backstitchkeep3_EndsOrder.l0 k RS (RS.length : Int) (i : Int) has roots = some true := by
  intro d
  induction d with
  | zero =>
    intro i k hd hi hk
    obtain ⟨k, rfl⟩ : ∃ q, k = q + 1 := ⟨k - 1, by omega⟩
    simp only [backstitchkeep3_EndsOrder.l0]
    rw [if_neg (by omega), ended_f k (by omega)]
    rfl
  | succ d ih =>
    intro i k hd hi hk
    obtain ⟨k, rfl⟩ : ∃ q, k = q + 1 := ⟨k - 1, by omega⟩
    have hlt : i < RS.length := by omega
    simp only [backstitchkeep3_EndsOrder.l0]
    rw [if_pos (by omega), wrap_up (i : Int) (by omega) (by omega), show (i : Int) + 1 = ((i + 1 : Nat) : Int) from by omega]
    refine ord_l1 has roots RS hck hRl hR hno i hlt _ (20 + d * 1020300 + 1) (fun k' hk' => ?_) (RS.length - (i + 1)) (i + 1) k rfl (by omega) (by omega) (by omega)
    rw [wrap_up (i : Int) (by omega) (by omega), show (i : Int) + 1 = ((i + 1 : Nat) : Int) from by omega]
    exact ih (i + 1) k' (by omega) (by omega) hk'
end
theorem endsOrder : EndsOrderS.EndsOrder.Pure := by
  rintro ⟨has, roots⟩ l ⟨hG1, hG2⟩ hL
  refine ⟨200000000, ?_⟩
  generalize hK : 200000000 = K
  show backstitchkeep3_EndsOrder.f K has roots l = some true
  unfold backstitchkeep3_EndsOrder.f
  rw [ended_f K (by omega)]
  simp only [Option.bind_some, if_true]
  unfold ends_Rounds.f
  simp only [Option.bind_some]
  by_cases hE : dueE has roots l = 0
  · rw [if_pos hE]
    obtain ⟨hck, hl100, hin⟩ := dueE_ok hE
    have hDl := due_len has roots l
    have hRR : roundsR has roots l = roundsL has (dueL has roots l).length (dueL has roots l) := by unfold roundsR; rw [if_pos hE]
    obtain ⟨r1, r2, r3⟩ := rounds_spec (has := has) _ (dueL has roots l) (Nat.le_refl _) (due_sorted has roots l)
    have r4 := rounds_order (has := has) _ (dueL has roots l) (Nat.le_refl _)
    rw [hRR]
    have hle : ∀ (L : List (List Int)) (r : List Int), r ∈ L → r.length ≤ (L.map List.length).sum := by
      intro L
      induction L with
      | nil => intro r hr; simp at hr
      | cons a L ih =>
        intro r hr
        rw [List.map_cons, List.sum_cons]
        rcases List.mem_cons.1 hr with rfl | hr
        · omega
        · have := ih r hr; omega
    generalize roundsL has (dueL has roots l).length (dueL has roots l) = RS at r1 r2 r3 r4 ⊢
    exact ord_l0 has roots RS hck (by omega) (fun r hr => ⟨by have := hle RS r hr; omega, fun x hx => hin x (due_mem.1 ((r1 r hr).2 x hx)).1⟩) r4 _ 0 K rfl (by omega) (by omega)
  · rw [if_neg hE]
end Go.Proofs.Ytnimidkeoocchaa.End
