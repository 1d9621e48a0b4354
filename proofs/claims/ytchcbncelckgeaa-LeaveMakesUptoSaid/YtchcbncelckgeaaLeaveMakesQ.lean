/- The law LeaveMakes over the printed functions: its loops. -/
import Derived.Test.YtchcbncelckgeaaLeaveMakesP
set_option linter.unusedVariables false
set_option linter.unusedSimpArgs false
namespace Go.Proofs.Ytchcbncelckgeaa.LeavePM
open Go.RowKit Go.Proofs.YtchcbncelckgeaaW.PrintWords Go.Proofs.YtchcbncelckgeaaW.PrintMore Go.Proofs.Ytchcbncelckgeaa.OpnB Go.Proofs.Ytchcbncelckgeaa.PM

theorem cells_sm (vals : List S23) : ∀ (ms : List S46) (out : List S50), (∀ m ∈ ms, m.f3.length ≤ 1048576) → (∀ c ∈ out, Sm c) → ∀ c ∈ (cellsL vals ms out).1, Sm c
  | [], out, _, h => h
  | m :: ms, out, hm, h => by
    unfold cellsL
    split
    · split
      · refine cells_sm vals ms _ (fun m' hm' => hm m' (List.mem_cons_of_mem _ hm')) fun c hc => ?_
        rcases List.mem_or_eq_of_mem_set hc with hc | rfl
        · exact h c hc
        · exact ⟨by simpa [made] using hm m List.mem_cons_self, by simp [made], fun f hf => by simp [made] at hf⟩
      · intro c hc; simp at hc
    · intro c hc; simp at hc
def mark (vals : List S23) (ms : List S46) (x9 : List Bool) : List Bool := ms.foldl (fun acc m => acc.set (tgt vals m).toNat true) x9
theorem mark_length (vals : List S23) : ∀ (ms : List S46) (x9 : List Bool), (mark vals ms x9).length = x9.length
  | [], _ => rfl
  | m :: ms, x9 => by
    show (mark vals ms (x9.set (tgt vals m).toNat true)).length = _
    rw [mark_length vals ms, List.length_set]
theorem mark_stays (vals : List S23) : ∀ (ms : List S46) (x9 : List Bool) (i : Nat), x9[i]? = some true → (mark vals ms x9)[i]? = some true
  | [], _, _, h => h
  | m :: ms, x9, i, h => by
    refine mark_stays vals ms (x9.set (tgt vals m).toNat true) i ?_
    by_cases he : (tgt vals m).toNat = i
    · subst he
      exact List.getElem?_set_self (List.getElem?_eq_some_iff.1 h).1
    · rw [List.getElem?_set_ne he]; exact h
theorem mark_none (vals : List S23) : ∀ (ms : List S46) (x9 : List Bool) (i : Nat), i < x9.length → (mark vals ms x9)[i]? = some false → ∀ m ∈ ms, (tgt vals m).toNat ≠ i
  | [], _, _, _, _, m, hm => by simp at hm
  | m :: ms, x9, i, hi, h, m', hm' => by
    rcases List.mem_cons.1 hm' with rfl | hm'
    · intro he
      have := mark_stays vals ms (x9.set (tgt vals m').toNat true) i (by subst he; exact List.getElem?_set_self hi)
      have h2 : (mark vals ms (x9.set (tgt vals m').toNat true))[i]? = some false := h
      rw [this] at h2
      exact absurd h2 (by decide)
    · exact mark_none vals ms (x9.set (tgt vals m).toNat true) i (by simpa using hi) h m' hm'
theorem rdB (l : List Bool) (i : Nat) (h : i < l.length) : rdOf false l (i : Int) = l[i] := by
  unfold rdOf
  simp [List.getD_eq_getElem?_getD, h]

section
variable (x0 x7 : List S50) (vals : List S23) (a b : Int) (ss : List S34) (ms : List S46)
theorem l1_round (h0 : x0.length ≤ 1048576) (h7 : x7.length = x0.length) (hs0 : ∀ c ∈ x0, Sm c) (hs7 : ∀ c ∈ x7, Sm c) (hm : ms.length ≤ 1048576) (hms : ∀ m ∈ ms, m.f3.length ≤ 1048576)
    (x9 : List Bool) (x10 : Bool) (h9 : x9.length = x0.length) (hun : ∀ i : Nat, x9[i]? = some false → x7[i]? = x0[i]?) (hag : x10 = true → (cellsL vals ms x7).2 = 8) :
    ∀ (d i : Nat), x0.length - i = d → i ≤ x0.length → Ev (fun k => backstitchkeep3_LeaveMakes.l1 k x0 vals x7 x9 x10 (x0.length : Int) (i : Int) a b ss ms) true := by
  intro d
  induction d with
  | zero =>
    intro i hd hi
    obtain ⟨K1, hK1⟩ := cells_f x7 a b ss ms vals (by omega) hs7 hm hms
    refine ⟨K1 + 5, fun k hk => ?_⟩
    obtain ⟨k, rfl⟩ : ∃ m, k = m + 1 := ⟨k - 1, by omega⟩
    have h1 := hK1 k (by omega)
    simp only at h1
    simp only [backstitchkeep3_LeaveMakes.l1]
    rw [if_neg (by omega), h1, leftBy_f k (by omega)]
    simp only [Option.bind_some, if_true]
    rw [if_pos (by omega)]
    cases hx : x10 with
    | false => simp
    | true => rw [if_pos rfl, hag hx]; rfl
  | succ d ih =>
    intro i hd hi
    have hlt : i < x0.length := by omega
    have hi2 := ih (i + 1) (by omega) (by omega)
    have h9i : i < x9.length := by omega
    cases hb : x9[i] with
    | true =>
      refine hi2.step fun k => ?_
      simp only [backstitchkeep3_LeaveMakes.l1]
      rw [if_pos (by omega), if_pos (by omega), if_pos (by omega), rdB x9 i h9i, if_pos hb, wrap_up (i : Int) (by omega) (by omega)]
      rfl
    | false =>
      have hx : x7[i]? = x0[i]? := hun i (by rw [List.getElem?_eq_getElem h9i, hb])
      have h7i : i < x7.length := by omega
      have hx' : x7[i] = x0[i] := by
        rw [List.getElem?_eq_getElem h7i, List.getElem?_eq_getElem hlt] at hx
        exact Option.some.inj hx
      refine Ev.step2 (same_cell x0[i] (hs0 _ (List.getElem_mem hlt))) hi2 fun k hk => ?_
      simp only [backstitchkeep3_LeaveMakes.l1]
      rw [if_pos (by omega), if_pos (by omega), if_pos (by omega), rdB x9 i h9i, if_neg (by rw [hb]; decide), if_pos (by omega), if_pos (by omega), rdT50 x0 i hlt, rdT50 x7 i h7i, hx', hk]
      simp only [Option.bind_some, if_true]
      rw [wrap_up (i : Int) (by omega) (by omega)]
      rfl
theorem l0_round (hm : ms.length ≤ 1048576) (x9f : List Bool) (x10f : Bool)
    (hend : Ev (fun k => backstitchkeep3_LeaveMakes.l1 k x0 vals x7 x9f x10f (x0.length : Int) 0 a b ss ms) true) :
    ∀ (d i : Nat) (x9 : List Bool) (x10 : Bool), ms.length - i = d → i ≤ ms.length → (∀ m ∈ ms, okM vals m = true ∧ 0 ≤ tgt vals m ∧ tgt vals m < x9.length) → mark vals (ms.drop i) x9 = x9f → (x10 || (ms.drop i).any (fun m => m.f1 != 0)) = x10f →
    Ev (fun k => backstitchkeep3_LeaveMakes.l0 k x0 vals x7 x9 x10 ms (ms.length : Int) (i : Int) a b ss ms) true := by
  intro d
  induction d with
  | zero =>
    intro i x9 x10 hd hi hok h9 h10
    rw [List.drop_eq_nil_of_le (by omega)] at h9 h10
    obtain rfl : x9 = x9f := h9
    obtain rfl : x10 = x10f := by simpa using h10
    refine hend.step fun k => ?_
    simp only [backstitchkeep3_LeaveMakes.l0]
    rw [if_neg (by omega)]
  | succ d ih =>
    intro i x9 x10 hd hi hok h9 h10
    have hlt : i < ms.length := by omega
    rw [List.drop_eq_getElem_cons hlt] at h9 h10
    obtain ⟨o1, o2, o3⟩ := hok ms[i] (List.getElem_mem hlt)
    have o4 : 0 ≤ ms[i].f0 ∧ ms[i].f0 < (vals.length : Int) := by
      have h_ : inV vals ms[i].f0 = true := by
        unfold okM at o1
        exact (Bool.and_eq_true _ _ ▸ o1).1
      simpa [inV] using h_
    have := ih (i + 1) (x9.set (tgt vals ms[i]).toNat true) (x10 || (ms[i].f1 != 0)) (by omega) (by omega) (fun m hm => by rw [List.length_set]; exact hok m hm) h9 (by rw [← h10, List.any_cons, Bool.or_assoc])
    refine this.step fun k => ?_
    simp only [backstitchkeep3_LeaveMakes.l0]
    unfold tgt at o2 o3
    rw [if_pos (by omega), if_pos (by omega), if_pos (by omega), rdT46 ms i hlt, if_pos o4.1, if_pos o4.2, if_pos o2, if_pos o3]
    simp only [Option.bind_some]
    rw [wrap_up (i : Int) (by omega) (by omega)]
    cases x10 with
    | true => rw [if_pos rfl]; rfl
    | false => rw [if_neg (by decide)]; rfl
theorem whole (h0 : x0.length ≤ 1048576) (hs0 : ∀ c ∈ x0, Sm c) (hm : ms.length ≤ 1048576) (hms : ∀ m ∈ ms, m.f3.length ≤ 1048576) (he : (cellsL vals ms x0).2 = 0) :
    Ev (fun k => backstitchkeep3_LeaveMakes.l0 k x0 vals (cellsL vals ms x0).1 (List.replicate x0.length false) false ms (ms.length : Int) 0 a b ss ms) true := by
  obtain ⟨c1, c2, c3, c4, c5⟩ := cells_ok vals ms x0 he
  refine l0_round x0 _ vals a b ss ms hm (mark vals ms (List.replicate x0.length false)) (ms.any (fun m => m.f1 != 0)) ?_ ms.length 0 _ false rfl (by omega) (fun m hm' => by rw [List.length_replicate]; exact c2 m hm') rfl (by simp)
  refine l1_round x0 _ vals a b ss ms h0 c1 hs0 (cells_sm vals ms x0 hms hs0) hm hms _ _ (by rw [mark_length, List.length_replicate]) ?_ ?_ x0.length 0 rfl (by omega)
  · intro i hi
    have hlt : i < x0.length := by
      have := (List.getElem?_eq_some_iff.1 hi).1
      rwa [mark_length, List.length_replicate] at this
    exact c3 i (mark_none vals ms _ i (by simpa using hlt) hi)
  · intro ha
    obtain ⟨m, hm', hk⟩ := List.any_eq_true.1 ha
    refine cells_again vals ms _ (fun m hm => (c2 m hm).1) ⟨m, hm', c5 m hm' (by simpa using hk)⟩
end
theorem leaveMakes : LeaveMakesS.LeaveMakes.Pure := by
  intro x0 x1 x2 _ _ _ hz
  have hS0 : ∀ c ∈ x0, Sm c := fun c hc => by
    have h1 := mem_le LeaveMakesS.m50 hc
    have h2 : c.f2.length ≤ (c.f2.map LeaveMakesS.m23).sum := len_le _ (fun _ => by simp [LeaveMakesS.m23]) _
    have h3 : c.f3.length ≤ (c.f3.map LeaveMakesS.m27).sum := len_le _ (fun _ => by simp [LeaveMakesS.m27]) _
    simp only [mList] at hz
    simp only [LeaveMakesS.m50, mList] at h1
    refine ⟨by omega, by omega, fun f hf => ?_⟩
    have h4 := mem_le LeaveMakesS.m27 hf
    have h5 : f.f5.length ≤ (f.f5.map LeaveMakesS.m23).sum := len_le _ (fun _ => by simp [LeaveMakesS.m23]) _
    have h6 : f.f6.length ≤ (f.f6.map LeaveMakesS.m111).sum := len_le _ (fun _ => by simp [LeaveMakesS.m111]) _
    simp only [LeaveMakesS.m27, mList] at h4
    exact ⟨by omega, by omega⟩
  have hM : x1.f3.length ≤ 1048576 ∧ ∀ m ∈ x1.f3, m.f3.length ≤ 1048576 := by
    have h1 : x1.f3.length ≤ (x1.f3.map LeaveMakesS.m46).sum := len_le _ (fun _ => by simp [LeaveMakesS.m46]) _
    simp only [LeaveMakesS.m31, mList] at hz
    refine ⟨by omega, fun m hm => ?_⟩
    have h4 := mem_le LeaveMakesS.m46 hm
    have h5 : m.f3.length ≤ (m.f3.map mOne).sum := len_le _ (fun _ => by simp [mOne]) _
    simp only [LeaveMakesS.m46, mList] at h4
    omega
  have e30 : mn (x0.length : Int) 30 = ((min x0.length 30 : Nat) : Int) := by unfold mn; split <;> omega
  have hl : (x0.take (min x0.length 30)).length ≤ 30 := by rw [List.length_take]; omega
  have hS : ∀ c ∈ x0.take (min x0.length 30), Sm c := fun c hc => hS0 c (List.take_subset _ _ hc)
  obtain ⟨l, hle⟩ : ∃ l, l = x0.take (min x0.length 30) := ⟨_, rfl⟩
  rw [← hle] at hl hS
  obtain ⟨K1, h1⟩ := cells_f l x1.f0 x1.f1 x1.f2 x1.f3 x2 (by omega) hS hM.1 hM.2
  obtain ⟨K2, h2⟩ : ∃ K, ∀ k, K ≤ k → (cellsL x2 x1.f3 l).2 = 0 → backstitchkeep3_LeaveMakes.l0 k l x2 (cellsL x2 x1.f3 l).1 (List.replicate l.length false) false x1.f3 (x1.f3.length : Int) 0 x1.f0 x1.f1 x1.f2 x1.f3 = some true := by
    by_cases he : (cellsL x2 x1.f3 l).2 = 0
    · obtain ⟨K, hK⟩ := whole l x2 x1.f0 x1.f1 x1.f2 x1.f3 (by omega) hS hM.1 hM.2 he
      exact ⟨K, fun k hk _ => hK k hk⟩
    · exact ⟨0, fun k _ h => absurd h he⟩
  refine ⟨K1 + K2 + 4, ?_⟩
  have h1 := h1 (K1 + K2 + 4) (by omega)
  have h2 := h2 (K1 + K2 + 4) (by omega)
  simp only at h1
  unfold backstitchkeep3_LeaveMakes.f
  rw [leftBy_f _ (by omega)]
  simp only [Option.bind_some, if_true]
  rw [e30, if_pos (by omega), if_pos (by omega), Int.toNat_natCast, ← hle, h1]
  simp only [Option.bind_some]
  by_cases he : (cellsL x2 x1.f3 l).2 = 0
  · rw [if_pos he, if_pos (by omega), if_pos (by rw [Int.toNat_natCast]; omega), Int.toNat_natCast]
    exact h2 he
  · rw [if_neg he, cells_err x2 x1.f3 l he]
    rfl
end Go.Proofs.Ytchcbncelckgeaa.LeavePM
