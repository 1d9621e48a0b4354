/- Package order, told over plain lists: what the laws need. -/
import Derived.Test.YtecaemebamhamaaOrPc
set_option linter.unusedVariables false
set_option linter.unusedSimpArgs false
namespace Go.Proofs.Ytecaemebamhamaa.Lv
open Go.RowKit Go.Proofs.YtecaemebamhamaaW.PrintWords Go.Proofs.YtecaemebamhamaaW.PrintLast Go.Proofs.YtecaemebamhamaaW.PrintMore Go.Proofs.Ytecaemebamhamaa.PO Go.Proofs.Ytecaemebamhamaa.Hnd Go.Lib

theorem ordE_iff (regs slots : List Bool) (c : RC) (x : RO) : ordE regs slots c x = 0 ↔ (formO x.f0).2.2.2.2.2.2.2 = true ∧ rightO c x = true ∧ badR regs x = false ∧ badF slots x = false ∧ badE regs slots c x = false := by
  unfold ordE
  cases h1 : (formO x.f0).2.2.2.2.2.2.2 <;> cases h2 : rightO c x <;> cases h3 : badR regs x <;> cases h4 : badF slots x <;> cases h5 : badE regs slots c x <;> simp
theorem right_more {c d : RC} {x : RO} (h : rightO c x = true) (h3 : d.f3 = c.f3) (hl : c.f5.length ≤ d.f5.length) : rightO d x = true := by
  unfold rightO rightB at h ⊢
  rw [h3]
  split at h
  · exact absurd h (by decide)
  rename_i h1
  rw [if_neg h1]
  split at h
  · exact absurd h (by decide)
  rename_i h2
  rw [if_neg h2]
  split at h
  · exact absurd h (by decide)
  rename_i h3
  rw [if_neg h3]
  split at h
  · exact absurd h (by decide)
  rename_i h4
  rw [if_neg h4]
  split at h
  · exact absurd h (by decide)
  rename_i h5
  rw [if_neg h5]
  split at h
  · exact absurd h (by decide)
  rename_i h6
  rw [if_neg h6]
  split at h
  · exact absurd h (by decide)
  rename_i h7
  rw [if_neg h7]
  split at h
  · rename_i h8
    rw [if_pos h8]
    exact h
  · rename_i h8
    rw [if_neg h8]
    unfold rF at h ⊢
    simp only [Bool.and_eq_true, decide_eq_true_eq] at h ⊢
    exact ⟨h.1, by omega⟩
theorem ord_to {regs slots : List Bool} {c d : RC} {x : RO} (h : ordE regs slots c x = 0) (h3 : d.f3 = c.f3) (hl : c.f5.length ≤ d.f5.length)
    (he : ∀ i : Int, 0 ≤ i → i < (c.f5.length : Int) → allW regs slots (rd_T27 c.f5 i) = true → allW regs slots (rd_T27 d.f5 i) = true) : ordE regs slots d x = 0 := by
  obtain ⟨g1, g2, g3, g4, g5⟩ := (ordE_iff _ _ _ _).1 h
  refine (ordE_iff _ _ _ _).2 ⟨g1, right_more g2 h3 hl, g3, g4, ?_⟩
  unfold badE at g5 ⊢
  by_cases h0 : 0 ≤ x.f5
  · rw [decide_eq_true h0, Bool.true_and] at g5 ⊢
    have := he x.f5 h0 ((right_ok g2).2.1 h0) (by simpa using g5)
    rw [this]
    rfl
  · rw [decide_eq_false h0]
    rfl
/-- All that is written in one is in the other. -/
def Sub (a b : List Bool) : Prop := ∀ i, a.getD i false = true → b.getD i false = true
theorem Sub.refl (a : List Bool) : Sub a a := fun _ h => h
theorem Sub.set (a : List Bool) (k : Nat) : Sub a (a.set k true) := by
  intro i h
  rw [List.getD_eq_getElem?_getD] at h ⊢
  rw [List.getElem?_set]
  split
  · split
    · rfl
    · rename_i h1 h2
      subst h1
      rw [List.getElem?_eq_none (by omega)] at h
      exact absurd h (by decide)
  · exact h
theorem Sub.trans {a b c : List Bool} (h : Sub a b) (h2 : Sub b c) : Sub a c := fun i hi => h2 i (h i hi)
theorem sub_setR (regs : List Bool) (x : RO) : Sub regs (setR regs x) := by
  unfold setR
  split
  · exact Sub.set _ _
  · exact Sub.refl _
theorem has_sub {a b s : List Bool} (h : Sub a b) (p : RP) (hp : hasB a s p = true) : hasB b s p = true := by
  unfold hasB at hp ⊢
  split at hp
  · rename_i h1
    rw [if_pos h1]
    exact h _ hp
  · rename_i h1
    rw [if_neg h1]
    exact hp
theorem all_sub {a b s : List Bool} (h : Sub a b) (x : RX) (hx : allW a s x = true) : allW b s x = true := by
  unfold allW at hx ⊢
  rw [Bool.not_eq_true', List.any_eq_false] at hx ⊢
  intro p hp h2
  have := hx p hp
  simp only [Bool.not_eq_true', Bool.not_eq_false] at this h2
  rw [has_sub h p this] at h2
  exact absurd h2 (by decide)
theorem regsAt_pre {c d : RC} {j : Nat} (h : d.f4.take j = c.f4.take j) : regsAt d j = regsAt c j := by unfold regsAt; rw [h]
theorem slotsAt_pre {c d : RC} {j : Nat} (h : d.f4.take j = c.f4.take j) (h3 : d.f3 = c.f3) : slotsAt d j = slotsAt c j := by unfold slotsAt; rw [h, h3]
theorem rd_pre {l m : List RX} {i : Int} (h0 : 0 ≤ i) (h1 : i < (l.length : Int)) : rd_T27 (l ++ m) i = rd_T27 l i := by
  unfold rd_T27
  rw [List.getD_eq_getElem?_getD, List.getD_eq_getElem?_getD, List.getElem?_append_left (by omega)]
theorem rdO_pre {l m : List RO} {i : Nat} (h1 : i < l.length) : rd_T37 (l ++ m) (i : Int) = rd_T37 l (i : Int) := by
  unfold rd_T37
  rw [Int.toNat_natCast, List.getD_eq_getElem?_getD, List.getD_eq_getElem?_getD, List.getElem?_append_left h1]
def xZ : RX := ⟨0, 0, [], []⟩
theorem allW_none (r s : List Bool) (a b : Int) : allW r s ⟨a, b, [], []⟩ = true := rfl
def oSelf (a : Int) : RO := ⟨6, a, 0, 0, 0, -1, ⟨0, 0⟩⟩
def oMov (a b : Int) : RO := ⟨1, a, b, 0, 0, -1, ⟨0, 0⟩⟩
theorem rC2_false (e : Int) : rC2 false e = false := rfl
theorem ord_self7 (regs slots : List Bool) (c : RC) : ordE regs slots c (oSelf 7) = 0 := by
  refine (ordE_iff _ _ _ _).2 ⟨by decide, ?_, rfl, rfl, rfl⟩
  have e : formO (oSelf 7).f0 = (⟨#[]⟩, true, 0, 0, false, false, 0, true) := rfl
  unfold rightO
  rw [e]
  unfold rightB
  rw [if_neg (by decide), if_neg (by decide), if_neg (by decide), if_neg (by decide), if_neg (by decide), if_neg (by rw [rC2_false]; decide), if_neg (by unfold rD oSelf; simp), if_pos (by decide)]
  decide
theorem ord_self3 (regs slots : List Bool) (c : RC) : ordE regs slots c (oSelf 3) = 0 := by
  refine (ordE_iff _ _ _ _).2 ⟨by decide, ?_, rfl, rfl, rfl⟩
  have e : formO (oSelf 3).f0 = (⟨#[]⟩, true, 0, 0, false, false, 0, true) := rfl
  unfold rightO
  rw [e]
  unfold rightB
  rw [if_neg (by decide), if_neg (by decide), if_neg (by decide), if_neg (by decide), if_neg (by decide), if_neg (by rw [rC2_false]; decide), if_neg (by unfold rD oSelf; simp), if_pos (by decide)]
  decide
theorem form_mov : formO 1 = (⟨#[66]⟩, true, 0, 0, false, false, 0, true) := rfl
theorem right_mov67 (c : RC) : rightO c (oMov 6 7) = true := by
  have e : formO (oMov 6 7).f0 = (⟨#[66]⟩, true, 0, 0, false, false, 0, true) := form_mov
  unfold rightO
  rw [e]
  unfold rightB
  rw [if_neg (by decide), if_neg (by decide), if_neg (by decide), if_neg (by decide), if_neg (by decide), if_neg (by rw [rC2_false]; decide), if_neg (by unfold rD oMov; simp), if_pos (by decide)]
  decide
theorem right_mov13 (c : RC) : rightO c (oMov 1 3) = true := by
  have e : formO (oMov 1 3).f0 = (⟨#[66]⟩, true, 0, 0, false, false, 0, true) := form_mov
  unfold rightO
  rw [e]
  unfold rightB
  rw [if_neg (by decide), if_neg (by decide), if_neg (by decide), if_neg (by decide), if_neg (by decide), if_neg (by rw [rC2_false]; decide), if_neg (by unfold rD oMov; simp), if_pos (by decide)]
  decide
theorem ord_mov67 (regs slots : List Bool) (c : RC) (h : regs.getD 7 false = true) : ordE regs slots c (oMov 6 7) = 0 := by
  refine (ordE_iff _ _ _ _).2 ⟨by decide, right_mov67 c, ?_, rfl, rfl⟩
  unfold badR
  rw [show readsL (oMov 6 7) = [7] from by decide]
  rw [List.any_cons, List.any_nil]
  show ((!isRegB 7 || !regs.getD 7 false) || false) = false
  rw [h]
  decide
theorem ord_mov13 (regs slots : List Bool) (c : RC) (h : regs.getD 3 false = true) : ordE regs slots c (oMov 1 3) = 0 := by
  refine (ordE_iff _ _ _ _).2 ⟨by decide, right_mov13 c, ?_, rfl, rfl⟩
  unfold badR
  rw [show readsL (oMov 1 3) = [3] from by decide]
  rw [List.any_cons, List.any_nil]
  show ((!isRegB 3 || !regs.getD 3 false) || false) = false
  rw [h]
  decide
theorem ord_mov13_no (regs slots : List Bool) (c : RC) (h : regs.getD 3 false = false) : ordE regs slots c (oMov 1 3) = 3 := by
  unfold ordE
  rw [if_neg (by decide), if_neg (by rw [right_mov13 c]; decide), if_pos ?_]
  unfold badR
  rw [show readsL (oMov 1 3) = [3] from by decide]
  rw [List.any_cons, List.any_nil]
  show ((!isRegB 3 || !regs.getD 3 false) || false) = true
  rw [h]
  decide
/-- The two pieces of code of the closed fact. -/
def cOk : RC := ⟨0, 0, 0, 0, [oSelf 3, oMov 1 3], [], xZ, xZ⟩
def cNo : RC := ⟨0, 0, 0, 0, [oMov 1 3], [], xZ, xZ⟩
theorem good_ok : GoodC cOk := by
  refine ⟨by decide, by decide, fun j hj => ?_, by decide⟩
  have hj : j < 2 := hj
  rcases j with _ | _ | j
  · exact ord_self3 _ _ _
  · exact ord_mov13 _ _ _ (by decide)
  · omega
theorem no_three {e : Int} (h : ChkR cNo e) : e = 3 := h.first3 (by decide) (by decide) (by decide) (ord_mov13_no _ _ _ (by decide))
/-! OrderExits. -/
def addO (c : RC) : RC := ⟨c.f0, c.f1, c.f2, c.f3, c.f4 ++ [oSelf 7, oMov 6 7], c.f5, c.f6, c.f7⟩
def addX (c : RC) (a : Int) : RC := ⟨c.f0, c.f1, c.f2, c.f3, c.f4, c.f5 ++ [⟨a, 0, [], []⟩], c.f6, c.f7⟩
theorem large_parts {c : RC} (h : largeC c = false) : (c.f4.length : Int) ≤ 1500 ∧ (c.f5.length : Int) ≤ 200 ∧ c.f3 ≤ 300 ∧ (exL c).any largeB = false := by
  unfold largeC at h
  split at h
  · exact absurd h (by decide)
  split at h
  · exact absurd h (by decide)
  split at h
  · exact absurd h (by decide)
  exact ⟨by omega, by omega, by omega, h⟩
theorem large_of {c : RC} (h1 : (c.f4.length : Int) ≤ 1500) (h2 : (c.f5.length : Int) ≤ 200) (h3 : c.f3 ≤ 300) (h4 : (exL c).any largeB = false) : largeC c = false := by
  unfold largeC
  rw [if_neg (by omega), if_neg (by omega), if_neg (by omega), h4]
theorem bad_parts {c : RC} (h : badC c = false) : 0 ≤ c.f3 ∧ 0 ≤ c.f0 ∧ 0 ≤ c.f1 ∧ 0 ≤ c.f2 ∧ c.f2 ≤ (c.f4.length : Int) := by
  unfold badC at h
  split at h
  · exact absurd h (by decide)
  split at h
  · exact absurd h (by decide)
  split at h
  · exact absurd h (by decide)
  split at h
  · exact absurd h (by decide)
  have := of_decide_eq_false h
  exact ⟨by omega, by omega, by omega, by omega, by omega⟩
theorem bad_of {c : RC} (h1 : 0 ≤ c.f3) (h2 : 0 ≤ c.f0) (h3 : 0 ≤ c.f1) (h4 : 0 ≤ c.f2) (h5 : c.f2 ≤ (c.f4.length : Int)) : badC c = false := by
  unfold badC
  rw [if_neg (by omega), if_neg (by omega), if_neg (by omega), if_neg (by omega)]
  exact decide_eq_false (by omega)
theorem end_parts {c : RC} (h : endB c = true) : turnB c = true ∧ allW (regsAt c c.f4.length) (slotsAt c c.f4.length) c.f7 = true ∧ ∀ x ∈ exL c, formedB x c.f3 = true := by
  unfold endB at h
  rw [Bool.and_eq_true, Bool.and_eq_true, List.all_eq_true] at h
  exact ⟨h.1.1, h.1.2, h.2⟩
theorem end_of {c : RC} (h1 : turnB c = true) (h2 : allW (regsAt c c.f4.length) (slotsAt c c.f4.length) c.f7 = true) (h3 : ∀ x ∈ exL c, formedB x c.f3 = true) : endB c = true := by
  unfold endB
  rw [Bool.and_eq_true, Bool.and_eq_true, List.all_eq_true]
  exact ⟨⟨h1, h2⟩, h3⟩
theorem addO_take (c : RC) (j : Nat) (h : j ≤ c.f4.length) : (addO c).f4.take j = c.f4.take j := List.take_append_of_le_length h
theorem addO_at0 (c : RC) (h : c.f4.length < (addO c).f4.length) : (addO c).f4[c.f4.length]'h = oSelf 7 := by
  have : (c.f4 ++ [oSelf 7, oMov 6 7])[c.f4.length]? = some (oSelf 7) := by rw [List.getElem?_append_right (Nat.le_refl _), Nat.sub_self]; rfl
  exact (List.getElem?_eq_some_iff.1 this).2
theorem addO_at1 (c : RC) (h : c.f4.length + 1 < (addO c).f4.length) : (addO c).f4[c.f4.length + 1]'h = oMov 6 7 := by
  have : (c.f4 ++ [oSelf 7, oMov 6 7])[c.f4.length + 1]? = some (oMov 6 7) := by rw [List.getElem?_append_right (by omega), show c.f4.length + 1 - c.f4.length = 1 from by omega]; rfl
  exact (List.getElem?_eq_some_iff.1 this).2
theorem addO_regs1 (c : RC) : regsAt (addO c) (c.f4.length + 1) = setR (regsAt c c.f4.length) (oSelf 7) := by
  have hlt : c.f4.length < (addO c).f4.length := by unfold addO; simp
  rw [regsAt_succ (addO c) hlt, regsAt_pre (addO_take c _ (Nat.le_refl _)), rdO hlt]
  rw [addO_at0 c hlt]
theorem addO_slots1 (c : RC) : slotsAt (addO c) (c.f4.length + 1) = slotsAt c c.f4.length := by
  have hlt : c.f4.length < (addO c).f4.length := by unfold addO; simp
  rw [slotsAt_succ (addO c) hlt, slotsAt_pre (addO_take c _ (Nat.le_refl _)) rfl, rdO hlt]
  have e := addO_at0 c hlt
  rw [e]
  unfold setS
  rw [if_neg (by decide)]
theorem addO_last (c : RC) : regsAt (addO c) (c.f4.length + 2) = setR (setR (regsAt c c.f4.length) (oSelf 7)) (oMov 6 7) ∧ slotsAt (addO c) (c.f4.length + 2) = slotsAt c c.f4.length := by
  have hlt : c.f4.length + 1 < (addO c).f4.length := by unfold addO; simp
  have e := addO_at1 c hlt
  constructor
  · rw [regsAt_succ (addO c) hlt, addO_regs1, rdO hlt, e]
  · rw [slotsAt_succ (addO c) hlt, addO_slots1, rdO hlt, e]
    unfold setS
    rw [if_neg (by decide)]
theorem turn_pre {c d : RC} (h2 : d.f2 = c.f2) (h3 : d.f3 = c.f3) (h6 : d.f6 = c.f6) (ht : d.f4.take c.f2.toNat = c.f4.take c.f2.toNat) : turnB d = turnB c := by
  unfold turnB
  rw [h2, h6, regsAt_pre ht, slotsAt_pre ht h3]
theorem good_addO {c : RC} (h : GoodC c) (hn : c.f4.length < 1400) : GoodC (addO c) := by
  obtain ⟨l1, l2, l3, l4⟩ := large_parts h.la
  obtain ⟨b1, b2, b3, b4, b5⟩ := bad_parts h.ba
  obtain ⟨e1, e2, e3⟩ := end_parts h.en
  have hlen : (addO c).f4.length = c.f4.length + 2 := by unfold addO; simp
  refine ⟨large_of (by rw [hlen]; omega) l2 l3 l4, bad_of b1 b2 b3 b4 (by rw [hlen]; show c.f2 ≤ _; omega), fun j hj => ?_, end_of ?_ ?_ e3⟩
  · rw [hlen] at hj
    by_cases hlt : j < c.f4.length
    · have h0 := h.er j hlt
      unfold errAt at h0 ⊢
      rw [regsAt_pre (addO_take c j (by omega)), slotsAt_pre (addO_take c j (by omega)) rfl]
      rw [show rd_T37 (addO c).f4 (j : Int) = rd_T37 c.f4 (j : Int) from rdO_pre hlt]
      exact ord_to h0 rfl (Nat.le_refl _) (fun i _ _ h => h)
    · by_cases he : j = c.f4.length
      · subst he
        unfold errAt
        rw [rdO (by rw [hlen]; omega)]
        rw [addO_at0 c (by rw [hlen]; omega)]
        exact ord_self7 _ _ _
      · have he : j = c.f4.length + 1 := by omega
        subst he
        unfold errAt
        rw [rdO (by rw [hlen]; omega)]
        rw [addO_at1 c (by rw [hlen]; omega)]
        refine ord_mov67 _ _ _ ?_
        rw [addO_regs1]
        have h8 := regsAt_len c c.f4.length
        unfold setR
        rw [if_pos (by decide), show (writesO (oSelf 7)).toNat = 7 from by decide, List.getD_eq_getElem?_getD, List.getElem?_set_self (by omega)]
        rfl
  · have ht : turnB (addO c) = turnB c := turn_pre rfl rfl rfl (addO_take c _ (by omega))
    rw [ht]
    exact e1
  · rw [hlen, (addO_last c).1, (addO_last c).2]
    exact all_sub ((sub_setR _ _).trans (sub_setR _ _)) _ e2
theorem err_addX {c : RC} (h : GoodC c) (a : Int) : ∀ j, j < (addX c a).f4.length → errAt (addX c a) j = 0 := by
  intro j hj
  have h0 := h.er j hj
  unfold errAt at h0 ⊢
  rw [regsAt_pre (d := addX c a) (c := c) rfl, slotsAt_pre (d := addX c a) (c := c) rfl rfl]
  refine ord_to h0 rfl (by unfold addX; simp) (fun i h1 h2 h3 => ?_)
  rw [show rd_T27 (addX c a).f5 i = rd_T27 c.f5 i from rd_pre h1 h2]
  exact h3
theorem large_addX {c : RC} (h : GoodC c) (hn : c.f5.length < 190) (a : Int) : largeC (addX c a) = false := by
  obtain ⟨l1, l2, l3, l4⟩ := large_parts h.la
  refine large_of l1 (by unfold addX; simp; omega) l3 ?_
  show ([c.f6, c.f7] ++ (c.f5 ++ [(⟨a, 0, [], []⟩ : RX)])).any largeB = false
  rw [← List.append_assoc, List.any_append]
  rw [show ([c.f6, c.f7] ++ c.f5).any largeB = false from l4]
  rfl
theorem good_addX {c : RC} (h : GoodC c) (hn : c.f5.length < 190) : GoodC (addX c 1) := by
  obtain ⟨b1, b2, b3, b4, b5⟩ := bad_parts h.ba
  obtain ⟨e1, e2, e3⟩ := end_parts h.en
  refine ⟨large_addX h hn 1, bad_of b1 b2 b3 b4 b5, err_addX h 1, end_of ?_ e2 ?_⟩
  · rw [turn_pre (c := c) (d := addX c 1) rfl rfl rfl rfl]
    exact e1
  · intro x hx
    rw [show exL (addX c 1) = exL c ++ [⟨1, 0, [], []⟩] from by unfold exL addX; simp] at hx
    rcases List.mem_append.1 hx with h | h
    · exact e3 x h
    · rw [List.mem_singleton.1 h]
      rfl
theorem end_addX (c : RC) : endB (addX c (-1)) = false := by
  have h : (exL (addX c (-1))).all (fun x => formedB x (addX c (-1)).f3) = false := by
    rw [List.all_eq_false]
    refine ⟨⟨-1, 0, [], []⟩, by unfold exL addX; simp, ?_⟩
    rw [show formedB ⟨-1, 0, [], []⟩ (addX c (-1)).f3 = false from rfl]
    decide
  unfold endB
  rw [h, Bool.and_false]
/-! OrderLess. -/
def lessC (c : RC) (k : Nat) : RC := ⟨c.f0, c.f1, 0, c.f3, c.f4.take k, List.replicate c.f5.length xZ, xZ, ⟨c.f1, 0, [], []⟩⟩
theorem good_less {c : RC} (h : GoodC c) (k : Nat) : GoodC (lessC c k) := by
  obtain ⟨l1, l2, l3, l4⟩ := large_parts h.la
  obtain ⟨b1, b2, b3, b4, b5⟩ := bad_parts h.ba
  have hlen : (lessC c k).f4.length = min k c.f4.length := by unfold lessC; simp
  have hx : ∀ x ∈ exL (lessC c k), x = xZ ∨ x = ⟨c.f1, 0, [], []⟩ := by
    intro x hx
    unfold exL lessC at hx
    rcases List.mem_append.1 hx with h | h
    · rcases List.mem_cons.1 h with h | h
      · exact .inl h
      · exact .inr (List.mem_singleton.1 h)
    · exact .inl (List.eq_of_mem_replicate h)
  refine ⟨large_of (by rw [hlen]; omega) (by unfold lessC; simp; omega) l3 ?_, bad_of b1 b2 b3 (by show (0 : Int) ≤ 0; omega) (by show (0 : Int) ≤ _; omega), fun j hj => ?_, end_of rfl rfl ?_⟩
  · rw [List.any_eq_false]
    intro x hx_
    rcases hx x hx_ with rfl | rfl
    · decide
    · show ¬ largeB ⟨c.f1, 0, [], []⟩ = true
      rw [show largeB ⟨c.f1, 0, [], []⟩ = false from rfl]
      decide
  · rw [hlen] at hj
    have h0 := h.er j (by omega)
    have ht : (lessC c k).f4.take j = c.f4.take j := by
      show (c.f4.take k).take j = _
      rw [List.take_take, Nat.min_eq_left (by omega)]
    have hr : rd_T37 (lessC c k).f4 (j : Int) = rd_T37 c.f4 (j : Int) := by
      rw [rdO (by rw [hlen]; omega), rdO (show j < c.f4.length by omega)]
      exact List.getElem_take
    unfold errAt at h0 ⊢
    rw [regsAt_pre ht, slotsAt_pre ht rfl, hr]
    refine ord_to h0 rfl (by unfold lessC; simp) (fun i h1 h2 h3 => ?_)
    have e : rd_T27 (lessC c k).f5 i = xZ := by
      unfold rd_T27 lessC
      rw [List.getD_eq_getElem?_getD, List.getElem?_replicate, if_pos (by omega)]
      rfl
    rw [e]
    rfl
  · intro x hx_
    rcases hx x hx_ with rfl | rfl
    · rfl
    · unfold formedB
      rw [if_neg (by show ¬ c.f1 < 0; omega), if_neg (by show ¬ (0 : Int) < 0; omega), if_neg (by show ¬ (0 : Int) > 200; omega), if_neg (show ¬ (setsR (-1) ([] : List S126) = false) by decide), if_neg (show ¬ (([] : List RM).any badMk = true) by decide)]
      rfl
/-! OrderWritten. -/
theorem reads_in {c : RC} (h : GoodC c) {i : Nat} (hi : i < c.f4.length) : ∀ r ∈ readsL (rd_T37 c.f4 (i : Int)), 0 ≤ r ∧ r < 8 ∧ (regsAt c i).getD r.toNat false = true := by
  intro r hr
  have h0 := ((ordE_iff _ _ _ _).1 (h.er i hi)).2.2.1
  unfold badR at h0
  rw [List.any_eq_false] at h0
  have h1 := h0 r hr
  simp only [Bool.or_eq_true, Bool.not_eq_true', not_or, Bool.not_eq_false] at h1
  have h2 := h1.1
  unfold isRegB at h2
  split at h2
  · exact ⟨by omega, of_decide_eq_true h2, h1.2⟩
  · exact absurd h2 (by decide)
theorem writes_in {c : RC} (h : GoodC c) {i : Nat} (hi : i < c.f4.length) : 0 ≤ writesO (rd_T37 c.f4 (i : Int)) → writesO (rd_T37 c.f4 (i : Int)) < 8 := (right_ok ((ordE_iff _ _ _ _).1 (h.er i hi)).2.1).2.2
end Go.Proofs.Ytecaemebamhamaa.Lv
