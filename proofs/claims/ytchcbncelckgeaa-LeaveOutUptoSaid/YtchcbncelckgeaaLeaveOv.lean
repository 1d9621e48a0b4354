/- What leave.Out hands back, told in one contract for every state. -/
import Derived.Test.YtchcbncelckgeaaLeaveOq
import Derived.Test.YtchcbncelckgeaaPM9
import Derived.Test.YtchcbncelckgeaaPM10
set_option linter.unusedVariables false
set_option linter.unusedSimpArgs false
namespace Go.Proofs.Ytchcbncelckgeaa.PM
open Go.RowKit Go.Proofs.YtchcbncelckgeaaW.PrintWords Go.Proofs.YtchcbncelckgeaaW.PrintLast Go.Proofs.YtchcbncelckgeaaW.PrintMore Go.Proofs.Ytchcbncelckgeaa.Hnd Go.Proofs.Ytchcbncelckgeaa.LeavePM Go.Proofs.Ytchcbncelckgeaa.Lvo

/-- A state of a size that machines have. -/
structure SmS (l0 : List S50) (l1 : List S68) (l2 : List ByteArray) (l3 : List Td) (l4 : List S71) (l5 : List Vl) : Prop where
  cs : l0.length ≤ 1048576
  cm : ∀ c ∈ l0, Sm c
  sh : l1.length ≤ 1048576
  tx : l2.length ≤ 1048576
  th : l3.length ≤ 1048576
  tm : ∀ t ∈ l3, SmT t
  en : l4.length ≤ 1048576
  sa : l5.length ≤ 1048576
/-- An exit of a size that machines have. -/
structure SmX (sets : List S34) (makes : List S46) : Prop where
  st : sets.length ≤ 1048576
  ml : makes.length ≤ 1048576
  mm : ∀ m ∈ makes, m.f3.length ≤ 1048576
/-- What Out handed back, a value. -/
def OutV (ok : Nat → Prop) (w' : World) (v : Value) (cs : List S50) (sh : List S68) (tx : List ByteArray) (th : List Td) (en : List S71) (sa : List Vl) (asked steps : Int) : Prop :=
  ∃ A0 c0 A1 c1 A2 c2 A3 c3 A4 c4 A5 c5, v = .agg #[.slice A0 cs.length c0, .slice A1 sh.length c1, .slice A2 tx.length c2, .slice A3 th.length c3, .slice A4 en.length c4, .slice A5 sa.length c5, .int .i64 asked, .int .i64 steps] ∧
    Kd.F k50 w' ok A0 cs.length cs ∧ cs.length ≤ c0 ∧ Kd.F k68 w' ok A1 sh.length sh ∧ sh.length ≤ c1 ∧ Kd.F Kd.string w' ok A2 tx.length tx ∧ tx.length ≤ c2 ∧ Kd.F k62 w' ok A3 th.length th ∧ th.length ≤ c3 ∧ Kd.F k71 w' ok A4 en.length en ∧ en.length ≤ c4 ∧ Kd.F k23 w' ok A5 sa.length sa ∧ sa.length ≤ c5
theorem OutV.step {ok : Nat → Prop} {w' w2 : World} {v : Value} {cs : List S50} {sh : List S68} {tx : List ByteArray} {th : List Td} {en : List S71} {sa : List Vl} {asked steps : Int} (h : OutV ok w' v cs sh tx th en sa asked steps) (hb : ∀ k, ok k → k < w'.heap.size → w2.heap[k]? = w'.heap[k]?) : OutV ok w2 v cs sh tx th en sa asked steps := by
  obtain ⟨A0, c0, A1, c1, A2, c2, A3, c3, A4, c4, A5, c5, e, h0, g0, h1, g1, h2, g2, h3, g3, h4, g4, h5, g5⟩ := h
  exact ⟨A0, c0, A1, c1, A2, c2, A3, c3, A4, c4, A5, c5, e, Kd.F_step h0 hb, g0, Kd.F_step h1 hb, g1, Kd.F_step h2 hb, g2, Kd.F_step h3 hb, g3, Kd.F_step h4 hb, g4, Kd.F_step h5 hb, g5⟩
theorem OutV.bmono {ok ok' : Nat → Prop} {w' : World} {v : Value} {cs : List S50} {sh : List S68} {tx : List ByteArray} {th : List Td} {en : List S71} {sa : List Vl} {asked steps : Int} (h : OutV ok w' v cs sh tx th en sa asked steps) (hb : ∀ k, ok k → k < w'.heap.size → ok' k) : OutV ok' w' v cs sh tx th en sa asked steps := by
  have hb : ∀ k, (ok k ∧ k < w'.heap.size) → ok' k := fun k hk => hb k hk.1 hk.2
  obtain ⟨A0, c0, A1, c1, A2, c2, A3, c3, A4, c4, A5, c5, e, h0, g0, h1, g1, h2, g2, h3, g3, h4, g4, h5, g5⟩ := h
  exact ⟨A0, c0, A1, c1, A2, c2, A3, c3, A4, c4, A5, c5, e, Kd.F_mono (Kd.F_bound h0) hb, g0, Kd.F_mono (Kd.F_bound h1) hb, g1, Kd.F_mono (Kd.F_bound h2) hb, g2, Kd.F_mono (Kd.F_bound h3) hb, g3, Kd.F_mono (Kd.F_bound h4) hb, g4, Kd.F_mono (Kd.F_bound h5) hb, g5⟩
theorem OutP.v {ok : Nat → Prop} {w' : World} {e : Ending} {cs : List S50} {sh : List S68} {tx : List ByteArray} {th : List Td} {en : List S71} {sa : List Vl} {asked steps : Int} {err : Int} (h : OutP ok w' e cs sh tx th en sa asked steps err) : ∃ v, e = .returned (.tuple #[v, .int .i64 err]) ∧ OutV ok w' v cs sh tx th en sa asked steps := by
  obtain ⟨A0, c0, A1, c1, A2, c2, A3, c3, A4, c4, A5, c5, e, h⟩ := h
  exact ⟨_, e, A0, c0, A1, c1, A2, c2, A3, c3, A4, c4, A5, c5, rfl, h⟩
/-- Is there no such thread, or has it no frames? -/
def badT (th : List Td) (t : Int) : Prop := t < 0 ∨ (th.length : Int) ≤ t ∨ (th.getD t.toNat z62).f0 = []
theorem OutV.form {ok : Nat → Prop} {w' : World} {v : Value} {cs : List S50} {sh : List S68} {tx : List ByteArray} {th : List Td} {en : List S71} {sa : List Vl} {asked steps : Int} (h : OutV ok w' v cs sh tx th en sa asked steps) : ∃ A0 n0 c0 A1 n1 c1 A2 n2 c2 A3 n3 c3 A4 n4 c4 A5 n5 c5 x y, v = .agg #[.slice A0 n0 c0, .slice A1 n1 c1, .slice A2 n2 c2, .slice A3 n3 c3, .slice A4 n4 c4, .slice A5 n5 c5, .int .i64 x, .int .i64 y] := by
  obtain ⟨A0, c0, A1, c1, A2, c2, A3, c3, A4, c4, A5, c5, e, h⟩ := h
  exact ⟨A0, _, c0, A1, _, c1, A2, _, c2, A3, _, c3, A4, _, c4, A5, _, c5, _, _, e⟩
/-- What Frame makes of the last frame of a thread. -/
def frL (l3 : List Td) (t : Nat) (vals : List Vl) (sets : List S34) (xa : Int) : Fm × Int := frF vals sets xa ((l3.getD t z62).f0.getD ((l3.getD t z62).f0.length - 1) z27)
/-- What Out says. -/
def LO (l0 : List S50) (l1 : List S68) (l2 : List ByteArray) (l3 : List Td) (l4 : List S71) (l5 : List Vl) (asked steps t xa xs : Int) (sets : List S34) (makes : List S46) (vals : List Vl) (ok : Nat → Prop) (w' : World) (v : Value) (err : Int) : Prop :=
  (badT l3 t ∧ err = 5 ∧ OutV ok w' v [] [] [] [] [] [] 0 0) ∨
  (¬ badT l3 t ∧ (cellsL vals makes l0).2 ≠ 0 ∧ err = (cellsL vals makes l0).2 ∧ OutV ok w' v [] [] [] [] [] [] 0 0) ∨
  (¬ badT l3 t ∧ (cellsL vals makes l0).2 = 0 ∧ (frL l3 t.toNat vals sets xa).2 ≠ 0 ∧ err = (frL l3 t.toNat vals sets xa).2 ∧ OutV ok w' v [] [] [] [] [] [] 0 0) ∨
  (¬ badT l3 t ∧ (cellsL vals makes l0).2 = 0 ∧ (frL l3 t.toNat vals sets xa).2 = 0 ∧ err = 0 ∧ OutV ok w' v (cellsL vals makes l0).1 l1 l2 (newTh l3 t.toNat ((l3.getD t.toNat z62).f0.length - 1) (frL l3 t.toNat vals sets xa).1) l4 l5 asked (wrap64 (steps + xs)))
theorem LO.form {l0 : List S50} {l1 : List S68} {l2 : List ByteArray} {l3 : List Td} {l4 : List S71} {l5 : List Vl} {asked steps t xa xs : Int} {sets : List S34} {makes : List S46} {vals : List Vl} {ok : Nat → Prop} {w' : World} {v : Value} {err : Int} (h : LO l0 l1 l2 l3 l4 l5 asked steps t xa xs sets makes vals ok w' v err) : ∃ A0 n0 c0 A1 n1 c1 A2 n2 c2 A3 n3 c3 A4 n4 c4 A5 n5 c5 x y, v = .agg #[.slice A0 n0 c0, .slice A1 n1 c1, .slice A2 n2 c2, .slice A3 n3 c3, .slice A4 n4 c4, .slice A5 n5 c5, .int .i64 x, .int .i64 y] := by
  rcases h with ⟨_, _, h⟩ | ⟨_, _, _, h⟩ | ⟨_, _, _, _, h⟩ | ⟨_, _, _, _, h⟩ <;> exact h.form
theorem LO.step {l0 : List S50} {l1 : List S68} {l2 : List ByteArray} {l3 : List Td} {l4 : List S71} {l5 : List Vl} {asked steps t xa xs : Int} {sets : List S34} {makes : List S46} {vals : List Vl} {ok : Nat → Prop} {w' w2 : World} {v : Value} {err : Int} (h : LO l0 l1 l2 l3 l4 l5 asked steps t xa xs sets makes vals ok w' v err) (hb : ∀ k, ok k → k < w'.heap.size → w2.heap[k]? = w'.heap[k]?) : LO l0 l1 l2 l3 l4 l5 asked steps t xa xs sets makes vals ok w2 v err := by
  rcases h with ⟨h1, h2, h⟩ | ⟨h1, h2, h3, h⟩ | ⟨h1, h2, h3, h4, h⟩ | ⟨h1, h2, h3, h4, h⟩
  · exact .inl ⟨h1, h2, h.step hb⟩
  · exact .inr (.inl ⟨h1, h2, h3, h.step hb⟩)
  · exact .inr (.inr (.inl ⟨h1, h2, h3, h4, h.step hb⟩))
  · exact .inr (.inr (.inr ⟨h1, h2, h3, h4, h.step hb⟩))
set_option maxRecDepth 100000 in
theorem out_all (W : World) (z : Nat) (hz : z ≤ W.heap.size) {A0_0 : Option Addr} {c0_0 : Nat} {l0_0 : List S50} {A0_1 : Option Addr} {c0_1 : Nat} {l0_1 : List S68} {A0_2 : Option Addr} {c0_2 : Nat} {l0_2 : List ByteArray} {A0_3 : Option Addr} {c0_3 : Nat} {l0_3 : List Td} {A0_4 : Option Addr} {c0_4 : Nat} {l0_4 : List S71} {A0_5 : Option Addr} {c0_5 : Nat} {l0_5 : List Vl} {a0_6 a0_7 a1 xa xs : Int} {A2_2 : Option Addr} {c2_2 : Nat} {l2_2 : List S34} {A2_3 : Option Addr} {c2_3 : Nat} {l2_3 : List S46} {A3 : Option Addr} {c3 : Nat} {l3 : List Vl}
    (hr0 : Kd.F k50 W (fun k => k < z) A0_0 l0_0.length l0_0) (hc0 : l0_0.length ≤ c0_0) (hr1 : Kd.F k68 W (fun k => k < z) A0_1 l0_1.length l0_1) (hc1 : l0_1.length ≤ c0_1) (hr2 : Kd.F Kd.string W (fun k => k < z) A0_2 l0_2.length l0_2) (hc2 : l0_2.length ≤ c0_2) (hr3 : Kd.F k62 W (fun k => k < z) A0_3 l0_3.length l0_3) (hc3 : l0_3.length ≤ c0_3) (hr4 : Kd.F k71 W (fun k => k < z) A0_4 l0_4.length l0_4) (hc4 : l0_4.length ≤ c0_4) (hr5 : Kd.F k23 W (fun k => k < z) A0_5 l0_5.length l0_5) (hc5 : l0_5.length ≤ c0_5) (hst : Kd.C k34 W A2_2 l2_2.length l2_2) (hstc : l2_2.length ≤ c2_2) (hmk : Kd.C k46 W A2_3 l2_3.length l2_3) (hmkc : l2_3.length ≤ c2_3) (hva : Kd.C k23 W A3 l3.length l3) (hvac : l3.length ≤ c3) (ok : SmS l0_0 l0_1 l0_2 l0_3 l0_4 l0_5) (okx : SmX l2_2 l2_3) :
    Calls Try.prog 20 #[.agg #[.slice A0_0 l0_0.length c0_0, .slice A0_1 l0_1.length c0_1, .slice A0_2 l0_2.length c0_2, .slice A0_3 l0_3.length c0_3, .slice A0_4 l0_4.length c0_4, .slice A0_5 l0_5.length c0_5, .int .i64 a0_6, .int .i64 a0_7], .int .i64 a1, .agg #[.int .i64 xa, .int .i64 xs, .slice A2_2 l2_2.length c2_2, .slice A2_3 l2_3.length c2_3], .slice A3 l3.length c3] W fun e w' => ∃ v err, e = .returned (.tuple #[v, .int .i64 err]) ∧ LO l0_0 l0_1 l0_2 l0_3 l0_4 l0_5 a0_6 a0_7 a1 xa xs l2_2 l2_3 l3 (fun k => k < z ∨ W.heap.size ≤ k) w' v err ∧ Below W.heap.size W w' := by
  have hI : OutI W (fun k => k < z) (AC := A0_0) (cC := c0_0) (cs := l0_0) (ASh := A0_1) (cSh := c0_1) (sh := l0_1) (ATx := A0_2) (cTx := c0_2) (tx := l0_2) (AT := A0_3) (cT := c0_3) (th := l0_3) (AE := A0_4) (cE := c0_4) (en := l0_4) (AS := A0_5) (cS := c0_5) (sa := l0_5) (ASt := A2_2) (cSt := c2_2) (sets := l2_2) (AM := A2_3) (cM := c2_3) (makes := l2_3) (AV := A3) (cV := c3) (vals := l3) :=
    ⟨fun _ h => Nat.lt_of_lt_of_le h hz, Kd.V_mk hc0 hr0, Kd.F_now hr1, hc1, Kd.F_now hr2, hc2, Kd.V_mk hc3 hr3, Kd.F_now hr4, hc4, Kd.F_now hr5, hc5, hst, hstc, hmk, hmkc, hva, hvac⟩
  by_cases hbad : badT l0_3 a1
  · refine (out_calls W _ hI (asked := a0_6) (steps := a0_7) (xa := xa) (xs := xs) hbad).mono ?_
    rintro e w' ⟨h1, h2⟩
    obtain ⟨v, he, hv⟩ := OutP.v h1
    exact ⟨v, 5, he, .inl ⟨hbad, rfl, hv⟩, h2⟩
  · obtain ⟨t, rfl⟩ : ∃ t : Nat, a1 = t := ⟨a1.toNat, by unfold badT at hbad; omega⟩
    have ht : t < l0_3.length := by unfold badT at hbad; omega
    have hne : (l0_3.getD t z62).f0 ≠ [] := fun e => hbad (.inr (.inr (by rw [Int.toNat_natCast]; exact e)))
    have hm : (l0_3.getD t z62).f0.length = ((l0_3.getD t z62).f0.length - 1) + 1 := by have := List.length_pos_iff.2 hne; omega
    refine (out_good W _ hI (asked := a0_6) (steps := a0_7) (xa := xa) (xs := xs) ok.cs ok.cm ok.sh ok.tx ok.th ok.tm ok.en ok.sa okx.st okx.ml okx.mm ht _ hm).mono ?_
    rintro e w' ⟨h1, h2, h3, h4⟩
    by_cases he1 : (cellsL l3 l2_3 l0_0).2 = 0
    · by_cases he2 : (frL l0_3 t l3 l2_2 xa).2 = 0
      · obtain ⟨v, he, hv⟩ := OutP.v (h3 he1 he2)
        exact ⟨v, 0, he, .inr (.inr (.inr ⟨hbad, he1, by rw [Int.toNat_natCast]; exact he2, rfl, by rw [Int.toNat_natCast]; exact hv⟩)), h4⟩
      · obtain ⟨v, he, hv⟩ := OutP.v (h2 he1 he2)
        exact ⟨v, _, he, .inr (.inr (.inl ⟨hbad, he1, by rw [Int.toNat_natCast]; exact he2, by rw [Int.toNat_natCast]; rfl, hv⟩)), h4⟩
    · obtain ⟨v, he, hv⟩ := OutP.v (h1 he1)
      exact ⟨v, _, he, .inr (.inl ⟨hbad, he1, rfl, hv⟩), h4⟩
theorem eq_val (l : List S23) (hl : l.length ≤ 1048576) : api_Val_22.f (l.length + 1) l l = some true := by
  have h : ∀ (d i k : Nat), l.length - i = d → i ≤ l.length → d < k → api_Val_22.l0 k l l (l.length : Int) (i : Int) = some true := by
    intro d
    induction d with
    | zero =>
      intro i k hd hi hk
      obtain ⟨k, rfl⟩ : ∃ m, k = m + 1 := ⟨k - 1, by omega⟩
      simp only [api_Val_22.l0]
      rw [if_neg (by omega)]
    | succ d ih =>
      intro i k hd hi hk
      obtain ⟨k, rfl⟩ : ∃ m, k = m + 1 := ⟨k - 1, by omega⟩
      simp only [api_Val_22.l0]
      rw [if_pos (by omega), if_pos (by omega), if_pos (by omega), if_pos (by omega), if_neg (by simp), wrap_up (i : Int) (by omega) (by omega)]
      have := ih (i + 1) k (by omega) (by omega) (by omega)
      rw [show ((i + 1 : Nat) : Int) = (i : Int) + 1 from by omega] at this
      exact this
  unfold api_Val_22.f
  rw [if_pos rfl]
  exact h l.length 0 _ (by omega) (Nat.zero_le _) (by omega)
theorem eq_strs (l : List ByteArray) (hl : l.length ≤ 1048576) : backstitchref3_Eq_string.f (l.length + 1) l l = some true := by
  have h : ∀ (d i k : Nat), l.length - i = d → i ≤ l.length → d < k → backstitchref3_Eq_string.l0 k l l (l.length : Int) (i : Int) = some true := by
    intro d
    induction d with
    | zero =>
      intro i k hd hi hk
      obtain ⟨k, rfl⟩ : ∃ m, k = m + 1 := ⟨k - 1, by omega⟩
      simp only [backstitchref3_Eq_string.l0]
      rw [if_neg (by omega)]
    | succ d ih =>
      intro i k hd hi hk
      obtain ⟨k, rfl⟩ : ∃ m, k = m + 1 := ⟨k - 1, by omega⟩
      simp only [backstitchref3_Eq_string.l0]
      rw [if_pos (by omega), if_pos (by omega), if_pos (by omega), if_pos (by omega), wrap_up (i : Int) (by omega) (by omega)]
      simp only [if_true]
      have := ih (i + 1) k (by omega) (by omega) (by omega)
      rw [show ((i + 1 : Nat) : Int) = (i : Int) + 1 from by omega] at this
      exact this
  unfold backstitchref3_Eq_string.f
  rw [if_pos rfl]
  exact h l.length 0 _ (by omega) (Nat.zero_le _) (by omega)
theorem eq_shapes (l : List S68) (hl : l.length ≤ 1048576) : api_Shape_24.f (l.length + 1) l l = some true := by
  have h : ∀ (d i k : Nat), l.length - i = d → i ≤ l.length → d < k → api_Shape_24.l0 k l l (l.length : Int) (i : Int) = some true := by
    intro d
    induction d with
    | zero =>
      intro i k hd hi hk
      obtain ⟨k, rfl⟩ : ∃ m, k = m + 1 := ⟨k - 1, by omega⟩
      simp only [api_Shape_24.l0]
      rw [if_neg (by omega)]
    | succ d ih =>
      intro i k hd hi hk
      obtain ⟨k, rfl⟩ : ∃ m, k = m + 1 := ⟨k - 1, by omega⟩
      simp only [api_Shape_24.l0]
      rw [if_pos (by omega), if_pos (by omega), if_pos (by omega), if_pos (by omega), if_neg (by simp), wrap_up (i : Int) (by omega) (by omega)]
      have := ih (i + 1) k (by omega) (by omega) (by omega)
      rw [show ((i + 1 : Nat) : Int) = (i : Int) + 1 from by omega] at this
      exact this
  unfold api_Shape_24.f
  rw [if_pos rfl]
  exact h l.length 0 _ (by omega) (Nat.zero_le _) (by omega)
theorem eq_ends (l : List S71) (hl : l.length ≤ 1048576) : api_End_25.f (l.length + 1) l l = some true := by
  have h : ∀ (d i k : Nat), l.length - i = d → i ≤ l.length → d < k → api_End_25.l0 k l l (l.length : Int) (i : Int) = some true := by
    intro d
    induction d with
    | zero =>
      intro i k hd hi hk
      obtain ⟨k, rfl⟩ : ∃ m, k = m + 1 := ⟨k - 1, by omega⟩
      simp only [api_End_25.l0]
      rw [if_neg (by omega)]
    | succ d ih =>
      intro i k hd hi hk
      obtain ⟨k, rfl⟩ : ∃ m, k = m + 1 := ⟨k - 1, by omega⟩
      simp only [api_End_25.l0]
      rw [if_pos (by omega), if_pos (by omega), if_pos (by omega), if_pos (by omega), if_neg (by simp), wrap_up (i : Int) (by omega) (by omega)]
      have := ih (i + 1) k (by omega) (by omega) (by omega)
      rw [show ((i + 1 : Nat) : Int) = (i : Int) + 1 from by omega] at this
      exact this
  unfold api_End_25.f
  rw [if_pos rfl]
  exact h l.length 0 _ (by omega) (Nat.zero_le _) (by omega)
end Go.Proofs.Ytchcbncelckgeaa.PM
