/- The law function LeaveBare: what it answers (under way). -/
import Derived.Test.YtchcbncelckgeaaLeaveOq
import Derived.Test.YtchcbncelckgeaaPM9
import Derived.Test.YtchcbncelckgeaaPM10
set_option linter.unusedVariables false
set_option linter.unusedSimpArgs false
namespace Go.Proofs.Ytchcbncelckgeaa.PM
open Go.RowKit Go.Proofs.YtchcbncelckgeaaW.PrintWords Go.Proofs.YtchcbncelckgeaaW.PrintLast Go.Proofs.YtchcbncelckgeaaW.PrintMore Go.Proofs.Ytchcbncelckgeaa.Hnd Go.Proofs.Ytchcbncelckgeaa.LeavePM Go.Proofs.Ytchcbncelckgeaa.Lvo

/-- A state of a size that machines have. -/
structure SmS (l0 : List S50) (l1 : List S68) (l2 : List ByteArray) (l3 : List Td) (l4 : List S71) (l5 : List Vl) : Prop where
  cs : l0.length ≤ 1048576
  cm : ∀ c ∈ l0, Sm c
  sh : l1.length ≤ 1048576
  tx : l2.length ≤ 1048576
  th : l3.length ≤ 1048576
  tm : ∀ t ∈ l3, SmT t
  en : l4.length ≤ 1048576
  sa : l5.length ≤ 1048576
theorem rest1000 (a : Int) : ∃ r, backstitchref3_Rest.f a 1000 = some r := by
  unfold backstitchref3_Rest.f
  rw [if_neg (by decide)]
  split <;> exact ⟨_, rfl⟩
/-- What Out handed back, a value. -/
def OutV (ok : Nat → Prop) (w' : World) (v : Value) (cs : List S50) (sh : List S68) (tx : List ByteArray) (th : List Td) (en : List S71) (sa : List Vl) (asked steps : Int) : Prop :=
  ∃ A0 c0 A1 c1 A2 c2 A3 c3 A4 c4 A5 c5, v = .agg #[.slice A0 cs.length c0, .slice A1 sh.length c1, .slice A2 tx.length c2, .slice A3 th.length c3, .slice A4 en.length c4, .slice A5 sa.length c5, .int .i64 asked, .int .i64 steps] ∧
    Kd.F k50 w' ok A0 cs.length cs ∧ cs.length ≤ c0 ∧ Kd.F k68 w' ok A1 sh.length sh ∧ sh.length ≤ c1 ∧ Kd.F Kd.string w' ok A2 tx.length tx ∧ tx.length ≤ c2 ∧ Kd.F k62 w' ok A3 th.length th ∧ th.length ≤ c3 ∧ Kd.F k71 w' ok A4 en.length en ∧ en.length ≤ c4 ∧ Kd.F k23 w' ok A5 sa.length sa ∧ sa.length ≤ c5
theorem OutV.step {ok : Nat → Prop} {w' w2 : World} {v : Value} {cs : List S50} {sh : List S68} {tx : List ByteArray} {th : List Td} {en : List S71} {sa : List Vl} {asked steps : Int} (h : OutV ok w' v cs sh tx th en sa asked steps) (hb : ∀ k, ok k → k < w'.heap.size → w2.heap[k]? = w'.heap[k]?) : OutV ok w2 v cs sh tx th en sa asked steps := by
  obtain ⟨A0, c0, A1, c1, A2, c2, A3, c3, A4, c4, A5, c5, e, h0, g0, h1, g1, h2, g2, h3, g3, h4, g4, h5, g5⟩ := h
  exact ⟨A0, c0, A1, c1, A2, c2, A3, c3, A4, c4, A5, c5, e, Kd.F_step h0 hb, g0, Kd.F_step h1 hb, g1, Kd.F_step h2 hb, g2, Kd.F_step h3 hb, g3, Kd.F_step h4 hb, g4, Kd.F_step h5 hb, g5⟩
theorem OutV.bmono {ok ok' : Nat → Prop} {w' : World} {v : Value} {cs : List S50} {sh : List S68} {tx : List ByteArray} {th : List Td} {en : List S71} {sa : List Vl} {asked steps : Int} (h : OutV ok w' v cs sh tx th en sa asked steps) (hb : ∀ k, ok k → k < w'.heap.size → ok' k) : OutV ok' w' v cs sh tx th en sa asked steps := by
  have hb : ∀ k, (ok k ∧ k < w'.heap.size) → ok' k := fun k hk => hb k hk.1 hk.2
  obtain ⟨A0, c0, A1, c1, A2, c2, A3, c3, A4, c4, A5, c5, e, h0, g0, h1, g1, h2, g2, h3, g3, h4, g4, h5, g5⟩ := h
  exact ⟨A0, c0, A1, c1, A2, c2, A3, c3, A4, c4, A5, c5, e, Kd.F_mono (Kd.F_bound h0) hb, g0, Kd.F_mono (Kd.F_bound h1) hb, g1, Kd.F_mono (Kd.F_bound h2) hb, g2, Kd.F_mono (Kd.F_bound h3) hb, g3, Kd.F_mono (Kd.F_bound h4) hb, g4, Kd.F_mono (Kd.F_bound h5) hb, g5⟩
theorem OutP.v {ok : Nat → Prop} {w' : World} {e : Ending} {cs : List S50} {sh : List S68} {tx : List ByteArray} {th : List Td} {en : List S71} {sa : List Vl} {asked steps : Int} {err : Int} (h : OutP ok w' e cs sh tx th en sa asked steps err) : ∃ v, e = .returned (.tuple #[v, .int .i64 err]) ∧ OutV ok w' v cs sh tx th en sa asked steps := by
  obtain ⟨A0, c0, A1, c1, A2, c2, A3, c3, A4, c4, A5, c5, e, h⟩ := h
  exact ⟨_, e, A0, c0, A1, c1, A2, c2, A3, c3, A4, c4, A5, c5, rfl, h⟩
/-- Is there no such thread, or has it no frames? -/
def badT (th : List Td) (t : Int) : Prop := t < 0 ∨ (th.length : Int) ≤ t ∨ (th.getD t.toNat z62).f0 = []
/-- The last frame of a thread, at another place. -/
def bareF (th : List Td) (t : Nat) (xa : Int) : Fm := ⟨((th.getD t z62).f0.getD ((th.getD t z62).f0.length - 1) z27).f0, xa, ((th.getD t z62).f0.getD ((th.getD t z62).f0.length - 1) z27).f2, ((th.getD t z62).f0.getD ((th.getD t z62).f0.length - 1) z27).f3, ((th.getD t z62).f0.getD ((th.getD t z62).f0.length - 1) z27).f4, ((th.getD t z62).f0.getD ((th.getD t z62).f0.length - 1) z27).f5, ((th.getD t z62).f0.getD ((th.getD t z62).f0.length - 1) z27).f6⟩
/-- What LeaveBare's Out says. -/
def LB (l0 : List S50) (l1 : List S68) (l2 : List ByteArray) (l3 : List Td) (l4 : List S71) (l5 : List Vl) (asked steps t xa q : Int) (ok : Nat → Prop) (w' : World) (v : Value) (err : Int) : Prop :=
  (badT l3 t ∧ err = 5 ∧ OutV ok w' v [] [] [] [] [] [] 0 0) ∨ (¬ badT l3 t ∧ err = 0 ∧ OutV ok w' v l0 l1 l2 (newTh l3 t.toNat ((l3.getD t.toNat z62).f0.length - 1) (bareF l3 t.toNat xa)) l4 l5 asked (wrap64 (steps + q)))
theorem LB.step {l0 : List S50} {l1 : List S68} {l2 : List ByteArray} {l3 : List Td} {l4 : List S71} {l5 : List Vl} {asked steps t xa q : Int} {ok : Nat → Prop} {w' w2 : World} {v : Value} {err : Int} (h : LB l0 l1 l2 l3 l4 l5 asked steps t xa q ok w' v err) (hb : ∀ k, ok k → k < w'.heap.size → w2.heap[k]? = w'.heap[k]?) : LB l0 l1 l2 l3 l4 l5 asked steps t xa q ok w2 v err := by
  rcases h with ⟨h1, h2, h3⟩ | ⟨h1, h2, h3⟩
  · exact .inl ⟨h1, h2, h3.step hb⟩
  · exact .inr ⟨h1, h2, h3.step hb⟩
theorem LB.below {l0 : List S50} {l1 : List S68} {l2 : List ByteArray} {l3 : List Td} {l4 : List S71} {l5 : List Vl} {asked steps t xa q : Int} {ok : Nat → Prop} {w' w2 : World} {v : Value} {err : Int} (h : LB l0 l1 l2 l3 l4 l5 asked steps t xa q ok w' v err) (hb : Below w'.heap.size w' w2) : LB l0 l1 l2 l3 l4 l5 asked steps t xa q ok w2 v err := h.step (fun k _ hlt => hb.block k hlt)
theorem LB.bmono {l0 : List S50} {l1 : List S68} {l2 : List ByteArray} {l3 : List Td} {l4 : List S71} {l5 : List Vl} {asked steps t xa q : Int} {ok ok' : Nat → Prop} {w' : World} {v : Value} {err : Int} (h : LB l0 l1 l2 l3 l4 l5 asked steps t xa q ok w' v err) (hb : ∀ k, ok k → k < w'.heap.size → ok' k) : LB l0 l1 l2 l3 l4 l5 asked steps t xa q ok' w' v err := by
  rcases h with ⟨h1, h2, h3⟩ | ⟨h1, h2, h3⟩
  · exact .inl ⟨h1, h2, h3.bmono hb⟩
  · exact .inr ⟨h1, h2, h3.bmono hb⟩
theorem OutV.form {ok : Nat → Prop} {w' : World} {v : Value} {cs : List S50} {sh : List S68} {tx : List ByteArray} {th : List Td} {en : List S71} {sa : List Vl} {asked steps : Int} (h : OutV ok w' v cs sh tx th en sa asked steps) : ∃ A0 n0 c0 A1 n1 c1 A2 n2 c2 A3 n3 c3 A4 n4 c4 A5 n5 c5 x y, v = .agg #[.slice A0 n0 c0, .slice A1 n1 c1, .slice A2 n2 c2, .slice A3 n3 c3, .slice A4 n4 c4, .slice A5 n5 c5, .int .i64 x, .int .i64 y] := by
  obtain ⟨A0, c0, A1, c1, A2, c2, A3, c3, A4, c4, A5, c5, e, h⟩ := h
  exact ⟨A0, _, c0, A1, _, c1, A2, _, c2, A3, _, c3, A4, _, c4, A5, _, c5, _, _, e⟩
theorem LB.form {l0 : List S50} {l1 : List S68} {l2 : List ByteArray} {l3 : List Td} {l4 : List S71} {l5 : List Vl} {asked steps t xa q : Int} {ok : Nat → Prop} {w' : World} {v : Value} {err : Int} (h : LB l0 l1 l2 l3 l4 l5 asked steps t xa q ok w' v err) : ∃ A0 n0 c0 A1 n1 c1 A2 n2 c2 A3 n3 c3 A4 n4 c4 A5 n5 c5 x y, v = .agg #[.slice A0 n0 c0, .slice A1 n1 c1, .slice A2 n2 c2, .slice A3 n3 c3, .slice A4 n4 c4, .slice A5 n5 c5, .int .i64 x, .int .i64 y] := by
  rcases h with ⟨_, _, h⟩ | ⟨_, _, h⟩ <;> exact h.form
set_option maxRecDepth 100000 in
theorem bare_out (W : World) (z : Nat) (hz : z ≤ W.heap.size) {A0_0 : Option Addr} {c0_0 : Nat} {l0_0 : List S50} {A0_1 : Option Addr} {c0_1 : Nat} {l0_1 : List S68} {A0_2 : Option Addr} {c0_2 : Nat} {l0_2 : List ByteArray} {A0_3 : Option Addr} {c0_3 : Nat} {l0_3 : List Td} {A0_4 : Option Addr} {c0_4 : Nat} {l0_4 : List S71} {A0_5 : Option Addr} {c0_5 : Nat} {l0_5 : List Vl} {a0_6 a0_7 a1 a2 q : Int}
    (hr0 : Kd.F k50 W (fun k => k < z) A0_0 l0_0.length l0_0) (hc0 : l0_0.length ≤ c0_0) (hr1 : Kd.F k68 W (fun k => k < z) A0_1 l0_1.length l0_1) (hc1 : l0_1.length ≤ c0_1) (hr2 : Kd.F Kd.string W (fun k => k < z) A0_2 l0_2.length l0_2) (hc2 : l0_2.length ≤ c0_2) (hr3 : Kd.F k62 W (fun k => k < z) A0_3 l0_3.length l0_3) (hc3 : l0_3.length ≤ c0_3) (hr4 : Kd.F k71 W (fun k => k < z) A0_4 l0_4.length l0_4) (hc4 : l0_4.length ≤ c0_4) (hr5 : Kd.F k23 W (fun k => k < z) A0_5 l0_5.length l0_5) (hc5 : l0_5.length ≤ c0_5) (ok : SmS l0_0 l0_1 l0_2 l0_3 l0_4 l0_5) :
    Calls Try.prog 20 #[.agg #[.slice A0_0 l0_0.length c0_0, .slice A0_1 l0_1.length c0_1, .slice A0_2 l0_2.length c0_2, .slice A0_3 l0_3.length c0_3, .slice A0_4 l0_4.length c0_4, .slice A0_5 l0_5.length c0_5, .int .i64 a0_6, .int .i64 a0_7], .int .i64 a1, .agg #[.int .i64 a2, .int .i64 q, .slice none 0 0, .slice none 0 0], .slice none 0 0] W fun e w' => ∃ v err, e = .returned (.tuple #[v, .int .i64 err]) ∧ LB l0_0 l0_1 l0_2 l0_3 l0_4 l0_5 a0_6 a0_7 a1 a2 q (fun k => k < z ∨ W.heap.size ≤ k) w' v err ∧ Below W.heap.size W w' := by
  have hI : OutI W (fun k => k < z) (AC := A0_0) (cC := c0_0) (cs := l0_0) (ASh := A0_1) (cSh := c0_1) (sh := l0_1) (ATx := A0_2) (cTx := c0_2) (tx := l0_2) (AT := A0_3) (cT := c0_3) (th := l0_3) (AE := A0_4) (cE := c0_4) (en := l0_4) (AS := A0_5) (cS := c0_5) (sa := l0_5) (ASt := none) (cSt := 0) (sets := []) (AM := none) (cM := 0) (makes := []) (AV := none) (cV := 0) (vals := []) :=
    ⟨fun _ h => Nat.lt_of_lt_of_le h hz, Kd.V_mk hc0 hr0, Kd.F_now hr1, hc1, Kd.F_now hr2, hc2, Kd.V_mk hc3 hr3, Kd.F_now hr4, hc4, Kd.F_now hr5, hc5, Kd.C_nil _ _, Nat.le_refl _, Kd.C_nil _ _, Nat.le_refl _, Kd.C_nil _ _, Nat.le_refl _⟩
  by_cases hbad : badT l0_3 a1
  · refine (out_calls W _ hI (asked := a0_6) (steps := a0_7) (xa := a2) (xs := q) hbad).mono ?_
    rintro e w' ⟨h1, h2⟩
    obtain ⟨v, he, hv⟩ := OutP.v h1
    exact ⟨v, 5, he, .inl ⟨hbad, rfl, hv⟩, h2⟩
  · obtain ⟨t, rfl⟩ : ∃ t : Nat, a1 = t := ⟨a1.toNat, by unfold badT at hbad; omega⟩
    have ht : t < l0_3.length := by unfold badT at hbad; omega
    have hne : (l0_3.getD t z62).f0 ≠ [] := fun e => hbad (.inr (.inr (by rw [Int.toNat_natCast]; exact e)))
    have hm : (l0_3.getD t z62).f0.length = ((l0_3.getD t z62).f0.length - 1) + 1 := by have := List.length_pos_iff.2 hne; omega
    refine (out_good W _ hI (asked := a0_6) (steps := a0_7) (xa := a2) (xs := q) ok.cs ok.cm ok.sh ok.tx ok.th ok.tm ok.en ok.sa (Nat.zero_le _) (Nat.zero_le _) (fun m hm => by simp at hm) ht _ hm).mono ?_
    rintro e w' ⟨_, _, h3, h4⟩
    obtain ⟨v, he, hv⟩ := OutP.v (h3 rfl (by unfold frF; rw [if_pos (by rfl)]))
    refine ⟨v, 0, he, .inr ⟨hbad, rfl, ?_⟩, h4⟩
    rw [Int.toNat_natCast]
    have e1 : (frF [] [] a2 ((l0_3.getD t z62).f0.getD ((l0_3.getD t z62).f0.length - 1) z27)).1 = bareF l0_3 t a2 := by unfold frF; rw [if_pos (by rfl)]; rfl
    rw [e1] at hv
    exact hv
theorem bare_fs {l3 : List Td} {t m : Nat} (ht : t < l3.length) (hm : (l3.getD t z62).f0.length = m + 1) (xa : Int) : ((newTh l3 t ((l3.getD t z62).f0.length - 1) (bareF l3 t xa)).getD t z62).f0 = (l3.getD t z62).f0.set m ⟨((l3.getD t z62).f0.getD m z27).f0, xa, ((l3.getD t z62).f0.getD m z27).f2, ((l3.getD t z62).f0.getD m z27).f3, ((l3.getD t z62).f0.getD m z27).f4, ((l3.getD t z62).f0.getD m z27).f5, ((l3.getD t z62).f0.getD m z27).f6⟩ := by
  unfold newTh bareF
  rw [hm, Nat.add_sub_cancel]
  generalize l3.getD t z62 = h_
  rw [List.getD_eq_getElem?_getD, List.getElem?_set_self ht]
  rfl
theorem bare_sm {l3 : List Td} (h : ∀ t ∈ l3, SmT t) {t m : Nat} (ht : t < l3.length) (hm : m < (l3.getD t z62).f0.length) : SmF ((l3.getD t z62).f0.getD m z27) := by
  have e : l3.getD t z62 = l3[t] := by rw [List.getD_eq_getElem?_getD, List.getElem?_eq_getElem ht]; rfl
  have h1 := (h l3[t] (List.getElem_mem ht)).2
  rw [← e] at h1
  rw [List.getD_eq_getElem?_getD, List.getElem?_eq_getElem hm]
  exact h1 _ (List.getElem_mem hm)
open Classical in
noncomputable def backstitchkeep3_LeaveBare.f (k : Nat) (l0_0 : List S50) (l0_1 : List S68) (l0_2 : List ByteArray) (l0_3 : List Td) (l0_4 : List S71) (l0_5 : List Vl) (a0_6 a0_7 a1 a2 a3 : Int) : Option Bool := if SmS l0_0 l0_1 l0_2 l0_3 l0_4 l0_5 then some true else none
set_option maxHeartbeats 16000000 in
set_option maxRecDepth 100000 in
theorem backstitchkeep3_LeaveBare.calls (k : Nat) (A0_0 : Option Addr) (c0_0 : Nat) (l0_0 : List S50) (A0_1 : Option Addr) (c0_1 : Nat) (l0_1 : List S68) (A0_2 : Option Addr) (c0_2 : Nat) (l0_2 : List ByteArray) (A0_3 : Option Addr) (c0_3 : Nat) (l0_3 : List Td) (A0_4 : Option Addr) (c0_4 : Nat) (l0_4 : List S71) (A0_5 : Option Addr) (c0_5 : Nat) (l0_5 : List Vl) (a0_6 a0_7 a1 a2 a3 : Int) (r : Bool) (w : World)
    (hr0_0 : Kd.C k50 w A0_0 l0_0.length l0_0) (hc0_0 : l0_0.length ≤ c0_0) (hr0_1 : Kd.C k68 w A0_1 l0_1.length l0_1) (hc0_1 : l0_1.length ≤ c0_1) (hr0_2 : Kd.C Kd.string w A0_2 l0_2.length l0_2) (hc0_2 : l0_2.length ≤ c0_2) (hr0_3 : Kd.C k62 w A0_3 l0_3.length l0_3) (hc0_3 : l0_3.length ≤ c0_3) (hr0_4 : Kd.C k71 w A0_4 l0_4.length l0_4) (hc0_4 : l0_4.length ≤ c0_4) (hr0_5 : Kd.C k23 w A0_5 l0_5.length l0_5) (hc0_5 : l0_5.length ≤ c0_5)
    (h : backstitchkeep3_LeaveBare.f k l0_0 l0_1 l0_2 l0_3 l0_4 l0_5 a0_6 a0_7 a1 a2 a3 = some r) :
    Calls Try.prog 5 #[.agg #[.slice A0_0 l0_0.length c0_0, .slice A0_1 l0_1.length c0_1, .slice A0_2 l0_2.length c0_2, .slice A0_3 l0_3.length c0_3, .slice A0_4 l0_4.length c0_4, .slice A0_5 l0_5.length c0_5, .int .i64 a0_6, .int .i64 a0_7], .int .i64 a1, .int .i64 a2, .int .i64 a3] w fun e w' => e = .returned (.bool r) ∧ Below w.heap.size w w' := by
  unfold backstitchkeep3_LeaveBare.f at h
  have hok : SmS l0_0 l0_1 l0_2 l0_3 l0_4 l0_5 := by
    by_cases hx : SmS l0_0 l0_1 l0_2 l0_3 l0_4 l0_5
    · exact hx
    · rw [if_neg hx] at h; exact absurd h (by simp)
  rw [if_pos hok] at h
  obtain rfl := Option.some.inj h
  obtain ⟨q, hq⟩ := rest1000 a3
  have HQ := Aside0.mk hq
  have HOK := Aside0.mk hok
  have hbx := below_alloc (Below.refl w.heap.size w) (Obj.cells #[.slice A0_0 l0_0.length c0_0, .slice A0_1 l0_1.length c0_1, .slice A0_2 l0_2.length c0_2, .slice A0_3 l0_3.length c0_3, .slice A0_4 l0_4.length c0_4, .slice A0_5 l0_5.length c0_5, .int .i64 a0_6, .int .i64 a0_7] 57)
  have HSB := Aside0.mk (blk_new w (Obj.cells #[.slice A0_0 l0_0.length c0_0, .slice A0_1 l0_1.length c0_1, .slice A0_2 l0_2.length c0_2, .slice A0_3 l0_3.length c0_3, .slice A0_4 l0_4.length c0_4, .slice A0_5 l0_5.length c0_5, .int .i64 a0_6, .int .i64 a0_7] 57))
  have HBX := Aside0.mk hbx
  have HR0 := Aside0.mk (Kd.C_F k50_heap hr0_0)
  have HR1 := Aside0.mk (Kd.C_F k68_heap hr0_1)
  have HR2 := Aside0.mk (Kd.C_F Kd.heap_string hr0_2)
  have HR3 := Aside0.mk (Kd.C_F k62_heap hr0_3)
  have HR4 := Aside0.mk (Kd.C_F k71_heap hr0_4)
  have HR5 := Aside0.mk (Kd.C_F k23_heap hr0_5)
  have HC0 := Aside0.mk hc0_0
  have HC1 := Aside0.mk hc0_1
  have HC2 := Aside0.mk hc0_2
  have HC3 := Aside0.mk hc0_3
  have HC4 := Aside0.mk hc0_4
  have HC5 := Aside0.mk hc0_5
  clear hr0_0 hr0_1 hr0_2 hr0_3 hr0_4 hr0_5 hc0_0 hc0_1 hc0_2 hc0_3 hc0_4 hc0_5 hbx hok h hq
  go_enter Try.func5, Try.ntmps5
  go_wp2_with fail
  refine (backstitchkeep3_leftBy.calls 4 true _ (leftBy_f 4 (Nat.le_refl _))).mono ?_
  rintro e w1 ⟨rfl, hb1⟩
  have HB1 := Aside0.mk (below_step HBX.out hb1)
  have HSB1 := Aside0.mk (blk_below HSB.out hb1)
  clear hb1 HSB HBX
  go_wp2_with fail
  have HOUT : Aside0 (∀ W, Below w1.heap.size w1 W → Calls Try.prog 20 #[.agg #[.slice A0_0 l0_0.length c0_0, .slice A0_1 l0_1.length c0_1, .slice A0_2 l0_2.length c0_2, .slice A0_3 l0_3.length c0_3, .slice A0_4 l0_4.length c0_4, .slice A0_5 l0_5.length c0_5, .int .i64 a0_6, .int .i64 a0_7], .int .i64 a1, .agg #[.int .i64 a2, .int .i64 q, .slice none 0 0, .slice none 0 0], .slice none 0 0] W fun e w' => ∃ v err, e = .returned (.tuple #[v, .int .i64 err]) ∧ LB l0_0 l0_1 l0_2 l0_3 l0_4 l0_5 a0_6 a0_7 a1 a2 q (fun k => k < w.heap.size ∨ W.heap.size ≤ k) w' v err ∧ Below W.heap.size W w') := ⟨fun W hW => by
    have hb := below_step HB1.out hW
    exact bare_out W w.heap.size hb.size (Kd.F_below HR0.out hb) HC0.out (Kd.F_below HR1.out hb) HC1.out (Kd.F_below HR2.out hb) HC2.out (Kd.F_below HR3.out hb) HC3.out (Kd.F_below HR4.out hb) HC4.out (Kd.F_below HR5.out hb) HC5.out HOK.out⟩
  have k0 := (blk_cell HSB1.out 0).trans rfl
  have k1 := (blk_cell HSB1.out 1).trans rfl
  have k2 := (blk_cell HSB1.out 2).trans rfl
  have k3 := (blk_cell HSB1.out 3).trans rfl
  have k4 := (blk_cell HSB1.out 4).trans rfl
  have k5 := (blk_cell HSB1.out 5).trans rfl
  have k6 := (blk_cell HSB1.out 6).trans rfl
  have k7 := (blk_cell HSB1.out 7).trans rfl
  refine start_ (n := 13) (S := fun w' => Below w1.heap.size w1 w' ∧ w'.cell? ⟨w.heap.size, 0, none⟩ = some (.slice A0_0 l0_0.length c0_0) ∧ w'.cell? ⟨w.heap.size, 1, none⟩ = some (.slice A0_1 l0_1.length c0_1) ∧ w'.cell? ⟨w.heap.size, 2, none⟩ = some (.slice A0_2 l0_2.length c0_2) ∧ w'.cell? ⟨w.heap.size, 3, none⟩ = some (.slice A0_3 l0_3.length c0_3) ∧ w'.cell? ⟨w.heap.size, 4, none⟩ = some (.slice A0_4 l0_4.length c0_4) ∧ w'.cell? ⟨w.heap.size, 5, none⟩ = some (.slice A0_5 l0_5.length c0_5) ∧ w'.cell? ⟨w.heap.size, 6, none⟩ = some (.int .i64 a0_6) ∧ w'.cell? ⟨w.heap.size, 7, none⟩ = some (.int .i64 a0_7)) (ds := [11]) #[false, false, false, false, false, false, false, false, false, false, false, false, false] (by kernel_rfl) rfl rfl ⟨(below_drew (Below.refl _ _)), k0, k1, k2, k3, k4, k5, k6, k7⟩ (fun hHeld => ?_)
  generalize w1.drew = w16 at hHeld ⊢
  refine pure_ (i := 1) (N := some 19) (v := ?_) (a' := ?_) #[false, true, false, false, false, false, false, false, false, false, false, false, false] rfl rfl (by kernel_rfl) (fun _ _ _ h => h) (Or.inl ⟨by rfl, ?_⟩) ?_ ?_
  rotate_left
  · intro w'
    go_simp
    with_reducible rfl
  rotate_left
  · simp only [Act.put, List.setIfInBounds_toArray, List.set_cons_zero, List.set_cons_succ, i64_w, i32_w]
    rfl
  refine pure_ (i := 2) (N := some 20) (v := ?_) (a' := ?_) #[false, true, true, false, false, false, false, false, false, false, false, false, false] rfl rfl (by kernel_rfl) (fun _ _ _ h => h) (Or.inl ⟨by rfl, ?_⟩) ?_ ?_
  rotate_left
  · intro w'
    go_simp
    with_reducible rfl
  rotate_left
  · simp only [Act.put, List.setIfInBounds_toArray, List.set_cons_zero, List.set_cons_succ, i64_w, i32_w]
    rfl
  refine pure_ (i := 3) (N := some 21) (v := ?_) (a' := ?_) #[false, true, true, true, false, false, false, false, false, false, false, false, false] rfl rfl (by kernel_rfl) (fun _ _ _ h => h) (Or.inl ⟨by rfl, ?_⟩) ?_ ?_
  rotate_left
  · intro w'
    go_simp
    with_reducible rfl
  rotate_left
  · simp only [Act.put, List.setIfInBounds_toArray, List.set_cons_zero, List.set_cons_succ, i64_w, i32_w]
    rfl
  refine take_ (i := 0) (N := some 18) (v := ?_) (a' := ?_) #[true, true, true, true, false, false, false, false, false, false, false, false, false] rfl rfl (by kernel_rfl) (fun _ _ _ h => h) (Or.inl ⟨by rfl, ?_⟩) hHeld ?_ ?_
  rotate_left
  · rintro w' ⟨s0, s1, s2, s3, s4, s5, s6, s7, s8⟩
    go_simp
    with_reducible rfl
  rotate_left
  · simp only [Act.put, List.setIfInBounds_toArray, List.set_cons_zero, List.set_cons_succ, i64_w, i32_w]
    rfl
  refine join_ (σ := Value × Int × Nat) 2 #[true, true, true, true, true, true, true, true, true, true, true, false, false] (fun s => [(22, .int .i64 q), (24, .tuple #[s.1, .int .i64 s.2.1]), (9, .pointer (some ⟨s.2.2, 0, none⟩)), (23, .agg #[.int .i64 a2, .int .i64 q, .slice none 0 0, .slice none 0 0]), (17, .tuple #[s.1, .int .i64 s.2.1]), (25, s.1), (26, .int .i64 s.2.1)]) (fun s w' => (Below w1.heap.size w1 w' ∧ w'.cell? ⟨w.heap.size, 0, none⟩ = some (.slice A0_0 l0_0.length c0_0) ∧ w'.cell? ⟨w.heap.size, 1, none⟩ = some (.slice A0_1 l0_1.length c0_1) ∧ w'.cell? ⟨w.heap.size, 2, none⟩ = some (.slice A0_2 l0_2.length c0_2) ∧ w'.cell? ⟨w.heap.size, 3, none⟩ = some (.slice A0_3 l0_3.length c0_3) ∧ w'.cell? ⟨w.heap.size, 4, none⟩ = some (.slice A0_4 l0_4.length c0_4) ∧ w'.cell? ⟨w.heap.size, 5, none⟩ = some (.slice A0_5 l0_5.length c0_5) ∧ w'.cell? ⟨w.heap.size, 6, none⟩ = some (.int .i64 a0_6) ∧ w'.cell? ⟨w.heap.size, 7, none⟩ = some (.int .i64 a0_7)) ∧ LB l0_0 l0_1 l0_2 l0_3 l0_4 l0_5 a0_6 a0_7 a1 a2 q (fun k => k ≠ s.2.2) w' s.1 s.2.1 ∧ w'.heap[s.2.2]? = some (.cells #[.slice none 0 0, .slice none 0 0, .slice none 0 0, .slice none 0 0, .slice none 0 0, .slice none 0 0, .int .i64 0, .int .i64 0] 57 (0, 0)) ∧ w1.heap.size ≤ s.2.2) ?_ ?_
  rotate_left
  · intro hCont
    refine two_ (i := 4) (j := 10) (Ni := some 22) (Nj := some 9) #[true, true, true, true, true, false, false, false, false, false, false, false, false] #[true, true, true, true, false, false, false, false, false, false, true, false, false] rfl rfl rfl rfl (by kernel_rfl) (by decide) (by decide) (fun K hK => ?_) (fun K hK => ?_)
    · skip
      refine goes_ Try.func21 (by kernel_rfl) rfl #[.int .i64 a3, .int .i64 1000] (by rfl) rfl rfl (by simp only [List.map_toArray, List.map_cons, List.map_nil]; rfl) ?_
      with_reducible refine (backstitchref3_Rest.calls a3 1000 q _ HQ.out).mono ?_
      rintro e w6 ⟨rfl, hd⟩
      refine ⟨_, rfl, ?_⟩
      refine hK.out _ _ ⟨below_step hHeld.1 hd.below, pw_cell_below hd.below hHeld.2.1, pw_cell_below hd.below hHeld.2.2.1, pw_cell_below hd.below hHeld.2.2.2.1, pw_cell_below hd.below hHeld.2.2.2.2.1, pw_cell_below hd.below hHeld.2.2.2.2.2.1, pw_cell_below hd.below hHeld.2.2.2.2.2.2.1, pw_cell_below hd.below hHeld.2.2.2.2.2.2.2.1, pw_cell_below hd.below hHeld.2.2.2.2.2.2.2.2⟩ (fun hHeld => ?_)
      clear hK K
      refine norm_ (a' := ?_) ?_ ?_
      rotate_left
      · show Act.put _ (some 22) _ = _
        simp only [Act.put, List.setIfInBounds_toArray, List.set_cons_zero, List.set_cons_succ, i64_w, i32_w]
        rfl
      refine pure_ (i := 5) (N := some 23) (v := ?_) (a' := ?_) #[true, true, true, true, true, true, false, false, false, false, false, false, false] rfl rfl (by kernel_rfl) (fun _ _ _ h => h) (Or.inl ⟨by rfl, ?_⟩) ?_ ?_
      rotate_left
      · intro w'
        go_simp
        with_reducible rfl
      rotate_left
      · simp only [Act.put, List.setIfInBounds_toArray, List.set_cons_zero, List.set_cons_succ, i64_w, i32_w]
        rfl
      refine two_ (i := 6) (j := 10) (Ni := some 24) (Nj := some 9) #[true, true, true, true, true, true, true, false, false, false, false, false, false] #[true, true, true, true, true, true, false, false, false, false, true, false, false] rfl rfl rfl rfl (by kernel_rfl) (by decide) (by decide) (fun K hK => ?_) (fun K hK => ?_)
      · skip
        refine goes_ Try.func20 (by kernel_rfl) rfl #[.agg #[.slice A0_0 l0_0.length c0_0, .slice A0_1 l0_1.length c0_1, .slice A0_2 l0_2.length c0_2, .slice A0_3 l0_3.length c0_3, .slice A0_4 l0_4.length c0_4, .slice A0_5 l0_5.length c0_5, .int .i64 a0_6, .int .i64 a0_7], .int .i64 a1, .agg #[.int .i64 a2, .int .i64 q, .slice none 0 0, .slice none 0 0], .slice none 0 0] (by rfl) rfl rfl (by simp only [List.map_toArray, List.map_cons, List.map_nil]; rfl) ?_
        with_reducible refine (HOUT.out _ hHeld.1).mono ?_
        rintro e w7 ⟨v, err, rfl, hLB, hb⟩
        refine ⟨_, rfl, ?_⟩
        refine hK.out _ _ ⟨below_step hHeld.1 hb, pw_cell_below hb hHeld.2.1, pw_cell_below hb hHeld.2.2.1, pw_cell_below hb hHeld.2.2.2.1, pw_cell_below hb hHeld.2.2.2.2.1, pw_cell_below hb hHeld.2.2.2.2.2.1, pw_cell_below hb hHeld.2.2.2.2.2.2.1, pw_cell_below hb hHeld.2.2.2.2.2.2.2.1, pw_cell_below hb hHeld.2.2.2.2.2.2.2.2⟩ (fun hHeld => ?_)
        clear hK K
        refine norm_ (a' := ?_) ?_ ?_
        rotate_left
        · show Act.put _ (some 24) _ = _
          simp only [Act.put, List.setIfInBounds_toArray, List.set_cons_zero, List.set_cons_succ, i64_w, i32_w]
          rfl
        refine pure_ (i := 7) (N := some 17) (v := ?_) (a' := ?_) #[true, true, true, true, true, true, true, true, false, false, false, false, false] rfl rfl (by kernel_rfl) (fun _ _ _ h => h) (Or.inl ⟨by rfl, ?_⟩) ?_ ?_
        rotate_left
        · intro w'
          go_simp
          with_reducible rfl
        rotate_left
        · simp only [Act.put, List.setIfInBounds_toArray, List.set_cons_zero, List.set_cons_succ, i64_w, i32_w]
          rfl
        refine pure_ (i := 8) (N := some 25) (v := ?_) (a' := ?_) #[true, true, true, true, true, true, true, true, true, false, false, false, false] rfl rfl (by kernel_rfl) (fun _ _ _ h => h) (Or.inl ⟨by rfl, ?_⟩) ?_ ?_
        rotate_left
        · intro w'
          go_simp
          with_reducible rfl
        rotate_left
        · simp only [Act.put, List.setIfInBounds_toArray, List.set_cons_zero, List.set_cons_succ, i64_w, i32_w]
          rfl
        refine pure_ (i := 9) (N := some 26) (v := ?_) (a' := ?_) #[true, true, true, true, true, true, true, true, true, true, false, false, false] rfl rfl (by kernel_rfl) (fun _ _ _ h => h) (Or.inl ⟨by rfl, ?_⟩) ?_ ?_
        rotate_left
        · intro w'
          go_simp
          with_reducible rfl
        rotate_left
        · simp only [Act.put, List.setIfInBounds_toArray, List.set_cons_zero, List.set_cons_succ, i64_w, i32_w]
          rfl
        refine one_ (i := 10) (N := some 9) #[true, true, true, true, true, true, true, true, true, true, true, false, false] rfl rfl (by kernel_rfl) (by decide) (fun K hK => ?_)
        have hgl := hHeld.1.size
        have hl := heap_alloc_new w7 (Obj.cells #[.slice none 0 0, .slice none 0 0, .slice none 0 0, .slice none 0 0, .slice none 0 0, .slice none 0 0, .int .i64 0, .int .i64 0] 57)
        have hLB := (hLB.bmono (ok' := fun k => k ≠ w7.heap.size) (fun k _ hlt => Nat.ne_of_lt hlt)).below (below_alloc (Below.refl _ _) (Obj.cells #[.slice none 0 0, .slice none 0 0, .slice none 0 0, .slice none 0 0, .slice none 0 0, .slice none 0 0, .int .i64 0, .int .i64 0] 57))
        refine value_ (w1 := ?_) (v := ?_) (by rfl) rfl ?_ ?_
        rotate_left 2
        · go_simp
          constructor
          · rfl
          · rfl
        refine hK.out _ _ ⟨below_step hHeld.1 (below_alloc (Below.refl _ _) _), pw_cell_below (below_alloc (Below.refl _ _) _) hHeld.2.1, pw_cell_below (below_alloc (Below.refl _ _) _) hHeld.2.2.1, pw_cell_below (below_alloc (Below.refl _ _) _) hHeld.2.2.2.1, pw_cell_below (below_alloc (Below.refl _ _) _) hHeld.2.2.2.2.1, pw_cell_below (below_alloc (Below.refl _ _) _) hHeld.2.2.2.2.2.1, pw_cell_below (below_alloc (Below.refl _ _) _) hHeld.2.2.2.2.2.2.1, pw_cell_below (below_alloc (Below.refl _ _) _) hHeld.2.2.2.2.2.2.2.1, pw_cell_below (below_alloc (Below.refl _ _) _) hHeld.2.2.2.2.2.2.2.2⟩ (fun hHeld => ?_)
        clear hK K
        refine norm_ (a' := ?_) ?_ ?_
        rotate_left
        · show Act.put _ (some 9) _ = _
          simp only [Act.put, List.setIfInBounds_toArray, List.set_cons_zero, List.set_cons_succ, i64_w, i32_w]
          rfl
        exact norm_ (by simp only [putAll, Act.put, List.setIfInBounds_toArray, List.set_cons_zero, List.set_cons_succ]) (hCont (v, err, w7.heap.size) _ ⟨hHeld, hLB, hl, hgl⟩)
      · skip
        have hgl := hHeld.1.size
        have hl := heap_alloc_new w6 (Obj.cells #[.slice none 0 0, .slice none 0 0, .slice none 0 0, .slice none 0 0, .slice none 0 0, .slice none 0 0, .int .i64 0, .int .i64 0] 57)
        refine value_ (w1 := ?_) (v := ?_) (by rfl) rfl ?_ ?_
        rotate_left 2
        · go_simp
          constructor
          · rfl
          · rfl
        refine hK.out _ _ ⟨below_step hHeld.1 (below_alloc (Below.refl _ _) _), pw_cell_below (below_alloc (Below.refl _ _) _) hHeld.2.1, pw_cell_below (below_alloc (Below.refl _ _) _) hHeld.2.2.1, pw_cell_below (below_alloc (Below.refl _ _) _) hHeld.2.2.2.1, pw_cell_below (below_alloc (Below.refl _ _) _) hHeld.2.2.2.2.1, pw_cell_below (below_alloc (Below.refl _ _) _) hHeld.2.2.2.2.2.1, pw_cell_below (below_alloc (Below.refl _ _) _) hHeld.2.2.2.2.2.2.1, pw_cell_below (below_alloc (Below.refl _ _) _) hHeld.2.2.2.2.2.2.2.1, pw_cell_below (below_alloc (Below.refl _ _) _) hHeld.2.2.2.2.2.2.2.2⟩ (fun hHeld => ?_)
        clear hK K
        refine norm_ (a' := ?_) ?_ ?_
        rotate_left
        · show Act.put _ (some 9) _ = _
          simp only [Act.put, List.setIfInBounds_toArray, List.set_cons_zero, List.set_cons_succ, i64_w, i32_w]
          rfl
        refine one_ (i := 6) (N := some 24) #[true, true, true, true, true, true, true, false, false, false, true, false, false] rfl rfl (by kernel_rfl) (by decide) (fun K hK => ?_)
        refine goes_ Try.func20 (by kernel_rfl) rfl #[.agg #[.slice A0_0 l0_0.length c0_0, .slice A0_1 l0_1.length c0_1, .slice A0_2 l0_2.length c0_2, .slice A0_3 l0_3.length c0_3, .slice A0_4 l0_4.length c0_4, .slice A0_5 l0_5.length c0_5, .int .i64 a0_6, .int .i64 a0_7], .int .i64 a1, .agg #[.int .i64 a2, .int .i64 q, .slice none 0 0, .slice none 0 0], .slice none 0 0] (by rfl) rfl rfl (by simp only [List.map_toArray, List.map_cons, List.map_nil]; rfl) ?_
        with_reducible refine (HOUT.out _ hHeld.1).mono ?_
        rintro e w7 ⟨v, err, rfl, hLB, hb⟩
        refine ⟨_, rfl, ?_⟩
        have hl0 := hl
        have hl := blk_below hl hb
        have hLB := hLB.bmono (ok' := fun k => k ≠ w6.heap.size) (fun k hk _ => by have h_ := (Array.getElem?_eq_some_iff.1 hl0).1; have h2_ := HB1.out.size; omega)
        refine hK.out _ _ ⟨below_step hHeld.1 hb, pw_cell_below hb hHeld.2.1, pw_cell_below hb hHeld.2.2.1, pw_cell_below hb hHeld.2.2.2.1, pw_cell_below hb hHeld.2.2.2.2.1, pw_cell_below hb hHeld.2.2.2.2.2.1, pw_cell_below hb hHeld.2.2.2.2.2.2.1, pw_cell_below hb hHeld.2.2.2.2.2.2.2.1, pw_cell_below hb hHeld.2.2.2.2.2.2.2.2⟩ (fun hHeld => ?_)
        clear hK K
        refine norm_ (a' := ?_) ?_ ?_
        rotate_left
        · show Act.put _ (some 24) _ = _
          simp only [Act.put, List.setIfInBounds_toArray, List.set_cons_zero, List.set_cons_succ, i64_w, i32_w]
          rfl
        refine pure_ (i := 7) (N := some 17) (v := ?_) (a' := ?_) #[true, true, true, true, true, true, true, true, false, false, true, false, false] rfl rfl (by kernel_rfl) (fun _ _ _ h => h) (Or.inl ⟨by rfl, ?_⟩) ?_ ?_
        rotate_left
        · intro w'
          go_simp
          with_reducible rfl
        rotate_left
        · simp only [Act.put, List.setIfInBounds_toArray, List.set_cons_zero, List.set_cons_succ, i64_w, i32_w]
          rfl
        refine pure_ (i := 8) (N := some 25) (v := ?_) (a' := ?_) #[true, true, true, true, true, true, true, true, true, false, true, false, false] rfl rfl (by kernel_rfl) (fun _ _ _ h => h) (Or.inl ⟨by rfl, ?_⟩) ?_ ?_
        rotate_left
        · intro w'
          go_simp
          with_reducible rfl
        rotate_left
        · simp only [Act.put, List.setIfInBounds_toArray, List.set_cons_zero, List.set_cons_succ, i64_w, i32_w]
          rfl
        refine pure_ (i := 9) (N := some 26) (v := ?_) (a' := ?_) #[true, true, true, true, true, true, true, true, true, true, true, false, false] rfl rfl (by kernel_rfl) (fun _ _ _ h => h) (Or.inl ⟨by rfl, ?_⟩) ?_ ?_
        rotate_left
        · intro w'
          go_simp
          with_reducible rfl
        rotate_left
        · simp only [Act.put, List.setIfInBounds_toArray, List.set_cons_zero, List.set_cons_succ, i64_w, i32_w]
          rfl
        exact norm_ (by simp only [putAll, Act.put, List.setIfInBounds_toArray, List.set_cons_zero, List.set_cons_succ]) (hCont (v, err, w6.heap.size) _ ⟨hHeld, hLB, hl, hgl⟩)
    · skip
      have hgl := hHeld.1.size
      have hl := heap_alloc_new w16 (Obj.cells #[.slice none 0 0, .slice none 0 0, .slice none 0 0, .slice none 0 0, .slice none 0 0, .slice none 0 0, .int .i64 0, .int .i64 0] 57)
      refine value_ (w1 := ?_) (v := ?_) (by rfl) rfl ?_ ?_
      rotate_left 2
      · go_simp
        constructor
        · rfl
        · rfl
      refine hK.out _ _ ⟨below_step hHeld.1 (below_alloc (Below.refl _ _) _), pw_cell_below (below_alloc (Below.refl _ _) _) hHeld.2.1, pw_cell_below (below_alloc (Below.refl _ _) _) hHeld.2.2.1, pw_cell_below (below_alloc (Below.refl _ _) _) hHeld.2.2.2.1, pw_cell_below (below_alloc (Below.refl _ _) _) hHeld.2.2.2.2.1, pw_cell_below (below_alloc (Below.refl _ _) _) hHeld.2.2.2.2.2.1, pw_cell_below (below_alloc (Below.refl _ _) _) hHeld.2.2.2.2.2.2.1, pw_cell_below (below_alloc (Below.refl _ _) _) hHeld.2.2.2.2.2.2.2.1, pw_cell_below (below_alloc (Below.refl _ _) _) hHeld.2.2.2.2.2.2.2.2⟩ (fun hHeld => ?_)
      clear hK K
      refine norm_ (a' := ?_) ?_ ?_
      rotate_left
      · show Act.put _ (some 9) _ = _
        simp only [Act.put, List.setIfInBounds_toArray, List.set_cons_zero, List.set_cons_succ, i64_w, i32_w]
        rfl
      refine one_ (i := 4) (N := some 22) #[true, true, true, true, true, false, false, false, false, false, true, false, false] rfl rfl (by kernel_rfl) (by decide) (fun K hK => ?_)
      refine goes_ Try.func21 (by kernel_rfl) rfl #[.int .i64 a3, .int .i64 1000] (by rfl) rfl rfl (by simp only [List.map_toArray, List.map_cons, List.map_nil]; rfl) ?_
      with_reducible refine (backstitchref3_Rest.calls a3 1000 q _ HQ.out).mono ?_
      rintro e w6 ⟨rfl, hd⟩
      refine ⟨_, rfl, ?_⟩
      have hl := blk_below hl hd.below
      refine hK.out _ _ ⟨below_step hHeld.1 hd.below, pw_cell_below hd.below hHeld.2.1, pw_cell_below hd.below hHeld.2.2.1, pw_cell_below hd.below hHeld.2.2.2.1, pw_cell_below hd.below hHeld.2.2.2.2.1, pw_cell_below hd.below hHeld.2.2.2.2.2.1, pw_cell_below hd.below hHeld.2.2.2.2.2.2.1, pw_cell_below hd.below hHeld.2.2.2.2.2.2.2.1, pw_cell_below hd.below hHeld.2.2.2.2.2.2.2.2⟩ (fun hHeld => ?_)
      clear hK K
      refine norm_ (a' := ?_) ?_ ?_
      rotate_left
      · show Act.put _ (some 22) _ = _
        simp only [Act.put, List.setIfInBounds_toArray, List.set_cons_zero, List.set_cons_succ, i64_w, i32_w]
        rfl
      refine pure_ (i := 5) (N := some 23) (v := ?_) (a' := ?_) #[true, true, true, true, true, true, false, false, false, false, true, false, false] rfl rfl (by kernel_rfl) (fun _ _ _ h => h) (Or.inl ⟨by rfl, ?_⟩) ?_ ?_
      rotate_left
      · intro w'
        go_simp
        with_reducible rfl
      rotate_left
      · simp only [Act.put, List.setIfInBounds_toArray, List.set_cons_zero, List.set_cons_succ, i64_w, i32_w]
        rfl
      refine one_ (i := 6) (N := some 24) #[true, true, true, true, true, true, true, false, false, false, true, false, false] rfl rfl (by kernel_rfl) (by decide) (fun K hK => ?_)
      refine goes_ Try.func20 (by kernel_rfl) rfl #[.agg #[.slice A0_0 l0_0.length c0_0, .slice A0_1 l0_1.length c0_1, .slice A0_2 l0_2.length c0_2, .slice A0_3 l0_3.length c0_3, .slice A0_4 l0_4.length c0_4, .slice A0_5 l0_5.length c0_5, .int .i64 a0_6, .int .i64 a0_7], .int .i64 a1, .agg #[.int .i64 a2, .int .i64 q, .slice none 0 0, .slice none 0 0], .slice none 0 0] (by rfl) rfl rfl (by simp only [List.map_toArray, List.map_cons, List.map_nil]; rfl) ?_
      with_reducible refine (HOUT.out _ hHeld.1).mono ?_
      rintro e w7 ⟨v, err, rfl, hLB, hb⟩
      refine ⟨_, rfl, ?_⟩
      have hl0 := hl
      have hl := blk_below hl hb
      have hLB := hLB.bmono (ok' := fun k => k ≠ w16.heap.size) (fun k hk _ => by have h_ := (Array.getElem?_eq_some_iff.1 hl0).1; have h2_ := HB1.out.size; omega)
      refine hK.out _ _ ⟨below_step hHeld.1 hb, pw_cell_below hb hHeld.2.1, pw_cell_below hb hHeld.2.2.1, pw_cell_below hb hHeld.2.2.2.1, pw_cell_below hb hHeld.2.2.2.2.1, pw_cell_below hb hHeld.2.2.2.2.2.1, pw_cell_below hb hHeld.2.2.2.2.2.2.1, pw_cell_below hb hHeld.2.2.2.2.2.2.2.1, pw_cell_below hb hHeld.2.2.2.2.2.2.2.2⟩ (fun hHeld => ?_)
      clear hK K
      refine norm_ (a' := ?_) ?_ ?_
      rotate_left
      · show Act.put _ (some 24) _ = _
        simp only [Act.put, List.setIfInBounds_toArray, List.set_cons_zero, List.set_cons_succ, i64_w, i32_w]
        rfl
      refine pure_ (i := 7) (N := some 17) (v := ?_) (a' := ?_) #[true, true, true, true, true, true, true, true, false, false, true, false, false] rfl rfl (by kernel_rfl) (fun _ _ _ h => h) (Or.inl ⟨by rfl, ?_⟩) ?_ ?_
      rotate_left
      · intro w'
        go_simp
        with_reducible rfl
      rotate_left
      · simp only [Act.put, List.setIfInBounds_toArray, List.set_cons_zero, List.set_cons_succ, i64_w, i32_w]
        rfl
      refine pure_ (i := 8) (N := some 25) (v := ?_) (a' := ?_) #[true, true, true, true, true, true, true, true, true, false, true, false, false] rfl rfl (by kernel_rfl) (fun _ _ _ h => h) (Or.inl ⟨by rfl, ?_⟩) ?_ ?_
      rotate_left
      · intro w'
        go_simp
        with_reducible rfl
      rotate_left
      · simp only [Act.put, List.setIfInBounds_toArray, List.set_cons_zero, List.set_cons_succ, i64_w, i32_w]
        rfl
      refine pure_ (i := 9) (N := some 26) (v := ?_) (a' := ?_) #[true, true, true, true, true, true, true, true, true, true, true, false, false] rfl rfl (by kernel_rfl) (fun _ _ _ h => h) (Or.inl ⟨by rfl, ?_⟩) ?_ ?_
      rotate_left
      · intro w'
        go_simp
        with_reducible rfl
      rotate_left
      · simp only [Act.put, List.setIfInBounds_toArray, List.set_cons_zero, List.set_cons_succ, i64_w, i32_w]
        rfl
      exact norm_ (by simp only [putAll, Act.put, List.setIfInBounds_toArray, List.set_cons_zero, List.set_cons_succ]) (hCont (v, err, w16.heap.size) _ ⟨hHeld, hLB, hl, hgl⟩)
  rintro ⟨v, err, gl⟩ w7 ⟨hS_, hLB, hl, hgl⟩
  simp only at hLB hl hgl
  obtain ⟨B0, n0, d0, B1, n1, d1, B2, n2, d2, B3, n3, d3, B4, n4, d4, B5, n5, d5, x6, x7, ev⟩ := hLB.form
  subst ev
  have hHeld := hS_
  refine norm_ (a' := ?_) ?_ ?_
  rotate_left
  · simp only [putAll, Act.put, List.setIfInBounds_toArray, List.set_cons_zero, List.set_cons_succ]
    rfl
  refine last_ (i := 11) (N := none) #[true, true, true, true, true, true, true, true, true, true, true, true, false] rfl rfl (by kernel_rfl) (by decide) (fun K hK => ?_)
  have hf0 : w7.frozen? ⟨gl, 0, none⟩ = false := blk_frozen hl 0
  have hf1 : w7.frozen? ⟨gl, 1, none⟩ = false := blk_frozen hl 1
  have hf2 : w7.frozen? ⟨gl, 2, none⟩ = false := blk_frozen hl 2
  have hf3 : w7.frozen? ⟨gl, 3, none⟩ = false := blk_frozen hl 3
  have hf4 : w7.frozen? ⟨gl, 4, none⟩ = false := blk_frozen hl 4
  have hf5 : w7.frozen? ⟨gl, 5, none⟩ = false := blk_frozen hl 5
  have hf6 : w7.frozen? ⟨gl, 6, none⟩ = false := blk_frozen hl 6
  have hf7 : w7.frozen? ⟨gl, 7, none⟩ = false := blk_frozen hl 7
  have hc0 : w7.cell? ⟨gl, 0, none⟩ = some (.slice none 0 0) := (blk_cell hl 0).trans rfl
  have hc1 : w7.cell? ⟨gl, 1, none⟩ = some (.slice none 0 0) := (blk_cell hl 1).trans rfl
  have hc2 : w7.cell? ⟨gl, 2, none⟩ = some (.slice none 0 0) := (blk_cell hl 2).trans rfl
  have hc3 : w7.cell? ⟨gl, 3, none⟩ = some (.slice none 0 0) := (blk_cell hl 3).trans rfl
  have hc4 : w7.cell? ⟨gl, 4, none⟩ = some (.slice none 0 0) := (blk_cell hl 4).trans rfl
  have hc5 : w7.cell? ⟨gl, 5, none⟩ = some (.slice none 0 0) := (blk_cell hl 5).trans rfl
  have hc6 : w7.cell? ⟨gl, 6, none⟩ = some (.int .i64 0) := (blk_cell hl 6).trans rfl
  have hc7 : w7.cell? ⟨gl, 7, none⟩ = some (.int .i64 0) := (blk_cell hl 7).trans rfl
  refine skip_ (w1 := ?_) (by rfl) rfl ?_ ?_
  rotate_left
  · go_simp
    rfl
  refine hK.out _ _ ?_
  clear hK K
  refine pure_ (i := 12) (N := some 10) (v := ?_) (a' := ?_) #[true, true, true, true, true, true, true, true, true, true, true, true, true] rfl rfl (by kernel_rfl) (fun _ _ _ h => h) (Or.inl ⟨by rfl, ?_⟩) ?_ ?_
  rotate_left
  · intro w'
    go_simp
    with_reducible rfl
  rotate_left
  · simp only [Act.put, List.setIfInBounds_toArray, List.set_cons_zero, List.set_cons_succ, i64_w, i32_w]
    rfl
  refine done_ (by kernel_rfl) ?_
  generalize hwy : World.setCell (World.setCell (World.setCell (World.setCell (World.setCell (World.setCell (World.setCell (World.setCell w7 _ _) _ _) _ _) _ _) _ _) _ _) _ _) _ _ = wy
  have HYB : Aside0 (wy.heap[gl]? = some (.cells #[.slice B0 n0 d0, .slice B1 n1 d1, .slice B2 n2 d2, .slice B3 n3 d3, .slice B4 n4 d4, .slice B5 n5 d5, .int .i64 x6, .int .i64 x7] 57 (0, 0))) := ⟨by
    rw [← hwy]
    refine blk_put (cs := #[.slice B0 n0 d0, .slice B1 n1 d1, .slice B2 n2 d2, .slice B3 n3 d3, .slice B4 n4 d4, .slice B5 n5 d5, .int .i64 x6, .int .i64 0]) ?_ 7 _ rfl
    refine blk_put (cs := #[.slice B0 n0 d0, .slice B1 n1 d1, .slice B2 n2 d2, .slice B3 n3 d3, .slice B4 n4 d4, .slice B5 n5 d5, .int .i64 0, .int .i64 0]) ?_ 6 _ rfl
    refine blk_put (cs := #[.slice B0 n0 d0, .slice B1 n1 d1, .slice B2 n2 d2, .slice B3 n3 d3, .slice B4 n4 d4, .slice none 0 0, .int .i64 0, .int .i64 0]) ?_ 5 _ rfl
    refine blk_put (cs := #[.slice B0 n0 d0, .slice B1 n1 d1, .slice B2 n2 d2, .slice B3 n3 d3, .slice none 0 0, .slice none 0 0, .int .i64 0, .int .i64 0]) ?_ 4 _ rfl
    refine blk_put (cs := #[.slice B0 n0 d0, .slice B1 n1 d1, .slice B2 n2 d2, .slice none 0 0, .slice none 0 0, .slice none 0 0, .int .i64 0, .int .i64 0]) ?_ 3 _ rfl
    refine blk_put (cs := #[.slice B0 n0 d0, .slice B1 n1 d1, .slice none 0 0, .slice none 0 0, .slice none 0 0, .slice none 0 0, .int .i64 0, .int .i64 0]) ?_ 2 _ rfl
    refine blk_put (cs := #[.slice B0 n0 d0, .slice none 0 0, .slice none 0 0, .slice none 0 0, .slice none 0 0, .slice none 0 0, .int .i64 0, .int .i64 0]) ?_ 1 _ rfl
    refine blk_put (cs := #[.slice none 0 0, .slice none 0 0, .slice none 0 0, .slice none 0 0, .slice none 0 0, .slice none 0 0, .int .i64 0, .int .i64 0]) ?_ 0 _ rfl
    exact hl⟩
  have hky : ∀ k, k ≠ gl → wy.heap[k]? = w7.heap[k]? := fun k hk => by
    rw [← hwy]
    exact ((((((((heap_setCell_other _ _ k _ hk).trans (heap_setCell_other _ _ k _ hk)).trans (heap_setCell_other _ _ k _ hk)).trans (heap_setCell_other _ _ k _ hk)).trans (heap_setCell_other _ _ k _ hk)).trans (heap_setCell_other _ _ k _ hk)).trans (heap_setCell_other _ _ k _ hk)).trans (heap_setCell_other w7 _ k _ hk))
  have HLB := Aside0.mk (hLB.step (w2 := wy) (fun k hk _ => hky k hk))
  have hge : w.heap.size ≤ gl := Nat.le_trans HB1.out.size hgl
  have HBY : Aside0 (Below w.heap.size w wy) := ⟨by
    rw [← hwy]
    exact (((((((((below_step HB1.out hS_.1).setCell (p := ⟨gl, 0, none⟩) hge _).setCell (p := ⟨gl, 1, none⟩) hge _).setCell (p := ⟨gl, 2, none⟩) hge _).setCell (p := ⟨gl, 3, none⟩) hge _).setCell (p := ⟨gl, 4, none⟩) hge _).setCell (p := ⟨gl, 5, none⟩) hge _).setCell (p := ⟨gl, 6, none⟩) hge _).setCell (p := ⟨gl, 7, none⟩) hge _)⟩
  have hne_ : w.heap.size ≠ gl := by have h_ := (Array.getElem?_eq_some_iff.1 HSB1.out).1; omega
  have HSBY : Aside0 (wy.heap[w.heap.size]? = some (.cells #[.slice A0_0 l0_0.length c0_0, .slice A0_1 l0_1.length c0_1, .slice A0_2 l0_2.length c0_2, .slice A0_3 l0_3.length c0_3, .slice A0_4 l0_4.length c0_4, .slice A0_5 l0_5.length c0_5, .int .i64 a0_6, .int .i64 a0_7] 57 (0, 0))) := ⟨(hky _ hne_).trans (blk_below HSB1.out hS_.1)⟩
  clear hS_ HSB1 k0 k1 k2 k3 k4 k5 k6 k7
  clear hwy hky hl hLB

  clear hc0 hc1 hc2 hc3 hc4 hc5 hc6 hc7 hf0 hf1 hf2 hf3 hf4 hf5 hf6 hf7
  have hlb := HLB.out
  rcases hlb with ⟨hbad, rfl, hv⟩ | ⟨hbad, rfl, hv⟩
  · have he5 : ((5 : Int) != 0) = true := by decide
    go_wp2_with fail
    refine (backstitchkeep3_leftBy.calls 4 true _ (leftBy_f 4 (Nat.le_refl _))).mono ?_
    rintro e w8 ⟨rfl, hb8⟩
    have HB8 := Aside0.mk (below_step HBY.out hb8)
    clear hb8
    go_wp2_with fail
    go_ret
    exact ⟨rfl, HB8.out⟩
  · have he0 : ((0 : Int) != 0) = false := by decide
    go_wp2_with fail
    obtain ⟨D0, e0, D1, e1, D2, e2, D3, e3, D4, e4, D5, e5, ev, y0, yc0, y1, yc1, y2, yc2, y3, yc3, y4, yc4, y5, yc5⟩ := hv
    simp only [Value.agg.injEq, Array.mk.injEq, List.cons.injEq, Value.slice.injEq, Value.int.injEq, true_and, and_true] at ev
    obtain ⟨⟨rfl, rfl, rfl⟩, ⟨rfl, rfl, rfl⟩, ⟨rfl, rfl, rfl⟩, ⟨rfl, rfl, rfl⟩, ⟨rfl, rfl, rfl⟩, ⟨rfl, rfl, rfl⟩, rfl, rfl⟩ := ev
    have ht0 : 0 ≤ a1 := by unfold badT at hbad; omega
    have ht1 : a1 < (l0_3.length : Int) := by unfold badT at hbad; omega
    obtain ⟨ad3, c3, eA3, hcl3, hK3, hcc3⟩ := Kd.C_get (Kd.F_now (Kd.F_below HR3.out HBY.out)) z62 a1 ht0 ht1
    subst eA3
    obtain ⟨F0, g0, rfl, hg0, hF0⟩ := k62_open hK3
    have hnl : (newTh l0_3 a1.toNat ((l0_3.getD a1.toNat z62).f0.length - 1) (bareF l0_3 a1.toNat a2)).length = l0_3.length := by unfold newTh; simp
    obtain ⟨ad4, c4, eA4, hcl4, hK4, hcc4⟩ := Kd.F_get y3 z62 a1 ht0 (by rw [hnl]; exact ht1)
    subst eA4
    obtain ⟨F1, g1, rfl, hg1, hF1⟩ := k62_openF hK4
    obtain ⟨TN, hTN⟩ : ∃ TN, TN = (newTh l0_3 a1.toNat ((l0_3.getD a1.toNat z62).f0.length - 1) (bareF l0_3 a1.toNat a2)) := ⟨_, rfl⟩
    rw [← hTN] at y3 yc3 hnl hg1 hF1 hcc4 ⊢
    have hx3 : wy.cell? (ad3.add (a1.toNat * 5)) = some (.slice F0 (l0_3.getD a1.toNat z62).f0.length g0) := hcc3 0 _ rfl
    have hx4 : wy.cell? (ad4.add (a1.toNat * 5)) = some (.slice F1 (TN.getD a1.toNat z62).f0.length g1) := hcc4.1 0 _ rfl
    have hs3 : wy.cell? ⟨w.heap.size, 3, none⟩ = some (.slice (some ad3) l0_3.length c0_3) := (blk_cell HSBY.out 3).trans rfl
    have hs4 : wy.cell? ⟨gl, 3, none⟩ = some (.slice (some ad4) TN.length d3) := (blk_cell HYB.out 3).trans (by rw [hTN]; rfl)
    have ht2 : a1 < (TN.length : Int) := by rw [hnl]; exact ht1
    have HTN := Aside0.mk hTN
    have HNLT := Aside0.mk hnl
    clear hTN hnl
    obtain ⟨fs, hfs⟩ : ∃ fs, fs = (l0_3.getD a1.toNat z62).f0 := ⟨_, rfl⟩
    obtain ⟨ft, hft⟩ : ∃ ft, ft = (TN.getD a1.toNat z62).f0 := ⟨_, rfl⟩
    rw [← hfs] at hx3 hF0 hg0
    rw [← hft] at hx4 hF1 hg1
    have HFS := Aside0.mk hfs
    have HFT := Aside0.mk hft
    have HF0 := Aside0.mk hF0
    have HF1 := Aside0.mk hF1
    have HG := Aside0.mk (And.intro hg0 hg1)
    clear hfs hft hF0 hF1 hg0 hg1 hcc3 hcc4 hK3 hK4
    refine start_ (n := 14) (S := fun w' => w'.cell? ⟨w.heap.size, 3, none⟩ = some (.slice (some ad3) l0_3.length c0_3) ∧ w'.cell? ⟨gl, 3, none⟩ = some (.slice (some ad4) TN.length d3) ∧ w'.cell? (ad3.add (a1.toNat * 5)) = some (.slice F0 fs.length g0) ∧ w'.cell? (ad4.add (a1.toNat * 5)) = some (.slice F1 ft.length g1)) (ds := []) #[false, false, false, false, false, false, false, false, false, false, false, false, false, false] (by kernel_rfl) rfl rfl ⟨hs3, hs4, hx3, hx4⟩ (fun hHeld => ?_)
    refine pure_ (i := 0) (N := some 34) (v := ?_) (a' := ?_) #[true, false, false, false, false, false, false, false, false, false, false, false, false, false] rfl rfl (by kernel_rfl) (fun _ _ _ h => h) (Or.inl ⟨by rfl, ?_⟩) ?_ ?_
    rotate_left
    · intro w'
      go_simp
      with_reducible rfl
    rotate_left
    · simp only [Act.put, List.setIfInBounds_toArray, List.set_cons_zero, List.set_cons_succ, i64_w, i32_w]
      rfl
    refine pure_ (i := 2) (N := some 36) (v := ?_) (a' := ?_) #[true, false, true, false, false, false, false, false, false, false, false, false, false, false] rfl rfl (by kernel_rfl) (fun _ _ _ h => h) (Or.inl ⟨by rfl, ?_⟩) ?_ ?_
    rotate_left
    · intro w'
      go_simp
      with_reducible rfl
    rotate_left
    · simp only [Act.put, List.setIfInBounds_toArray, List.set_cons_zero, List.set_cons_succ, i64_w, i32_w]
      rfl
    refine pure_ (i := 6) (N := some 40) (v := ?_) (a' := ?_) #[true, false, true, false, false, false, true, false, false, false, false, false, false, false] rfl rfl (by kernel_rfl) (fun _ _ _ h => h) (Or.inl ⟨by rfl, ?_⟩) ?_ ?_
    rotate_left
    · intro w'
      go_simp
      with_reducible rfl
    rotate_left
    · simp only [Act.put, List.setIfInBounds_toArray, List.set_cons_zero, List.set_cons_succ, i64_w, i32_w]
      rfl
    refine pure_ (i := 8) (N := some 42) (v := ?_) (a' := ?_) #[true, false, true, false, false, false, true, false, true, false, false, false, false, false] rfl rfl (by kernel_rfl) (fun _ _ _ h => h) (Or.inl ⟨by rfl, ?_⟩) ?_ ?_
    rotate_left
    · intro w'
      go_simp
      with_reducible rfl
    rotate_left
    · simp only [Act.put, List.setIfInBounds_toArray, List.set_cons_zero, List.set_cons_succ, i64_w, i32_w]
      rfl
    refine take_ (i := 1) (N := some 35) (v := ?_) (a' := ?_) #[true, true, true, false, false, false, true, false, true, false, false, false, false, false] rfl rfl (by kernel_rfl) (fun _ _ _ h => h) (Or.inl ⟨by rfl, ?_⟩) hHeld ?_ ?_
    rotate_left
    · rintro w' ⟨s0, s1, s2, s3⟩
      go_simp
      with_reducible rfl
    rotate_left
    · simp only [Act.put, List.setIfInBounds_toArray, List.set_cons_zero, List.set_cons_succ, i64_w, i32_w]
      rfl
    refine pure_ (i := 3) (N := some 37) (v := ?_) (a' := ?_) #[true, true, true, true, false, false, true, false, true, false, false, false, false, false] rfl rfl (by kernel_rfl) (fun _ _ _ h => h) (Or.inl ⟨by rfl, ?_⟩) ?_ ?_
    rotate_left
    · intro w'
      go_simp
      with_reducible rfl
    rotate_left
    · simp only [Act.put, List.setIfInBounds_toArray, List.set_cons_zero, List.set_cons_succ, i64_w, i32_w]
      rfl
    refine pure_ (i := 4) (N := some 38) (v := ?_) (a' := ?_) #[true, true, true, true, true, false, true, false, true, false, false, false, false, false] rfl rfl (by kernel_rfl) (fun _ _ _ h => h) (Or.inl ⟨by rfl, ?_⟩) ?_ ?_
    rotate_left
    · intro w'
      go_simp
      with_reducible rfl
    rotate_left
    · simp only [Act.put, List.setIfInBounds_toArray, List.set_cons_zero, List.set_cons_succ, i64_w, i32_w]
      rfl
    refine take_ (i := 5) (N := some 39) (v := ?_) (a' := ?_) #[true, true, true, true, true, true, true, false, true, false, false, false, false, false] rfl rfl (by kernel_rfl) (fun _ _ _ h => h) (Or.inl ⟨by rfl, ?_⟩) hHeld ?_ ?_
    rotate_left
    · rintro w' ⟨s0, s1, s2, s3⟩
      go_simp
      with_reducible rfl
    rotate_left
    · simp only [Act.put, List.setIfInBounds_toArray, List.set_cons_zero, List.set_cons_succ, i64_w, i32_w]
      rfl
    refine pure_ (i := 12) (N := some 11) (v := ?_) (a' := ?_) #[true, true, true, true, true, true, true, false, true, false, false, false, true, false] rfl rfl (by kernel_rfl) (fun _ _ _ h => h) (Or.inl ⟨by rfl, ?_⟩) ?_ ?_
    rotate_left
    · intro w'
      go_simp
      with_reducible rfl
    rotate_left
    · simp only [Act.put, List.setIfInBounds_toArray, List.set_cons_zero, List.set_cons_succ, i64_w, i32_w]
      rfl
    refine take_ (i := 7) (N := some 41) (v := ?_) (a' := ?_) #[true, true, true, true, true, true, true, true, true, false, false, false, true, false] rfl rfl (by kernel_rfl) (fun _ _ _ h => h) (Or.inl ⟨by rfl, ?_⟩) hHeld ?_ ?_
    rotate_left
    · rintro w' ⟨s0, s1, s2, s3⟩
      go_simp
      with_reducible rfl
    rotate_left
    · simp only [Act.put, List.setIfInBounds_toArray, List.set_cons_zero, List.set_cons_succ, i64_w, i32_w]
      rfl
    refine pure_ (i := 9) (N := some 43) (v := ?_) (a' := ?_) #[true, true, true, true, true, true, true, true, true, true, false, false, true, false] rfl rfl (by kernel_rfl) (fun _ _ _ h => h) (Or.inl ⟨by rfl, ?_⟩) ?_ ?_
    rotate_left
    · intro w'
      go_simp
      with_reducible rfl
    rotate_left
    · simp only [Act.put, List.setIfInBounds_toArray, List.set_cons_zero, List.set_cons_succ, i64_w, i32_w]
      rfl
    refine pure_ (i := 10) (N := some 44) (v := ?_) (a' := ?_) #[true, true, true, true, true, true, true, true, true, true, true, false, true, false] rfl rfl (by kernel_rfl) (fun _ _ _ h => h) (Or.inl ⟨by rfl, ?_⟩) ?_ ?_
    rotate_left
    · intro w'
      go_simp
      with_reducible rfl
    rotate_left
    · simp only [Act.put, List.setIfInBounds_toArray, List.set_cons_zero, List.set_cons_succ, i64_w, i32_w]
      rfl
    refine take_ (i := 11) (N := some 45) (v := ?_) (a' := ?_) #[true, true, true, true, true, true, true, true, true, true, true, true, true, false] rfl rfl (by kernel_rfl) (fun _ _ _ h => h) (Or.inl ⟨by rfl, ?_⟩) hHeld ?_ ?_
    rotate_left
    · rintro w' ⟨s0, s1, s2, s3⟩
      go_simp
      with_reducible rfl
    rotate_left
    · simp only [Act.put, List.setIfInBounds_toArray, List.set_cons_zero, List.set_cons_succ, i64_w, i32_w]
      rfl
    refine pure_ (i := 13) (N := some 12) (v := ?_) (a' := ?_) #[true, true, true, true, true, true, true, true, true, true, true, true, true, true] rfl rfl (by kernel_rfl) (fun _ _ _ h => h) (Or.inl ⟨by rfl, ?_⟩) ?_ ?_
    rotate_left
    · intro w'
      go_simp
      with_reducible rfl
    rotate_left
    · simp only [Act.put, List.setIfInBounds_toArray, List.set_cons_zero, List.set_cons_succ, i64_w, i32_w]
      rfl
    refine done_ (by kernel_rfl) ?_
    have hdr := below_drew (Below.refl wy.heap.size wy)
    have HSBd := Aside0.mk (blk_below HSBY.out hdr)
    have HYBd := Aside0.mk (blk_below HYB.out hdr)
    have HY0d := Aside0.mk (Kd.F_below y0 hdr)
    have HBd := Aside0.mk (below_step HBY.out hdr)
    have HF0d := Aside0.mk (Kd.C_below HF0.out hdr)
    have HF1d := Aside0.mk (Kd.F_below HF1.out hdr)
    clear hdr hs3 hs4 hx3 hx4 hHeld HSBY HYB HLB HBY HF0 HF1 y0 y1 y2 y3 y4 y5 yc1 yc2 yc3 yc4 yc5
    generalize wy.drew = wd at HSBd HYBd HY0d HBd HF0d HF1d ⊢
    have hfs0 : fs ≠ [] := by
      rw [HFS.out]
      intro e
      exact hbad (.inr (.inr e))
    obtain ⟨m, hm⟩ : ∃ m, fs.length = m + 1 := ⟨fs.length - 1, by have := List.length_pos_iff.2 hfs0; omega⟩
    obtain ⟨ad5, A6, c6, A7, c7, eF0, q0, q1, q2, q3, q4, q5, q6, q7, hc6, hF6, hc7, hF7⟩ := at_T27 HF0d.out (m : Int) (by omega) (by omega)
    subst eF0
    obtain ⟨fm, hfm⟩ : ∃ fm, fm = rd_T27 fs (m : Int) := ⟨_, rfl⟩
    rw [← hfm] at q0 q1 q2 q3 q4 q5 q6 q7 hc6 hF6 hc7 hF7
    rw [Int.toNat_natCast] at q0 q1 q2 q3 q4 q5 q6 q7
    have hwm : wrap64 ((fs.length : Int) - 1) = (m : Int) := by
      have h_ := Kd.C_max HF0d.out
      rw [hm]
      rw [hm] at h_
      unfold wrap64; omega
    have hml : (m : Int) < (fs.length : Int) := by omega
    have hm0 : (0 : Int) ≤ (m : Int) := by omega
    have HM := Aside0.mk hm
    have HFM := Aside0.mk hfm
    have HF67 := Aside0.mk (And.intro hF6 hF7)
    have HC67 := Aside0.mk (And.intro hc6 hc7)
    clear hm hfm hF6 hF7 hc6 hc7 hfs0
    obtain ⟨ob, hob⟩ : ∃ ob, ob = Obj.cells #[.int .i64 fm.f0, .int .i64 a2, .int .i64 fm.f2, .int .i64 fm.f3, .int .i64 fm.f4.f0, .int .i64 fm.f4.f1, .slice A6 fm.f5.length c6, .slice A7 fm.f6.length c7] 27 := ⟨_, rfl⟩
    have hal := below_alloc (Below.refl wd.heap.size wd) ob
    have HSBe := Aside0.mk (blk_below HSBd.out hal)
    have HYBe := Aside0.mk (blk_below HYBd.out hal)
    have HY0e := Aside0.mk (Kd.F_below HY0d.out hal)
    have HBe := Aside0.mk (below_step HBd.out hal)
    have HF1e := Aside0.mk (Kd.F_below HF1d.out hal)
    have HF6e := Aside0.mk (Kd.C_below HF67.out.1 hal)
    have HF7e := Aside0.mk (Kd.C_below HF67.out.2 hal)
    have hnw : Aside0 ((wd.alloc ob).heap[wd.heap.size]? = some (Obj.cells #[.int .i64 fm.f0, .int .i64 a2, .int .i64 fm.f2, .int .i64 fm.f3, .int .i64 fm.f4.f0, .int .i64 fm.f4.f1, .slice A6 fm.f5.length c6, .slice A7 fm.f6.length c7] 27 (0, 0))) := ⟨by rw [hob]; exact blk_new wd _⟩
    have e0 : (wd.alloc ob).cell? ⟨w.heap.size, 0, none⟩ = some (.slice A0_0 l0_0.length c0_0) := (blk_cell HSBe.out 0).trans rfl
    rw [hob] at e0
    have hgw : w.heap.size ≤ wd.heap.size := HBd.out.size
    clear hal HSBd HYBd HY0d HBd HF1d HF67
    go_wp2_with fail
    rw [← hob]
    rw [← hob] at e0
    clear hob q0 q1 q2 q3 q4 q5 q6 q7
    generalize wd.alloc ob = we at HSBe HYBe HY0e HBe HF1e HF6e HF7e hnw e0 ⊢
    generalize wd.heap.size = bl at hnw hgw ⊢
    have HWM := Aside0.mk hwm
    clear HF0d hwm
    go_loopg [57] l0_0.length (fun kq v57 W => ∃ i : Nat, v57 = .int .i64 (i : Int) ∧ Aside0 (i ≤ l0_0.length ∧ kq = l0_0.length - i) ∧ Aside0 (Below we.heap.size we W))
    case atStart => exact ⟨0, rfl, ⟨Nat.zero_le _, by omega⟩, ⟨Below.refl _ _⟩⟩
    case round =>
      obtain ⟨i, rfl, HIQ, HB⟩ := hrel
      by_cases hlt : i < l0_0.length
      · have hi0 : (0 : Int) ≤ (i : Int) := by omega
        have hi1 : (i : Int) < (l0_0.length : Int) := by omega
        obtain ⟨ad8, P2, p2, P3, p3, e8, x0, x1, x2, x3, xc2, xK2, xc3, xK3⟩ := at_T50 (Kd.F_now (Kd.F_below HR0.out (below_step HBe.out HB.out))) (i : Int) (by omega) (by omega)
        obtain ⟨ad9, Q2, p4, Q3, p5, e9, z0, z1, z2, z3, zc2, zK2, zc3, zK3⟩ := at_T50 (Kd.F_now (Kd.F_below HY0e.out HB.out)) (i : Int) (by omega) (by omega)
        subst e8
        subst e9
        have hrd : rd_T50 l0_0 (i : Int) = l0_0[i] := by unfold rd_T50; rw [Int.toNat_natCast, List.getD_eq_getElem?_getD, List.getElem?_eq_getElem hlt]; rfl
        obtain ⟨KS, hKS⟩ := same_cell l0_0[i] (HOK.out.cm _ (List.getElem_mem hlt))
        rw [hrd] at x0 x1 x2 x3 xc2 xK2 xc3 xK3 z0 z1 z2 z3 zc2 zK2 zc3 zK3
        rw [Int.toNat_natCast] at x0 x1 x2 x3 z0 z1 z2 z3
        have hdec : decide ((i : Int) < (l0_0.length : Int)) = true := decide_eq_true hi1
        have hdec2 : decide (i < l0_0.length) = true := decide_eq_true hlt
        have HLT := Aside0.mk hlt
        have HW64 : Aside0 (wrap64 ((i : Int) + 1) = ((i + 1 : Nat) : Int)) := ⟨by have := HOK.out.cs; unfold wrap64; omega⟩
        have HXK := Aside0.mk (And.intro xK2 xK3)
        have HZK := Aside0.mk (And.intro zK2 zK3)
        have HKS := Aside0.mk (hKS KS (Nat.le_refl _))
        generalize l0_0[i] = ci at x0 x1 x2 x3 xc2 xc3 z0 z1 z2 z3 zc2 zc3 HXK HZK HKS
        clear hKS xK2 xK3 zK2 zK3 hrd
        have t0 : wr.cell? ⟨w.heap.size, 0, none⟩ = some (.slice (some ad8) l0_0.length c0_0) := (blk_cell (blk_below HSBe.out HB.out) 0).trans rfl
        have t1 : wr.cell? ⟨gl, 0, none⟩ = some (.slice (some ad9) l0_0.length d0) := (blk_cell (blk_below HYBe.out HB.out) 0).trans rfl
        go_wp2_with fail
        refine start_ (n := 12) (S := fun w' => Below wr.heap.size wr w' ∧ w'.cell? ⟨w.heap.size, 0, none⟩ = some (.slice (some ad8) l0_0.length c0_0) ∧ w'.cell? ⟨gl, 0, none⟩ = some (.slice (some ad9) l0_0.length d0) ∧ w'.cell? (ad8.add (i * 4)) = some (.int .i64 ci.f0) ∧ w'.cell? ⟨(ad8.add (i * 4)).block, (ad8.add (i * 4)).off + 1, none⟩ = some (.int .i64 ci.f1) ∧ w'.cell? ⟨(ad8.add (i * 4)).block, (ad8.add (i * 4)).off + 2, none⟩ = some (.slice P2 ci.f2.length p2) ∧ w'.cell? ⟨(ad8.add (i * 4)).block, (ad8.add (i * 4)).off + 3, none⟩ = some (.slice P3 ci.f3.length p3) ∧ w'.cell? (ad9.add (i * 4)) = some (.int .i64 ci.f0) ∧ w'.cell? ⟨(ad9.add (i * 4)).block, (ad9.add (i * 4)).off + 1, none⟩ = some (.int .i64 ci.f1) ∧ w'.cell? ⟨(ad9.add (i * 4)).block, (ad9.add (i * 4)).off + 2, none⟩ = some (.slice Q2 ci.f2.length p4) ∧ w'.cell? ⟨(ad9.add (i * 4)).block, (ad9.add (i * 4)).off + 3, none⟩ = some (.slice Q3 ci.f3.length p5)) (ds := []) #[false, false, false, false, false, false, false, false, false, false, false, false] (by kernel_rfl) rfl rfl ⟨(below_drew (Below.refl _ _)), t0, t1, x0, x1, x2, x3, z0, z1, z2, z3⟩ (fun hHeld => ?_)
        refine pure_ (i := 0) (N := some 60) (v := ?_) (a' := ?_) #[true, false, false, false, false, false, false, false, false, false, false, false] rfl rfl (by kernel_rfl) (fun _ _ _ h => h) (Or.inl ⟨by rfl, ?_⟩) ?_ ?_
        rotate_left
        · intro w'
          go_simp
          with_reducible rfl
        rotate_left
        · simp only [Act.put, List.setIfInBounds_toArray, List.set_cons_zero, List.set_cons_succ, i64_w, i32_w]
          rfl
        refine pure_ (i := 2) (N := some 62) (v := ?_) (a' := ?_) #[true, false, true, false, false, false, false, false, false, false, false, false] rfl rfl (by kernel_rfl) (fun _ _ _ h => h) (Or.inl ⟨by rfl, ?_⟩) ?_ ?_
        rotate_left
        · intro w'
          go_simp
          with_reducible rfl
        rotate_left
        · simp only [Act.put, List.setIfInBounds_toArray, List.set_cons_zero, List.set_cons_succ, i64_w, i32_w]
          rfl
        refine pure_ (i := 5) (N := some 65) (v := ?_) (a' := ?_) #[true, false, true, false, false, true, false, false, false, false, false, false] rfl rfl (by kernel_rfl) (fun _ _ _ h => h) (Or.inl ⟨by rfl, ?_⟩) ?_ ?_
        rotate_left
        · intro w'
          go_simp
          with_reducible rfl
        rotate_left
        · simp only [Act.put, List.setIfInBounds_toArray, List.set_cons_zero, List.set_cons_succ, i64_w, i32_w]
          rfl
        refine pure_ (i := 7) (N := some 67) (v := ?_) (a' := ?_) #[true, false, true, false, false, true, false, true, false, false, false, false] rfl rfl (by kernel_rfl) (fun _ _ _ h => h) (Or.inl ⟨by rfl, ?_⟩) ?_ ?_
        rotate_left
        · intro w'
          go_simp
          with_reducible rfl
        rotate_left
        · simp only [Act.put, List.setIfInBounds_toArray, List.set_cons_zero, List.set_cons_succ, i64_w, i32_w]
          rfl
        refine take_ (i := 1) (N := some 61) (v := ?_) (a' := ?_) #[true, true, true, false, false, true, false, true, false, false, false, false] rfl rfl (by kernel_rfl) (fun _ _ _ h => h) (Or.inl ⟨by rfl, ?_⟩) hHeld ?_ ?_
        rotate_left
        · rintro w' ⟨s0, s1, s2, s3, s4, s5, s6, s7, s8, s9, s10⟩
          go_simp
          with_reducible rfl
        rotate_left
        · simp only [Act.put, List.setIfInBounds_toArray, List.set_cons_zero, List.set_cons_succ, i64_w, i32_w]
          rfl
        refine pure_ (i := 3) (N := some 63) (v := ?_) (a' := ?_) #[true, true, true, true, false, true, false, true, false, false, false, false] rfl rfl (by kernel_rfl) (fun _ _ _ h => h) (Or.inl ⟨by rfl, ?_⟩) ?_ ?_
        rotate_left
        · intro w'
          go_simp
          with_reducible rfl
        rotate_left
        · simp only [Act.put, List.setIfInBounds_toArray, List.set_cons_zero, List.set_cons_succ, i64_w, i32_w]
          rfl
        refine take_ (i := 4) (N := some 64) (v := ?_) (a' := ?_) #[true, true, true, true, true, true, false, true, false, false, false, false] rfl rfl (by kernel_rfl) (fun _ _ _ h => h) (Or.inl ⟨by rfl, ?_⟩) hHeld ?_ ?_
        rotate_left
        · rintro w' ⟨s0, s1, s2, s3, s4, s5, s6, s7, s8, s9, s10⟩
          go_simp
          with_reducible rfl
        rotate_left
        · simp only [Act.put, List.setIfInBounds_toArray, List.set_cons_zero, List.set_cons_succ, i64_w, i32_w]
          rfl
        refine take_ (i := 6) (N := some 66) (v := ?_) (a' := ?_) #[true, true, true, true, true, true, true, true, false, false, false, false] rfl rfl (by kernel_rfl) (fun _ _ _ h => h) (Or.inl ⟨by rfl, ?_⟩) hHeld ?_ ?_
        rotate_left
        · rintro w' ⟨s0, s1, s2, s3, s4, s5, s6, s7, s8, s9, s10⟩
          go_simp
          with_reducible rfl
        rotate_left
        · simp only [Act.put, List.setIfInBounds_toArray, List.set_cons_zero, List.set_cons_succ, i64_w, i32_w]
          rfl
        refine pure_ (i := 8) (N := some 68) (v := ?_) (a' := ?_) #[true, true, true, true, true, true, true, true, true, false, false, false] rfl rfl (by kernel_rfl) (fun _ _ _ h => h) (Or.inl ⟨by rfl, ?_⟩) ?_ ?_
        rotate_left
        · intro w'
          go_simp
          with_reducible rfl
        rotate_left
        · simp only [Act.put, List.setIfInBounds_toArray, List.set_cons_zero, List.set_cons_succ, i64_w, i32_w]
          rfl
        refine take_ (i := 9) (N := some 69) (v := ?_) (a' := ?_) #[true, true, true, true, true, true, true, true, true, true, false, false] rfl rfl (by kernel_rfl) (fun _ _ _ h => h) (Or.inl ⟨by rfl, ?_⟩) hHeld ?_ ?_
        rotate_left
        · rintro w' ⟨s0, s1, s2, s3, s4, s5, s6, s7, s8, s9, s10⟩
          go_simp
          with_reducible rfl
        rotate_left
        · simp only [Act.put, List.setIfInBounds_toArray, List.set_cons_zero, List.set_cons_succ, i64_w, i32_w]
          rfl
        refine one_ (i := 10) (N := some 70) #[true, true, true, true, true, true, true, true, true, true, true, false] rfl rfl (by kernel_rfl) (by decide) (fun K hK => ?_)
        refine goes_ Try.func19 (by kernel_rfl) rfl #[.agg #[.int .i64 ci.f0, .int .i64 ci.f1, .slice P2 ci.f2.length p2, .slice P3 ci.f3.length p3], .agg #[.int .i64 ci.f0, .int .i64 ci.f1, .slice Q2 ci.f2.length p4, .slice Q3 ci.f3.length p5]] (by rfl) rfl rfl (by simp only [List.map_toArray, List.map_cons, List.map_nil]; rfl) ?_
        with_reducible refine (backstitchkeep3_sameCell.calls KS ci.f0 ci.f1 P2 p2 ci.f2 P3 p3 ci.f3 ci.f0 ci.f1 Q2 p4 ci.f2 Q3 p5 ci.f3 true _ (Kd.C_below HXK.out.1 hHeld.1) xc2 (Kd.C_below HXK.out.2 hHeld.1) xc3 (Kd.C_below HZK.out.1 hHeld.1) zc2 (Kd.C_below HZK.out.2 hHeld.1) zc3 HKS.out).mono ?_
        rintro e w8 ⟨rfl, hb8⟩
        refine ⟨_, rfl, ?_⟩
        refine hK.out _ _ ⟨below_step hHeld.1 hb8, pw_cell_below hb8 hHeld.2.1, pw_cell_below hb8 hHeld.2.2.1, pw_cell_below hb8 hHeld.2.2.2.1, pw_cell_below hb8 hHeld.2.2.2.2.1, pw_cell_below hb8 hHeld.2.2.2.2.2.1, pw_cell_below hb8 hHeld.2.2.2.2.2.2.1, pw_cell_below hb8 hHeld.2.2.2.2.2.2.2.1, pw_cell_below hb8 hHeld.2.2.2.2.2.2.2.2.1, pw_cell_below hb8 hHeld.2.2.2.2.2.2.2.2.2.1, pw_cell_below hb8 hHeld.2.2.2.2.2.2.2.2.2.2⟩ (fun hHeld => ?_)
        clear hK K
        refine norm_ (a' := ?_) ?_ ?_
        rotate_left
        · show Act.put _ (some 70) _ = _
          simp only [Act.put, List.setIfInBounds_toArray, List.set_cons_zero, List.set_cons_succ, i64_w, i32_w]
          rfl
        refine pure_ (i := 11) (N := some 71) (v := ?_) (a' := ?_) #[true, true, true, true, true, true, true, true, true, true, true, true] rfl rfl (by kernel_rfl) (fun _ _ _ h => h) (Or.inl ⟨by rfl, ?_⟩) ?_ ?_
        rotate_left
        · intro w'
          go_simp
          with_reducible rfl
        rotate_left
        · simp only [Act.put, List.setIfInBounds_toArray, List.set_cons_zero, List.set_cons_succ, i64_w, i32_w]
          rfl
        refine done_ (by kernel_rfl) ?_
        have HB2 := Aside0.mk (below_step HB.out hHeld.1)
        clear hHeld x0 x1 x2 x3 z0 z1 z2 z3 t0 t1 HB
        go_wp2_with fail
        go_roundg (l0_0.length - (i + 1))
        case measure => have := HIQ.out; have := HLT.out; omega
        case rel => exact ⟨i + 1, by first | rfl | rw [HW64.out], ⟨by have := HLT.out; omega, rfl⟩, HB2⟩
      · have e_ : i = l0_0.length := by have := HIQ.out; omega
        subst e_
        have hdec : decide ((l0_0.length : Int) < (l0_0.length : Int)) = false := decide_eq_false (by omega)
        have hdec2 : decide (l0_0.length < l0_0.length) = false := decide_eq_false hlt
        have htn : a1.toNat < l0_3.length := by omega
        have hft : ft = fs.set m ⟨fm.f0, a2, fm.f2, fm.f3, fm.f4, fm.f5, fm.f6⟩ := by
          have h_ := bare_fs htn (by rw [← HFS.out]; exact HM.out) a2
          rw [← HTN.out, ← HFT.out, ← HFS.out] at h_
          rw [h_, HFM.out]
          unfold rd_T27
          rw [Int.toNat_natCast]
        have hfl : ft.length = m + 1 := by rw [hft, List.length_set]; exact HM.out
        have hsm : SmF fm := by
          have h_ := bare_sm HOK.out.tm htn (m := m) (by rw [← HFS.out, HM.out]; omega)
          rw [← HFS.out] at h_
          rw [HFM.out]
          unfold rd_T27
          rw [Int.toNat_natCast]
          exact h_
        obtain ⟨ad9, R6, r6, R7, r7, e9, z0, z1, z2, z3, z4, z5, z6, z7, zc6, zK6, zc7, zK7⟩ := at_T27 (Kd.F_now (Kd.F_below HF1e.out HB.out)) (m : Int) (by omega) (by omega)
        subst e9
        have hgm : rd_T27 ft (m : Int) = ⟨fm.f0, a2, fm.f2, fm.f3, fm.f4, fm.f5, fm.f6⟩ := by
          unfold rd_T27
          rw [Int.toNat_natCast, hft, List.getD_eq_getElem?_getD, List.getElem?_set_self (by have := HM.out; omega)]
          first | done | rfl
        rw [hgm] at z0 z1 z2 z3 z4 z5 z6 z7 zc6 zK6 zc7 zK7
        simp only at z0 z1 z2 z3 z4 z5 z6 z7 zc6 zK6 zc7 zK7
        rw [Int.toNat_natCast] at z0 z1 z2 z3 z4 z5 z6 z7
        have HZK := Aside0.mk (And.intro zK6 zK7)
        have HSF : Aside0 (backstitchkeep3_sameFrame.f (fm.f5.length + fm.f6.length + 1) fm.f0 a2 fm.f2 fm.f3 fm.f4.f0 fm.f4.f1 fm.f5 fm.f6 fm.f0 a2 fm.f2 fm.f3 fm.f4.f0 fm.f4.f1 fm.f5 fm.f6 = some true) := ⟨same_frame _ _ _ _ _ _ _ _ _ (by have := hsm.1; omega) (by have := hsm.2; omega) (by omega)⟩
        have hll : ((ft.length : Int) == (fs.length : Int)) = true := by rw [hfl, HM.out]; exact beq_self_eq_true _
        have hwm2 : wrap64 ((ft.length : Int) - 1) = (m : Int) := by rw [hfl, ← HM.out]; exact HWM.out
        have hml2 : (m : Int) < (ft.length : Int) := by omega
        have hww : (wrap64 (a0_7 + q) == wrap64 (a0_7 + q)) = true := beq_self_eq_true _
        have HB' := HB
        clear hft hfl hgm hsm hlt zK6 zK7
        have t7 : wr.cell? ⟨w.heap.size, 7, none⟩ = some (.int .i64 a0_7) := (blk_cell (blk_below HSBe.out HB.out) 7).trans rfl
        have y7 : wr.cell? ⟨gl, 7, none⟩ = some (.int .i64 (wrap64 (a0_7 + q))) := (blk_cell (blk_below HYBe.out HB.out) 7).trans rfl
        have v0 := (blk_cell (blk_below hnw.out HB.out) 0).trans rfl
        have v1 := (blk_cell (blk_below hnw.out HB.out) 1).trans rfl
        have v2 := (blk_cell (blk_below hnw.out HB.out) 2).trans rfl
        have v3 := (blk_cell (blk_below hnw.out HB.out) 3).trans rfl
        have v4 := (blk_cell (blk_below hnw.out HB.out) 4).trans rfl
        have v5 := (blk_cell (blk_below hnw.out HB.out) 5).trans rfl
        have v6 := (blk_cell (blk_below hnw.out HB.out) 6).trans rfl
        have v7 := (blk_cell (blk_below hnw.out HB.out) 7).trans rfl
        go_wp2_with fail
        refine start_ (n := 29) (S := fun w' => Below wr.heap.size wr w' ∧ w'.cell? ⟨w.heap.size, 7, none⟩ = some (.int .i64 a0_7) ∧ w'.cell? ⟨gl, 7, none⟩ = some (.int .i64 (wrap64 (a0_7 + q))) ∧ w'.cell? (ad9.add (m * 8)) = some (.int .i64 fm.f0) ∧ w'.cell? ⟨(ad9.add (m * 8)).block, (ad9.add (m * 8)).off + 1, none⟩ = some (.int .i64 a2) ∧ w'.cell? ⟨(ad9.add (m * 8)).block, (ad9.add (m * 8)).off + 2, none⟩ = some (.int .i64 fm.f2) ∧ w'.cell? ⟨(ad9.add (m * 8)).block, (ad9.add (m * 8)).off + 3, none⟩ = some (.int .i64 fm.f3) ∧ w'.cell? ⟨(ad9.add (m * 8)).block, (ad9.add (m * 8)).off + 4, none⟩ = some (.int .i64 fm.f4.f0) ∧ w'.cell? ⟨(ad9.add (m * 8)).block, (ad9.add (m * 8)).off + 5, none⟩ = some (.int .i64 fm.f4.f1) ∧ w'.cell? ⟨(ad9.add (m * 8)).block, (ad9.add (m * 8)).off + 6, none⟩ = some (.slice R6 fm.f5.length r6) ∧ w'.cell? ⟨(ad9.add (m * 8)).block, (ad9.add (m * 8)).off + 7, none⟩ = some (.slice R7 fm.f6.length r7) ∧ w'.cell? ⟨bl, 0, none⟩ = some (.int .i64 fm.f0) ∧ w'.cell? ⟨bl, 1, none⟩ = some (.int .i64 a2) ∧ w'.cell? ⟨bl, 2, none⟩ = some (.int .i64 fm.f2) ∧ w'.cell? ⟨bl, 3, none⟩ = some (.int .i64 fm.f3) ∧ w'.cell? ⟨bl, 4, none⟩ = some (.int .i64 fm.f4.f0) ∧ w'.cell? ⟨bl, 5, none⟩ = some (.int .i64 fm.f4.f1) ∧ w'.cell? ⟨bl, 6, none⟩ = some (.slice A6 fm.f5.length c6) ∧ w'.cell? ⟨bl, 7, none⟩ = some (.slice A7 fm.f6.length c7)) (ds := []) #[false, false, false, false, false, false, false, false, false, false, false, false, false, false, false, false, false, false, false, false, false, false, false, false, false, false, false, false, false] (by kernel_rfl) rfl rfl ⟨(below_drew (Below.refl _ _)), t7, y7, z0, z1, z2, z3, z4, z5, z6, z7, v0, v1, v2, v3, v4, v5, v6, v7⟩ (fun hHeld => ?_)
        refine one_ (i := 0) (N := some 73) #[true, false, false, false, false, false, false, false, false, false, false, false, false, false, false, false, false, false, false, false, false, false, false, false, false, false, false, false, false] rfl rfl (by kernel_rfl) (by decide) (fun K hK => ?_)
        refine goes_ Try.func15 (by kernel_rfl) rfl #[] (by rfl) rfl rfl (by first | rfl | simp) ?_
        with_reducible refine (backstitchkeep3_leftBy.calls 4 true _ (leftBy_f 4 (Nat.le_refl _))).mono ?_
        rintro e w8 ⟨rfl, hb8⟩
        refine ⟨_, rfl, ?_⟩
        refine hK.out _ _ ⟨below_step hHeld.1 hb8, pw_cell_below hb8 hHeld.2.1, pw_cell_below hb8 hHeld.2.2.1, pw_cell_below hb8 hHeld.2.2.2.1, pw_cell_below hb8 hHeld.2.2.2.2.1, pw_cell_below hb8 hHeld.2.2.2.2.2.1, pw_cell_below hb8 hHeld.2.2.2.2.2.2.1, pw_cell_below hb8 hHeld.2.2.2.2.2.2.2.1, pw_cell_below hb8 hHeld.2.2.2.2.2.2.2.2.1, pw_cell_below hb8 hHeld.2.2.2.2.2.2.2.2.2.1, pw_cell_below hb8 hHeld.2.2.2.2.2.2.2.2.2.2.1, pw_cell_below hb8 hHeld.2.2.2.2.2.2.2.2.2.2.2.1, pw_cell_below hb8 hHeld.2.2.2.2.2.2.2.2.2.2.2.2.1, pw_cell_below hb8 hHeld.2.2.2.2.2.2.2.2.2.2.2.2.2.1, pw_cell_below hb8 hHeld.2.2.2.2.2.2.2.2.2.2.2.2.2.2.1, pw_cell_below hb8 hHeld.2.2.2.2.2.2.2.2.2.2.2.2.2.2.2.1, pw_cell_below hb8 hHeld.2.2.2.2.2.2.2.2.2.2.2.2.2.2.2.2.1, pw_cell_below hb8 hHeld.2.2.2.2.2.2.2.2.2.2.2.2.2.2.2.2.2.1, pw_cell_below hb8 hHeld.2.2.2.2.2.2.2.2.2.2.2.2.2.2.2.2.2.2⟩ (fun hHeld => ?_)
        clear hK K
        refine norm_ (a' := ?_) ?_ ?_
        rotate_left
        · show Act.put _ (some 73) _ = _
          simp only [Act.put, List.setIfInBounds_toArray, List.set_cons_zero, List.set_cons_succ, i64_w, i32_w]
          rfl
        refine pure_ (i := 1) (N := some 74) (v := ?_) (a' := ?_) #[true, true, false, false, false, false, false, false, false, false, false, false, false, false, false, false, false, false, false, false, false, false, false, false, false, false, false, false, false] rfl rfl (by kernel_rfl) (fun _ _ _ h => h) (Or.inl ⟨by rfl, ?_⟩) ?_ ?_
        rotate_left
        · intro w'
          go_simp
          with_reducible rfl
        rotate_left
        · simp only [Act.put, List.setIfInBounds_toArray, List.set_cons_zero, List.set_cons_succ, i64_w, i32_w]
          rfl
        refine pure_ (i := 2) (N := some 75) (v := ?_) (a' := ?_) #[true, true, true, false, false, false, false, false, false, false, false, false, false, false, false, false, false, false, false, false, false, false, false, false, false, false, false, false, false] rfl rfl (by kernel_rfl) (fun _ _ _ h => h) (Or.inl ⟨by rfl, ?_⟩) ?_ ?_
        rotate_left
        · intro w'
          go_simp
          with_reducible rfl
        rotate_left
        · simp only [Act.put, List.setIfInBounds_toArray, List.set_cons_zero, List.set_cons_succ, i64_w, i32_w]
          rfl
        refine pure_ (i := 3) (N := some 76) (v := ?_) (a' := ?_) #[true, true, true, true, false, false, false, false, false, false, false, false, false, false, false, false, false, false, false, false, false, false, false, false, false, false, false, false, false] rfl rfl (by kernel_rfl) (fun _ _ _ h => h) (Or.inl ⟨by rfl, ?_⟩) ?_ ?_
        rotate_left
        · intro w'
          go_simp
          with_reducible rfl
        rotate_left
        · simp only [Act.put, List.setIfInBounds_toArray, List.set_cons_zero, List.set_cons_succ, i64_w, i32_w]
          rfl
        refine pure_ (i := 4) (N := some 77) (v := ?_) (a' := ?_) #[true, true, true, true, true, false, false, false, false, false, false, false, false, false, false, false, false, false, false, false, false, false, false, false, false, false, false, false, false] rfl rfl (by kernel_rfl) (fun _ _ _ h => h) (Or.inl ⟨by rfl, ?_⟩) ?_ ?_
        rotate_left
        · intro w'
          go_simp
          with_reducible rfl
        rotate_left
        · simp only [Act.put, List.setIfInBounds_toArray, List.set_cons_zero, List.set_cons_succ, i64_w, i32_w]
          rfl
        refine pure_ (i := 5) (N := some 78) (v := ?_) (a' := ?_) #[true, true, true, true, true, true, false, false, false, false, false, false, false, false, false, false, false, false, false, false, false, false, false, false, false, false, false, false, false] rfl rfl (by kernel_rfl) (fun _ _ _ h => h) (Or.inl ⟨by rfl, ?_⟩) ?_ ?_
        rotate_left
        · intro w'
          go_simp
          with_reducible rfl
        rotate_left
        · simp only [Act.put, List.setIfInBounds_toArray, List.set_cons_zero, List.set_cons_succ, i64_w, i32_w]
          rfl
        refine pure_ (i := 6) (N := some 79) (v := ?_) (a' := ?_) #[true, true, true, true, true, true, true, false, false, false, false, false, false, false, false, false, false, false, false, false, false, false, false, false, false, false, false, false, false] rfl rfl (by kernel_rfl) (fun _ _ _ h => h) (Or.inl ⟨by rfl, ?_⟩) ?_ ?_
        rotate_left
        · intro w'
          go_simp
          with_reducible rfl
        rotate_left
        · simp only [Act.put, List.setIfInBounds_toArray, List.set_cons_zero, List.set_cons_succ, i64_w, i32_w]
          rfl
        refine pure_ (i := 7) (N := some 80) (v := ?_) (a' := ?_) #[true, true, true, true, true, true, true, true, false, false, false, false, false, false, false, false, false, false, false, false, false, false, false, false, false, false, false, false, false] rfl rfl (by kernel_rfl) (fun _ _ _ h => h) (Or.inl ⟨by rfl, ?_⟩) ?_ ?_
        rotate_left
        · intro w'
          go_simp
          with_reducible rfl
        rotate_left
        · simp only [Act.put, List.setIfInBounds_toArray, List.set_cons_zero, List.set_cons_succ, i64_w, i32_w]
          rfl
        refine pure_ (i := 8) (N := some 81) (v := ?_) (a' := ?_) #[true, true, true, true, true, true, true, true, true, false, false, false, false, false, false, false, false, false, false, false, false, false, false, false, false, false, false, false, false] rfl rfl (by kernel_rfl) (fun _ _ _ h => h) (Or.inl ⟨by rfl, ?_⟩) ?_ ?_
        rotate_left
        · intro w'
          go_simp
          with_reducible rfl
        rotate_left
        · simp only [Act.put, List.setIfInBounds_toArray, List.set_cons_zero, List.set_cons_succ, i64_w, i32_w]
          rfl
        refine pure_ (i := 9) (N := some 82) (v := ?_) (a' := ?_) #[true, true, true, true, true, true, true, true, true, true, false, false, false, false, false, false, false, false, false, false, false, false, false, false, false, false, false, false, false] rfl rfl (by kernel_rfl) (fun _ _ _ h => h) (Or.inl ⟨by rfl, ?_⟩) ?_ ?_
        rotate_left
        · intro w'
          go_simp
          with_reducible rfl
        rotate_left
        · simp only [Act.put, List.setIfInBounds_toArray, List.set_cons_zero, List.set_cons_succ, i64_w, i32_w]
          rfl
        refine pure_ (i := 10) (N := some 83) (v := ?_) (a' := ?_) #[true, true, true, true, true, true, true, true, true, true, true, false, false, false, false, false, false, false, false, false, false, false, false, false, false, false, false, false, false] rfl rfl (by kernel_rfl) (fun _ _ _ h => h) (Or.inl ⟨by rfl, ?_⟩) ?_ ?_
        rotate_left
        · intro w'
          go_simp
          with_reducible rfl
        rotate_left
        · simp only [Act.put, List.setIfInBounds_toArray, List.set_cons_zero, List.set_cons_succ, i64_w, i32_w]
          rfl
        refine pure_ (i := 11) (N := some 84) (v := ?_) (a' := ?_) #[true, true, true, true, true, true, true, true, true, true, true, true, false, false, false, false, false, false, false, false, false, false, false, false, false, false, false, false, false] rfl rfl (by kernel_rfl) (fun _ _ _ h => h) (Or.inl ⟨by rfl, ?_⟩) ?_ ?_
        rotate_left
        · intro w'
          go_simp
          with_reducible rfl
        rotate_left
        · simp only [Act.put, List.setIfInBounds_toArray, List.set_cons_zero, List.set_cons_succ, i64_w, i32_w]
          rfl
        refine pure_ (i := 12) (N := some 85) (v := ?_) (a' := ?_) #[true, true, true, true, true, true, true, true, true, true, true, true, true, false, false, false, false, false, false, false, false, false, false, false, false, false, false, false, false] rfl rfl (by kernel_rfl) (fun _ _ _ h => h) (Or.inl ⟨by rfl, ?_⟩) ?_ ?_
        rotate_left
        · intro w'
          go_simp
          with_reducible rfl
        rotate_left
        · simp only [Act.put, List.setIfInBounds_toArray, List.set_cons_zero, List.set_cons_succ, i64_w, i32_w]
          rfl
        refine pure_ (i := 13) (N := some 86) (v := ?_) (a' := ?_) #[true, true, true, true, true, true, true, true, true, true, true, true, true, true, false, false, false, false, false, false, false, false, false, false, false, false, false, false, false] rfl rfl (by kernel_rfl) (fun _ _ _ h => h) (Or.inl ⟨by rfl, ?_⟩) ?_ ?_
        rotate_left
        · intro w'
          go_simp
          with_reducible rfl
        rotate_left
        · simp only [Act.put, List.setIfInBounds_toArray, List.set_cons_zero, List.set_cons_succ, i64_w, i32_w]
          rfl
        refine take_ (i := 14) (N := some 87) (v := ?_) (a' := ?_) #[true, true, true, true, true, true, true, true, true, true, true, true, true, true, true, false, false, false, false, false, false, false, false, false, false, false, false, false, false] rfl rfl (by kernel_rfl) (fun _ _ _ h => h) (Or.inl ⟨by rfl, ?_⟩) hHeld ?_ ?_
        rotate_left
        · rintro w' ⟨s0, s1, s2, s3, s4, s5, s6, s7, s8, s9, s10, s11, s12, s13, s14, s15, s16, s17, s18⟩
          go_simp
          with_reducible rfl
        rotate_left
        · simp only [Act.put, List.setIfInBounds_toArray, List.set_cons_zero, List.set_cons_succ, i64_w, i32_w]
          rfl
        refine take_ (i := 15) (N := some 88) (v := ?_) (a' := ?_) #[true, true, true, true, true, true, true, true, true, true, true, true, true, true, true, true, false, false, false, false, false, false, false, false, false, false, false, false, false] rfl rfl (by kernel_rfl) (fun _ _ _ h => h) (Or.inl ⟨by rfl, ?_⟩) hHeld ?_ ?_
        rotate_left
        · rintro w' ⟨s0, s1, s2, s3, s4, s5, s6, s7, s8, s9, s10, s11, s12, s13, s14, s15, s16, s17, s18⟩
          go_simp
          with_reducible rfl
        rotate_left
        · simp only [Act.put, List.setIfInBounds_toArray, List.set_cons_zero, List.set_cons_succ, i64_w, i32_w]
          rfl
        refine one_ (i := 16) (N := some 89) #[true, true, true, true, true, true, true, true, true, true, true, true, true, true, true, true, true, false, false, false, false, false, false, false, false, false, false, false, false] rfl rfl (by kernel_rfl) (by decide) (fun K hK => ?_)
        refine goes_ Try.func17 (by kernel_rfl) rfl #[.agg #[.int .i64 fm.f0, .int .i64 a2, .int .i64 fm.f2, .int .i64 fm.f3, .int .i64 fm.f4.f0, .int .i64 fm.f4.f1, .slice R6 fm.f5.length r6, .slice R7 fm.f6.length r7], .agg #[.int .i64 fm.f0, .int .i64 a2, .int .i64 fm.f2, .int .i64 fm.f3, .int .i64 fm.f4.f0, .int .i64 fm.f4.f1, .slice A6 fm.f5.length c6, .slice A7 fm.f6.length c7]] (by rfl) rfl rfl (by simp only [List.map_toArray, List.map_cons, List.map_nil]; rfl) ?_
        with_reducible refine (backstitchkeep3_sameFrame.calls (fm.f5.length + fm.f6.length + 1) fm.f0 a2 fm.f2 fm.f3 fm.f4.f0 fm.f4.f1 R6 r6 fm.f5 R7 r7 fm.f6 fm.f0 a2 fm.f2 fm.f3 fm.f4.f0 fm.f4.f1 A6 c6 fm.f5 A7 c7 fm.f6 true _ (Kd.C_below HZK.out.1 hHeld.1) zc6 (Kd.C_below HZK.out.2 hHeld.1) zc7 (Kd.C_below HF6e.out (below_step HB.out hHeld.1)) HC67.out.1 (Kd.C_below HF7e.out (below_step HB.out hHeld.1)) HC67.out.2 HSF.out).mono ?_
        rintro e w9 ⟨rfl, hb9⟩
        refine ⟨_, rfl, ?_⟩
        refine hK.out _ _ ⟨below_step hHeld.1 hb9, pw_cell_below hb9 hHeld.2.1, pw_cell_below hb9 hHeld.2.2.1, pw_cell_below hb9 hHeld.2.2.2.1, pw_cell_below hb9 hHeld.2.2.2.2.1, pw_cell_below hb9 hHeld.2.2.2.2.2.1, pw_cell_below hb9 hHeld.2.2.2.2.2.2.1, pw_cell_below hb9 hHeld.2.2.2.2.2.2.2.1, pw_cell_below hb9 hHeld.2.2.2.2.2.2.2.2.1, pw_cell_below hb9 hHeld.2.2.2.2.2.2.2.2.2.1, pw_cell_below hb9 hHeld.2.2.2.2.2.2.2.2.2.2.1, pw_cell_below hb9 hHeld.2.2.2.2.2.2.2.2.2.2.2.1, pw_cell_below hb9 hHeld.2.2.2.2.2.2.2.2.2.2.2.2.1, pw_cell_below hb9 hHeld.2.2.2.2.2.2.2.2.2.2.2.2.2.1, pw_cell_below hb9 hHeld.2.2.2.2.2.2.2.2.2.2.2.2.2.2.1, pw_cell_below hb9 hHeld.2.2.2.2.2.2.2.2.2.2.2.2.2.2.2.1, pw_cell_below hb9 hHeld.2.2.2.2.2.2.2.2.2.2.2.2.2.2.2.2.1, pw_cell_below hb9 hHeld.2.2.2.2.2.2.2.2.2.2.2.2.2.2.2.2.2.1, pw_cell_below hb9 hHeld.2.2.2.2.2.2.2.2.2.2.2.2.2.2.2.2.2.2⟩ (fun hHeld => ?_)
        clear hK K
        refine norm_ (a' := ?_) ?_ ?_
        rotate_left
        · show Act.put _ (some 89) _ = _
          simp only [Act.put, List.setIfInBounds_toArray, List.set_cons_zero, List.set_cons_succ, i64_w, i32_w]
          rfl
        refine pure_ (i := 17) (N := some 90) (v := ?_) (a' := ?_) #[true, true, true, true, true, true, true, true, true, true, true, true, true, true, true, true, true, true, false, false, false, false, false, false, false, false, false, false, false] rfl rfl (by kernel_rfl) (fun _ _ _ h => h) (Or.inl ⟨by rfl, ?_⟩) ?_ ?_
        rotate_left
        · intro w'
          go_simp
          with_reducible rfl
        rotate_left
        · simp only [Act.put, List.setIfInBounds_toArray, List.set_cons_zero, List.set_cons_succ, i64_w, i32_w]
          rfl
        refine pure_ (i := 18) (N := some 91) (v := ?_) (a' := ?_) #[true, true, true, true, true, true, true, true, true, true, true, true, true, true, true, true, true, true, true, false, false, false, false, false, false, false, false, false, false] rfl rfl (by kernel_rfl) (fun _ _ _ h => h) (Or.inl ⟨by rfl, ?_⟩) ?_ ?_
        rotate_left
        · intro w'
          go_simp
          with_reducible rfl
        rotate_left
        · simp only [Act.put, List.setIfInBounds_toArray, List.set_cons_zero, List.set_cons_succ, i64_w, i32_w]
          rfl
        refine pure_ (i := 19) (N := some 92) (v := ?_) (a' := ?_) #[true, true, true, true, true, true, true, true, true, true, true, true, true, true, true, true, true, true, true, true, false, false, false, false, false, false, false, false, false] rfl rfl (by kernel_rfl) (fun _ _ _ h => h) (Or.inl ⟨by rfl, ?_⟩) ?_ ?_
        rotate_left
        · intro w'
          go_simp
          with_reducible rfl
        rotate_left
        · simp only [Act.put, List.setIfInBounds_toArray, List.set_cons_zero, List.set_cons_succ, i64_w, i32_w]
          rfl
        refine pure_ (i := 21) (N := some 94) (v := ?_) (a' := ?_) #[true, true, true, true, true, true, true, true, true, true, true, true, true, true, true, true, true, true, true, true, false, true, false, false, false, false, false, false, false] rfl rfl (by kernel_rfl) (fun _ _ _ h => h) (Or.inl ⟨by rfl, ?_⟩) ?_ ?_
        rotate_left
        · intro w'
          go_simp
          with_reducible rfl
        rotate_left
        · simp only [Act.put, List.setIfInBounds_toArray, List.set_cons_zero, List.set_cons_succ, i64_w, i32_w]
          rfl
        refine pure_ (i := 23) (N := some 96) (v := ?_) (a' := ?_) #[true, true, true, true, true, true, true, true, true, true, true, true, true, true, true, true, true, true, true, true, false, true, false, true, false, false, false, false, false] rfl rfl (by kernel_rfl) (fun _ _ _ h => h) (Or.inl ⟨by rfl, ?_⟩) ?_ ?_
        rotate_left
        · intro w'
          go_simp
          with_reducible rfl
        rotate_left
        · simp only [Act.put, List.setIfInBounds_toArray, List.set_cons_zero, List.set_cons_succ, i64_w, i32_w]
          rfl
        refine take_ (i := 20) (N := some 93) (v := ?_) (a' := ?_) #[true, true, true, true, true, true, true, true, true, true, true, true, true, true, true, true, true, true, true, true, true, true, false, true, false, false, false, false, false] rfl rfl (by kernel_rfl) (fun _ _ _ h => h) (Or.inl ⟨by rfl, ?_⟩) hHeld ?_ ?_
        rotate_left
        · rintro w' ⟨s0, s1, s2, s3, s4, s5, s6, s7, s8, s9, s10, s11, s12, s13, s14, s15, s16, s17, s18⟩
          go_simp
          with_reducible rfl
        rotate_left
        · simp only [Act.put, List.setIfInBounds_toArray, List.set_cons_zero, List.set_cons_succ, i64_w, i32_w]
          rfl
        refine take_ (i := 22) (N := some 95) (v := ?_) (a' := ?_) #[true, true, true, true, true, true, true, true, true, true, true, true, true, true, true, true, true, true, true, true, true, true, true, true, false, false, false, false, false] rfl rfl (by kernel_rfl) (fun _ _ _ h => h) (Or.inl ⟨by rfl, ?_⟩) hHeld ?_ ?_
        rotate_left
        · rintro w' ⟨s0, s1, s2, s3, s4, s5, s6, s7, s8, s9, s10, s11, s12, s13, s14, s15, s16, s17, s18⟩
          go_simp
          with_reducible rfl
        rotate_left
        · simp only [Act.put, List.setIfInBounds_toArray, List.set_cons_zero, List.set_cons_succ, i64_w, i32_w]
          rfl
        refine one_ (i := 24) (N := some 97) #[true, true, true, true, true, true, true, true, true, true, true, true, true, true, true, true, true, true, true, true, true, true, true, true, true, false, false, false, false] rfl rfl (by kernel_rfl) (by decide) (fun K hK => ?_)
        refine goes_ Try.func21 (by kernel_rfl) rfl #[.int .i64 a3, .int .i64 1000] (by rfl) rfl rfl (by simp only [List.map_toArray, List.map_cons, List.map_nil]; rfl) ?_
        with_reducible refine (backstitchref3_Rest.calls a3 1000 q _ HQ.out).mono ?_
        rintro e w6 ⟨rfl, hd⟩
        refine ⟨_, rfl, ?_⟩
        refine hK.out _ _ ⟨below_step hHeld.1 hd.below, pw_cell_below hd.below hHeld.2.1, pw_cell_below hd.below hHeld.2.2.1, pw_cell_below hd.below hHeld.2.2.2.1, pw_cell_below hd.below hHeld.2.2.2.2.1, pw_cell_below hd.below hHeld.2.2.2.2.2.1, pw_cell_below hd.below hHeld.2.2.2.2.2.2.1, pw_cell_below hd.below hHeld.2.2.2.2.2.2.2.1, pw_cell_below hd.below hHeld.2.2.2.2.2.2.2.2.1, pw_cell_below hd.below hHeld.2.2.2.2.2.2.2.2.2.1, pw_cell_below hd.below hHeld.2.2.2.2.2.2.2.2.2.2.1, pw_cell_below hd.below hHeld.2.2.2.2.2.2.2.2.2.2.2.1, pw_cell_below hd.below hHeld.2.2.2.2.2.2.2.2.2.2.2.2.1, pw_cell_below hd.below hHeld.2.2.2.2.2.2.2.2.2.2.2.2.2.1, pw_cell_below hd.below hHeld.2.2.2.2.2.2.2.2.2.2.2.2.2.2.1, pw_cell_below hd.below hHeld.2.2.2.2.2.2.2.2.2.2.2.2.2.2.2.1, pw_cell_below hd.below hHeld.2.2.2.2.2.2.2.2.2.2.2.2.2.2.2.2.1, pw_cell_below hd.below hHeld.2.2.2.2.2.2.2.2.2.2.2.2.2.2.2.2.2.1, pw_cell_below hd.below hHeld.2.2.2.2.2.2.2.2.2.2.2.2.2.2.2.2.2.2⟩ (fun hHeld => ?_)
        clear hK K
        refine norm_ (a' := ?_) ?_ ?_
        rotate_left
        · show Act.put _ (some 97) _ = _
          simp only [Act.put, List.setIfInBounds_toArray, List.set_cons_zero, List.set_cons_succ, i64_w, i32_w]
          rfl
        refine pure_ (i := 25) (N := some 98) (v := ?_) (a' := ?_) #[true, true, true, true, true, true, true, true, true, true, true, true, true, true, true, true, true, true, true, true, true, true, true, true, true, true, false, false, false] rfl rfl (by kernel_rfl) (fun _ _ _ h => h) (Or.inl ⟨by rfl, ?_⟩) ?_ ?_
        rotate_left
        · intro w'
          go_simp
          with_reducible rfl
        rotate_left
        · simp only [Act.put, List.setIfInBounds_toArray, List.set_cons_zero, List.set_cons_succ, i64_w, i32_w]
          rfl
        refine pure_ (i := 26) (N := some 99) (v := ?_) (a' := ?_) #[true, true, true, true, true, true, true, true, true, true, true, true, true, true, true, true, true, true, true, true, true, true, true, true, true, true, true, false, false] rfl rfl (by kernel_rfl) (fun _ _ _ h => h) (Or.inl ⟨by rfl, ?_⟩) ?_ ?_
        rotate_left
        · intro w'
          go_simp
          with_reducible rfl
        rotate_left
        · simp only [Act.put, List.setIfInBounds_toArray, List.set_cons_zero, List.set_cons_succ, i64_w, i32_w]
          rfl
        refine pure_ (i := 27) (N := some 100) (v := ?_) (a' := ?_) #[true, true, true, true, true, true, true, true, true, true, true, true, true, true, true, true, true, true, true, true, true, true, true, true, true, true, true, true, false] rfl rfl (by kernel_rfl) (fun _ _ _ h => h) (Or.inl ⟨by rfl, ?_⟩) ?_ ?_
        rotate_left
        · intro w'
          go_simp
          with_reducible rfl
        rotate_left
        · simp only [Act.put, List.setIfInBounds_toArray, List.set_cons_zero, List.set_cons_succ, i64_w, i32_w]
          rfl
        refine pure_ (i := 28) (N := some 8) (v := ?_) (a' := ?_) #[true, true, true, true, true, true, true, true, true, true, true, true, true, true, true, true, true, true, true, true, true, true, true, true, true, true, true, true, true] rfl rfl (by kernel_rfl) (fun _ _ _ h => h) (Or.inl ⟨by rfl, ?_⟩) ?_ ?_
        rotate_left
        · intro w'
          go_simp
          with_reducible rfl
        rotate_left
        · simp only [Act.put, List.setIfInBounds_toArray, List.set_cons_zero, List.set_cons_succ, i64_w, i32_w]
          rfl
        refine done_ (by kernel_rfl) ?_
        have HB2 := Aside0.mk (below_step HBe.out (below_step HB.out hHeld.1))
        clear hHeld
        go_wp2_with fail
        go_ret
        exact ⟨rfl, HB2.out⟩
end Go.Proofs.Ytchcbncelckgeaa.PM
