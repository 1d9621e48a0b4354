/- Package order, told over plain lists. -/
import Derived.Test.YtecaemebamhamaaLvFi
import Derived.Test.YtecaemebamhamaaPOd
import Derived.Test.YtecaemebamhamaaPO1
import Derived.Test.YtecaemebamhamaaPO1
import Derived.Test.YtecaemebamhamaaPO2
import Derived.Test.YtecaemebamhamaaPO2
set_option linter.unusedVariables false
set_option linter.unusedSimpArgs false
namespace Go.Proofs.Ytecaemebamhamaa.Lv
open Go.RowKit Go.Proofs.YtecaemebamhamaaW.PrintWords Go.Proofs.YtecaemebamhamaaW.PrintLast Go.Proofs.YtecaemebamhamaaW.PrintMore Go.Proofs.Ytecaemebamhamaa.PO Go.Proofs.Ytecaemebamhamaa.Hnd Go.Lib

/-- An order, an exit, a make, a place, code. -/
abbrev RO := S37
abbrev RX := S27
abbrev RM := S118
abbrev RP := S59
abbrev RC := S29
abbrev Fo := ByteArray × Bool × Int × Int × Bool × Bool × Int × Bool
def zF : Fo := (⟨#[]⟩, false, 0, 0, false, false, 0, false)
/-- The form of an order. -/
def formO (op : Int) : Fo := (order_of.f op).getD zF
/-- What a form says of itself. -/
def okF (r : Fo) : Bool := decide (r.1.data.toList.length ≤ 3) && r.1.data.toList.all (fun b => decide (65 ≤ b.toNat ∧ b.toNat ≤ 67)) && (r.2.2.2.2.2.2.2 || (decide (r.1.data.toList.length = 0) && !r.2.1)) && decide (0 ≤ r.2.2.2.2.2.2.1 ∧ r.2.2.2.2.2.2.1 ≤ 2)
theorem heap_ex (op : Int) : ∃ r, order_ofHeap.f op = some r ∧ okF r = true := by
  unfold order_ofHeap.f
  by_cases h13 : op = 13
  · exact ⟨_, if_pos h13, by decide⟩
  rw [if_neg h13]
  by_cases h14 : op = 14
  · exact ⟨_, if_pos h14, by decide⟩
  rw [if_neg h14]
  by_cases h15 : op = 15
  · exact ⟨_, if_pos h15, by decide⟩
  rw [if_neg h15]
  by_cases h16 : op = 16
  · exact ⟨_, if_pos h16, by decide⟩
  rw [if_neg h16]
  by_cases h17 : op = 17
  · exact ⟨_, if_pos h17, by decide⟩
  rw [if_neg h17]
  by_cases h18 : op = 18
  · exact ⟨_, if_pos h18, by decide⟩
  rw [if_neg h18]
  by_cases h19 : op = 19
  · exact ⟨_, if_pos h19, by decide⟩
  rw [if_neg h19]
  by_cases h20 : op = 20
  · exact ⟨_, if_pos h20, by decide⟩
  rw [if_neg h20]
  by_cases h21 : op = 21
  · exact ⟨_, if_pos h21, by decide⟩
  rw [if_neg h21]
  by_cases h22 : op = 22
  · exact ⟨_, if_pos h22, by decide⟩
  rw [if_neg h22]
  exact ⟨_, rfl, by decide⟩
theorem of_ex (op : Int) : ∃ r, order_of.f op = some r ∧ okF r = true := by
  unfold order_of.f
  by_cases h1 : op = 1
  · exact ⟨_, if_pos h1, by decide⟩
  rw [if_neg h1]
  by_cases h2 : op = 2
  · exact ⟨_, if_pos h2, by decide⟩
  rw [if_neg h2]
  by_cases h3 : op = 3
  · exact ⟨_, if_pos h3, by decide⟩
  rw [if_neg h3]
  by_cases h4 : op = 4
  · exact ⟨_, if_pos h4, by decide⟩
  rw [if_neg h4]
  by_cases h5 : op = 5
  · exact ⟨_, if_pos h5, by decide⟩
  rw [if_neg h5]
  by_cases h6 : op = 6
  · exact ⟨_, if_pos h6, by decide⟩
  rw [if_neg h6]
  by_cases h7 : op = 7
  · exact ⟨_, if_pos h7, by decide⟩
  rw [if_neg h7]
  by_cases h8 : op = 8
  · exact ⟨_, if_pos h8, by decide⟩
  rw [if_neg h8]
  by_cases h9 : op = 9
  · exact ⟨_, if_pos h9, by decide⟩
  rw [if_neg h9]
  by_cases h10 : op = 10
  · exact ⟨_, if_pos h10, by decide⟩
  rw [if_neg h10]
  by_cases h11 : op = 11
  · exact ⟨_, if_pos h11, by decide⟩
  rw [if_neg h11]
  by_cases h12 : op = 12
  · exact ⟨_, if_pos h12, by decide⟩
  rw [if_neg h12]
  obtain ⟨r, h, hr⟩ := heap_ex op
  rw [h]
  exact ⟨_, rfl, hr⟩
theorem form_some (op : Int) : order_of.f op = some (formO op) ∧ okF (formO op) = true := by
  obtain ⟨r, h, h1⟩ := of_ex op
  have e : formO op = r := by unfold formO; rw [h]; rfl
  rw [e]
  exact ⟨h, h1⟩
/-- A field of an order, by its number. -/
def fieldO (x : RO) (i : Nat) : Int := match i with | 0 => x.f1 | 1 => x.f2 | _ => x.f3
/-- What an order reads. -/
def readsL (x : RO) : List Int := (formO x.f0).1.data.toList.map (fun b => fieldO x (b.toNat - 65))
def writesO (x : RO) : Int := if (formO x.f0).2.1 = true then x.f1 else -1
theorem writes_f (x : RO) : order_Writes.f x.f0 x.f1 x.f2 x.f3 x.f4 x.f5 x.f6.f0 x.f6.f1 = some (writesO x) := by
  unfold order_Writes.f writesO
  rw [(form_some x.f0).1]
  simp only [Option.bind_some]
  split <;> rfl
def isRegB (n : Int) : Bool := if n ≥ 0 then decide (n < 8) else false
theorem isReg_f (n : Int) : order_isReg.f n = some (isRegB n) := by unfold order_isReg.f isRegB; split <;> rfl
/-- Is a place written? -/
def hasB (regs slots : List Bool) (p : RP) : Bool := if p.f1 = -1 ∧ 0 ≤ p.f0 ∧ p.f0 < 8 then regs.getD p.f0.toNat false else if p.f0 = -1 ∧ 0 ≤ p.f1 ∧ p.f1 < (slots.length : Int) then slots.getD p.f1.toNat false else false
/-- Places of an exit. -/
def makesP (l : List RM) : List RP := l.flatMap (fun m => m.f0 :: m.f3)
def placesL (x : RX) : List RP := x.f2.map (·.f1) ++ makesP x.f3
def bigX (x : RX) : Nat := x.f2.length + (x.f3.map (fun m => m.f3.length + 2)).sum
theorem makesP_len (l : List RM) : (makesP l).length ≤ (l.map (fun m => m.f3.length + 2)).sum := by
  induction l with
  | nil => simp [makesP]
  | cons m l ih =>
    unfold makesP at ih ⊢
    rw [List.flatMap_cons, List.length_append, List.map_cons, List.sum_cons, List.length_cons]
    omega
theorem makes_len (l : List RM) : 2 * l.length ≤ (l.map (fun m => m.f3.length + 2)).sum := by
  induction l with
  | nil => simp
  | cons m l ih => rw [List.map_cons, List.sum_cons, List.length_cons]; omega
theorem placesL_len (x : RX) : (placesL x).length ≤ bigX x := by
  unfold placesL bigX
  rw [List.length_append, List.length_map]
  exact Nat.add_le_add (Nat.le_refl _) (makesP_len x.f3)
theorem places_l1 (ms : List RM) (hz : (ms.map (fun m => m.f3.length + 2)).sum ≤ 2000000) : ∀ (d i : Nat), ms.length - i = d → i ≤ ms.length → ∀ (out : List RP) (k : Nat), d < k → out.length ≤ 4000000 + (makesP (ms.take i)).length → order_Places.l1 k out ms (ms.length : Int) (i : Int) = some (out ++ makesP (ms.drop i)) := by
  have hl := makes_len ms
  have hm := makesP_len ms
  intro d
  induction d with
  | zero =>
    intro i hd hi out k hk ho
    obtain ⟨k, rfl⟩ : ∃ m, k = m + 1 := ⟨k - 1, by omega⟩
    have e : i = ms.length := by omega
    subst e
    simp only [order_Places.l1]
    rw [if_neg (by omega), List.drop_length]
    simp [makesP]
  | succ d ih =>
    intro i hd hi out k hk ho
    obtain ⟨k, rfl⟩ : ∃ m, k = m + 1 := ⟨k - 1, by omega⟩
    have hlt : i < ms.length := by omega
    have hrd : rd_T118 ms (i : Int) = ms[i] := by unfold rd_T118; rw [Int.toNat_natCast, List.getD_eq_getElem?_getD, List.getElem?_eq_getElem hlt]; rfl
    have hsp : makesP ms = makesP (ms.take i) ++ ((ms[i].f0 :: ms[i].f3) ++ makesP (ms.drop (i + 1))) := by
      have e : ms = ms.take i ++ (ms[i] :: ms.drop (i + 1)) := by rw [← List.drop_eq_getElem_cons hlt, List.take_append_drop]
      have e2 : makesP ms = makesP (ms.take i ++ (ms[i] :: ms.drop (i + 1))) := by rw [← e]
      rw [e2]
      unfold makesP
      rw [List.flatMap_append, List.flatMap_cons]
    have hle := congrArg List.length hsp
    rw [List.length_append, List.length_append, List.length_cons] at hle
    simp only [order_Places.l1]
    rw [hrd, if_pos (by omega), if_pos (by omega), if_pos (by omega), if_pos (by omega)]
    simp only [Option.bind_some]
    rw [if_pos (by rw [List.length_append, List.length_cons, List.length_nil]; omega)]
    have ht : makesP (ms.take (i + 1)) = makesP (ms.take i) ++ (ms[i].f0 :: ms[i].f3) := by
      rw [List.take_succ_eq_append_getElem hlt]
      unfold makesP
      rw [List.flatMap_append, List.flatMap_cons, List.flatMap_nil, List.append_nil]
    rw [show wrap64 ((i : Int) + 1) = ((i + 1 : Nat) : Int) from by unfold wrap64; omega, ih (i + 1) (by omega) (by omega) _ k (by omega) (by rw [ht]; simp only [List.length_append, List.length_cons, List.length_nil]; omega)]
    rw [List.drop_eq_getElem_cons hlt]
    unfold makesP
    rw [List.flatMap_cons]
    simp
theorem places_l0 (ss : List S126) (ms : List RM) (hz : (ms.map (fun m => m.f3.length + 2)).sum ≤ 2000000) (hs : ss.length ≤ 2000000) (a b : Int) : ∀ (d i : Nat), ss.length - i = d → i ≤ ss.length → ∀ (out : List RP) (k : Nat), d + ms.length + 1 < k → out.length ≤ i → order_Places.l0 k out ss (ss.length : Int) (i : Int) a b ss ms = some (out ++ ((ss.drop i).map (·.f1) ++ makesP ms)) := by
  intro d
  induction d with
  | zero =>
    intro i hd hi out k hk ho
    obtain ⟨k, rfl⟩ : ∃ m, k = m + 1 := ⟨k - 1, by omega⟩
    have e : i = ss.length := by omega
    subst e
    simp only [order_Places.l0]
    rw [if_neg (by omega), show (0 : Int) = ((0 : Nat) : Int) from rfl, places_l1 ms hz ms.length 0 (by omega) (by omega) out k (by omega) (by omega), List.drop_length]
    simp
  | succ d ih =>
    intro i hd hi out k hk ho
    obtain ⟨k, rfl⟩ : ∃ m, k = m + 1 := ⟨k - 1, by omega⟩
    have hlt : i < ss.length := by omega
    have hrd : rd_T126 ss (i : Int) = ss[i] := by unfold rd_T126; rw [Int.toNat_natCast, List.getD_eq_getElem?_getD, List.getElem?_eq_getElem hlt]; rfl
    simp only [order_Places.l0]
    rw [hrd, if_pos (by omega), if_pos (by omega), if_pos (by omega), if_pos (by omega)]
    rw [show wrap64 ((i : Int) + 1) = ((i + 1 : Nat) : Int) from by unfold wrap64; omega, ih (i + 1) (by omega) (by omega) _ k (by omega) (by rw [List.length_append, List.length_cons, List.length_nil]; omega)]
    rw [List.drop_eq_getElem_cons hlt, List.map_cons]
    simp
theorem places_f (x : RX) (hz : bigX x ≤ 2000000) : ∃ k, order_Places.f k x.f0 x.f1 x.f2 x.f3 = some (placesL x) := by
  refine ⟨x.f2.length + x.f3.length + 2, ?_⟩
  unfold order_Places.f
  have h1 : (x.f3.map (fun m => m.f3.length + 2)).sum ≤ 2000000 := Nat.le_trans (Nat.le_add_left _ _) hz
  have h2 : x.f2.length ≤ 2000000 := Nat.le_trans (Nat.le_add_right _ _) hz
  have h := places_l0 x.f2 x.f3 h1 h2 x.f0 x.f1 x.f2.length 0 (by omega) (by omega) [] (x.f2.length + x.f3.length + 2) (by omega) (by simp)
  rw [show ((0 : Nat) : Int) = 0 from rfl] at h
  rw [h, List.drop_zero]
  rfl
def allW (regs slots : List Bool) (x : RX) : Bool := !((placesL x).any (fun p => !hasB regs slots p))
def largeM (m : RM) : Bool := decide ((m.f3.length : Int) > 100)
def largeB (x : RX) : Bool := if (x.f2.length : Int) > 60 then true else if (x.f3.length : Int) > 300 then true else x.f3.any largeM
def bareB (x : RX) : Bool := if x.f0 = 0 then (if x.f1 = 0 then (if (x.f2.length : Int) = 0 then ((x.f3.length : Int) == 0) else false) else false) else false
theorem bare_f (x : RX) : order_bare.f x.f0 x.f1 x.f2 x.f3 = some (bareB x) := by
  unfold order_bare.f bareB
  repeat' split
  all_goals rfl
end Go.Proofs.Ytecaemebamhamaa.Lv
