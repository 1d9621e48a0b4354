/- Package live, told over plain lists: what is asked, what is good, the spans. -/
import Derived.Test.YtchcbncelckgeaaLvFi
import Derived.Test.YtchcbncelckgeaaPZd
import Derived.Test.YtchcbncelckgeaaPZ2
import Derived.Test.YtchcbncelckgeaaPZ3
set_option linter.unusedVariables false
set_option linter.unusedSimpArgs false
namespace Go.Proofs.Ytchcbncelckgeaa.Lv
open Go.RowKit Go.Proofs.YtchcbncelckgeaaW.PrintWords Go.Proofs.YtchcbncelckgeaaW.PrintLast Go.Proofs.YtchcbncelckgeaaW.PrintMore Go.Proofs.Ytchcbncelckgeaa.PZ Go.Proofs.Ytchcbncelckgeaa.Hnd Go.Lib

/-- An instruction, an exit, a trace, a span. -/
abbrev TI := S103
abbrev TX := S31
abbrev TT := S97
abbrev SP := S105
abbrev TM := S46
def z0 : Int × Int × Int × Bool × Bool × Int × Bool := (0, 0, 0, false, false, 0, false)
/-- The form of an operation. -/
def formL (op : Int) : Int × Int × Int × Bool × Bool × Int × Bool := (ir_of.f op).getD z0
def tellsB (op : Int) : Bool := (formL op).2.2.2.2.1
/-- What an instruction asks. -/
def asksL (x : TI) : List Int := [x.f1, x.f2, x.f3].take (formL x.f0).1.toNat
theorem of_dec {r : Int × Int × Int × Bool × Bool × Int × Bool} (h : decide (0 ≤ r.1 ∧ r.1 ≤ 3 ∧ (r.2.2.2.2.2.2 = false → r.1 = 0)) = true) : 0 ≤ r.1 ∧ r.1 ≤ 3 ∧ (r.2.2.2.2.2.2 = false → r.1 = 0) := of_decide_eq_true h
theorem of_ex (op : Int) : ∃ r, ir_of.f op = some r ∧ 0 ≤ r.1 ∧ r.1 ≤ 3 ∧ (r.2.2.2.2.2.2 = false → r.1 = 0) := by
  unfold ir_of.f
  by_cases h1 : op = 1
  · exact ⟨_, if_pos h1, of_dec rfl⟩
  rw [if_neg h1]
  by_cases h2 : op = 2
  · exact ⟨_, if_pos h2, of_dec rfl⟩
  rw [if_neg h2]
  by_cases h3 : op = 3
  · exact ⟨_, if_pos h3, of_dec rfl⟩
  rw [if_neg h3]
  by_cases h4 : op = 4
  · exact ⟨_, if_pos h4, of_dec rfl⟩
  rw [if_neg h4]
  by_cases h5 : op = 5
  · exact ⟨_, if_pos h5, of_dec rfl⟩
  rw [if_neg h5]
  by_cases h6 : op = 6
  · exact ⟨_, if_pos h6, of_dec rfl⟩
  rw [if_neg h6]
  by_cases h7 : op = 7
  · exact ⟨_, if_pos h7, of_dec rfl⟩
  rw [if_neg h7]
  by_cases h8 : op = 8
  · exact ⟨_, if_pos h8, of_dec rfl⟩
  rw [if_neg h8]
  by_cases h9 : op = 9
  · exact ⟨_, if_pos h9, of_dec rfl⟩
  rw [if_neg h9]
  by_cases h10 : op = 10
  · exact ⟨_, if_pos h10, of_dec rfl⟩
  rw [if_neg h10]
  by_cases h11 : op = 11
  · exact ⟨_, if_pos h11, of_dec rfl⟩
  rw [if_neg h11]
  by_cases h12 : op = 12
  · exact ⟨_, if_pos h12, of_dec rfl⟩
  rw [if_neg h12]
  by_cases h13 : op = 13
  · exact ⟨_, if_pos h13, of_dec rfl⟩
  rw [if_neg h13]
  by_cases h14 : op = 14
  · exact ⟨_, if_pos h14, of_dec rfl⟩
  rw [if_neg h14]
  by_cases h15 : op = 15
  · exact ⟨_, if_pos h15, of_dec rfl⟩
  rw [if_neg h15]
  by_cases h16 : op = 16
  · exact ⟨_, if_pos h16, of_dec rfl⟩
  rw [if_neg h16]
  by_cases h17 : op = 17
  · exact ⟨_, if_pos h17, of_dec rfl⟩
  rw [if_neg h17]
  by_cases h18 : op = 18
  · exact ⟨_, if_pos h18, of_dec rfl⟩
  rw [if_neg h18]
  by_cases h19 : op = 19
  · exact ⟨_, if_pos h19, of_dec rfl⟩
  rw [if_neg h19]
  exact ⟨_, rfl, of_dec rfl⟩
theorem form_some (op : Int) : ir_of.f op = some (formL op) ∧ 0 ≤ (formL op).1 ∧ (formL op).1 ≤ 3 ∧ ((formL op).2.2.2.2.2.2 = false → (formL op).1 = 0) := by
  obtain ⟨r, h, h1⟩ := of_ex op
  have e : formL op = r := by unfold formL; rw [h]; rfl
  rw [e]
  exact ⟨h, h1⟩
theorem tells_f (op : Int) : ir_Tells.f op = some (tellsB op) := by
  unfold ir_Tells.f tellsB
  rw [(form_some op).1]
  rfl
theorem asksR_f (x : TI) : ∃ k, backstitchref3_Asks.f k x.f0 x.f1 x.f2 x.f3 x.f4 x.f5 x.f6.f0 x.f6.f1 = some (asksL x) := by
  refine ⟨3, ?_⟩
  unfold asksL formL ir_of.f backstitchref3_Asks.f
  generalize x.f0 = op
  by_cases h1 : op = 1
  · subst h1; simp [backstitchref3_Asks.j0, backstitchref3_Asks.j1]
  by_cases h2 : op = 2
  · subst h2; simp [backstitchref3_Asks.j0, backstitchref3_Asks.j1]
  by_cases h3 : op = 3
  · subst h3; simp [backstitchref3_Asks.j0, backstitchref3_Asks.j1]
  by_cases h4 : op = 4
  · subst h4; simp [backstitchref3_Asks.j0, backstitchref3_Asks.j1]
  by_cases h5 : op = 5
  · subst h5; simp [backstitchref3_Asks.j0, backstitchref3_Asks.j1]
  by_cases h6 : op = 6
  · subst h6; simp [backstitchref3_Asks.j0, backstitchref3_Asks.j1]
  by_cases h7 : op = 7
  · subst h7; simp [backstitchref3_Asks.j0, backstitchref3_Asks.j1]
  by_cases h8 : op = 8
  · subst h8; simp [backstitchref3_Asks.j0, backstitchref3_Asks.j1]
  by_cases h9 : op = 9
  · subst h9; simp [backstitchref3_Asks.j0, backstitchref3_Asks.j1]
  by_cases h10 : op = 10
  · subst h10; simp [backstitchref3_Asks.j0, backstitchref3_Asks.j1]
  by_cases h11 : op = 11
  · subst h11; simp [backstitchref3_Asks.j0, backstitchref3_Asks.j1]
  by_cases h12 : op = 12
  · subst h12; simp [backstitchref3_Asks.j0, backstitchref3_Asks.j1]
  by_cases h13 : op = 13
  · subst h13; simp [backstitchref3_Asks.j0, backstitchref3_Asks.j1]
  by_cases h14 : op = 14
  · subst h14; simp [backstitchref3_Asks.j0, backstitchref3_Asks.j1]
  by_cases h15 : op = 15
  · subst h15; simp [backstitchref3_Asks.j0, backstitchref3_Asks.j1]
  by_cases h16 : op = 16
  · subst h16; simp [backstitchref3_Asks.j0, backstitchref3_Asks.j1]
  by_cases h17 : op = 17
  · subst h17; simp [backstitchref3_Asks.j0, backstitchref3_Asks.j1]
  by_cases h18 : op = 18
  · subst h18; simp [backstitchref3_Asks.j0, backstitchref3_Asks.j1]
  by_cases h19 : op = 19
  · subst h19; simp [backstitchref3_Asks.j0, backstitchref3_Asks.j1]
  simp [backstitchref3_Asks.j0, backstitchref3_Asks.j1, *, z0]
/-- What an exit names. -/
def makesL (l : List TM) : List Int := l.flatMap (fun m => m.f0 :: m.f3)
def valuesL (x : TX) : List Int := x.f2.map (·.f1) ++ makesL x.f3
/-- A measure of an exit. -/
def bigX (x : TX) : Nat := x.f2.length + (x.f3.map (fun m => m.f3.length + 2)).sum
theorem makesL_len (l : List TM) : (makesL l).length ≤ (l.map (fun m => m.f3.length + 2)).sum := by
  induction l with
  | nil => simp [makesL]
  | cons m l ih =>
    unfold makesL at ih ⊢
    rw [List.flatMap_cons, List.length_append, List.map_cons, List.sum_cons, List.length_cons]
    omega
theorem makes_len (l : List TM) : 2 * l.length ≤ (l.map (fun m => m.f3.length + 2)).sum := by
  induction l with
  | nil => simp
  | cons m l ih => rw [List.map_cons, List.sum_cons, List.length_cons]; omega
theorem valuesL_len (x : TX) : (valuesL x).length ≤ bigX x := by
  unfold valuesL bigX
  rw [List.length_append, List.length_map]
  exact Nat.add_le_add (Nat.le_refl _) (makesL_len x.f3)
theorem valsV_l1 (ms : List TM) (hz : (ms.map (fun m => m.f3.length + 2)).sum ≤ 2000000) : ∀ (d i : Nat), ms.length - i = d → i ≤ ms.length → ∀ (out : List Int) (k : Nat), d < k → out.length ≤ 4000000 + (makesL (ms.take i)).length → live_Values.l1 k out ms (ms.length : Int) (i : Int) = some (out ++ makesL (ms.drop i)) := by
  have hl := makes_len ms
  have hm := makesL_len ms
  intro d
  induction d with
  | zero =>
    intro i hd hi out k hk ho
    obtain ⟨k, rfl⟩ : ∃ m, k = m + 1 := ⟨k - 1, by omega⟩
    have e : i = ms.length := by omega
    subst e
    simp only [live_Values.l1]
    rw [if_neg (by omega), List.drop_length]
    simp [makesL]
  | succ d ih =>
    intro i hd hi out k hk ho
    obtain ⟨k, rfl⟩ : ∃ m, k = m + 1 := ⟨k - 1, by omega⟩
    have hlt : i < ms.length := by omega
    have hrd : rd_T46 ms (i : Int) = ms[i] := by unfold rd_T46; rw [Int.toNat_natCast, List.getD_eq_getElem?_getD, List.getElem?_eq_getElem hlt]; rfl
    have hsp : makesL ms = makesL (ms.take i) ++ ((ms[i].f0 :: ms[i].f3) ++ makesL (ms.drop (i + 1))) := by
      have e : ms = ms.take i ++ (ms[i] :: ms.drop (i + 1)) := by rw [← List.drop_eq_getElem_cons hlt, List.take_append_drop]
      have e2 : makesL ms = makesL (ms.take i ++ (ms[i] :: ms.drop (i + 1))) := by rw [← e]
      rw [e2]
      unfold makesL
      rw [List.flatMap_append, List.flatMap_cons]
    have hle := congrArg List.length hsp
    rw [List.length_append, List.length_append, List.length_cons] at hle
    simp only [live_Values.l1]
    rw [hrd, if_pos (by omega), if_pos (by omega), if_pos (by omega), if_pos (by omega)]
    simp only [Option.bind_some]
    rw [if_pos (by rw [List.length_append, List.length_cons, List.length_nil]; omega)]
    have ht : makesL (ms.take (i + 1)) = makesL (ms.take i) ++ (ms[i].f0 :: ms[i].f3) := by
      rw [List.take_succ_eq_append_getElem hlt]
      unfold makesL
      rw [List.flatMap_append, List.flatMap_cons, List.flatMap_nil, List.append_nil]
    rw [show wrap64 ((i : Int) + 1) = ((i + 1 : Nat) : Int) from by unfold wrap64; omega, ih (i + 1) (by omega) (by omega) _ k (by omega) (by rw [ht]; simp only [List.length_append, List.length_cons, List.length_nil]; omega)]
    rw [List.drop_eq_getElem_cons hlt]
    unfold makesL
    rw [List.flatMap_cons]
    simp
theorem valsV_l0 (ss : List S34) (ms : List TM) (hz : (ms.map (fun m => m.f3.length + 2)).sum ≤ 2000000) (hs : ss.length ≤ 2000000) (a b : Int) : ∀ (d i : Nat), ss.length - i = d → i ≤ ss.length → ∀ (out : List Int) (k : Nat), d + ms.length + 1 < k → out.length ≤ i → live_Values.l0 k out ss (ss.length : Int) (i : Int) a b ss ms = some (out ++ ((ss.drop i).map (·.f1) ++ makesL ms)) := by
  intro d
  induction d with
  | zero =>
    intro i hd hi out k hk ho
    obtain ⟨k, rfl⟩ : ∃ m, k = m + 1 := ⟨k - 1, by omega⟩
    have e : i = ss.length := by omega
    subst e
    simp only [live_Values.l0]
    rw [if_neg (by omega), show (0 : Int) = ((0 : Nat) : Int) from rfl, valsV_l1 ms hz ms.length 0 (by omega) (by omega) out k (by omega) (by omega), List.drop_length]
    simp
  | succ d ih =>
    intro i hd hi out k hk ho
    obtain ⟨k, rfl⟩ : ∃ m, k = m + 1 := ⟨k - 1, by omega⟩
    have hlt : i < ss.length := by omega
    have hrd : rd_T34 ss (i : Int) = ss[i] := by unfold rd_T34; rw [Int.toNat_natCast, List.getD_eq_getElem?_getD, List.getElem?_eq_getElem hlt]; rfl
    simp only [live_Values.l0]
    rw [hrd, if_pos (by omega), if_pos (by omega), if_pos (by omega), if_pos (by omega)]
    rw [show wrap64 ((i : Int) + 1) = ((i + 1 : Nat) : Int) from by unfold wrap64; omega, ih (i + 1) (by omega) (by omega) _ k (by omega) (by rw [List.length_append, List.length_cons, List.length_nil]; omega)]
    rw [List.drop_eq_getElem_cons hlt, List.map_cons]
    simp
theorem valsV_f (x : TX) (hz : bigX x ≤ 2000000) : ∃ k, live_Values.f k x.f0 x.f1 x.f2 x.f3 = some (valuesL x) := by
  refine ⟨x.f2.length + x.f3.length + 2, ?_⟩
  unfold live_Values.f
  have h1 : (x.f3.map (fun m => m.f3.length + 2)).sum ≤ 2000000 := Nat.le_trans (Nat.le_add_left _ _) hz
  have h2 : x.f2.length ≤ 2000000 := Nat.le_trans (Nat.le_add_right _ _) hz
  have h := valsV_l0 x.f2 x.f3 h1 h2 x.f0 x.f1 x.f2.length 0 (by omega) (by omega) [] (x.f2.length + x.f3.length + 2) (by omega) (by simp)
  rw [show ((0 : Nat) : Int) = 0 from rfl] at h
  rw [h, List.drop_zero]
  rfl
theorem valsR_l1 (ms : List TM) (hz : (ms.map (fun m => m.f3.length + 2)).sum ≤ 2000000) : ∀ (d i : Nat), ms.length - i = d → i ≤ ms.length → ∀ (out : List Int) (k : Nat), d < k → out.length ≤ 4000000 + (makesL (ms.take i)).length → backstitchref3_Values.l1 k out ms (ms.length : Int) (i : Int) = some (out ++ makesL (ms.drop i)) := by
  have hl := makes_len ms
  have hm := makesL_len ms
  intro d
  induction d with
  | zero =>
    intro i hd hi out k hk ho
    obtain ⟨k, rfl⟩ : ∃ m, k = m + 1 := ⟨k - 1, by omega⟩
    have e : i = ms.length := by omega
    subst e
    simp only [backstitchref3_Values.l1]
    rw [if_neg (by omega), List.drop_length]
    simp [makesL]
  | succ d ih =>
    intro i hd hi out k hk ho
    obtain ⟨k, rfl⟩ : ∃ m, k = m + 1 := ⟨k - 1, by omega⟩
    have hlt : i < ms.length := by omega
    have hrd : rd_T46 ms (i : Int) = ms[i] := by unfold rd_T46; rw [Int.toNat_natCast, List.getD_eq_getElem?_getD, List.getElem?_eq_getElem hlt]; rfl
    have hsp : makesL ms = makesL (ms.take i) ++ ((ms[i].f0 :: ms[i].f3) ++ makesL (ms.drop (i + 1))) := by
      have e : ms = ms.take i ++ (ms[i] :: ms.drop (i + 1)) := by rw [← List.drop_eq_getElem_cons hlt, List.take_append_drop]
      have e2 : makesL ms = makesL (ms.take i ++ (ms[i] :: ms.drop (i + 1))) := by rw [← e]
      rw [e2]
      unfold makesL
      rw [List.flatMap_append, List.flatMap_cons]
    have hle := congrArg List.length hsp
    rw [List.length_append, List.length_append, List.length_cons] at hle
    simp only [backstitchref3_Values.l1]
    rw [hrd, if_pos (by omega), if_pos (by omega), if_pos (by omega), if_pos (by omega)]
    simp only [Option.bind_some]
    rw [if_pos (by rw [List.length_append, List.length_cons, List.length_nil]; omega)]
    have ht : makesL (ms.take (i + 1)) = makesL (ms.take i) ++ (ms[i].f0 :: ms[i].f3) := by
      rw [List.take_succ_eq_append_getElem hlt]
      unfold makesL
      rw [List.flatMap_append, List.flatMap_cons, List.flatMap_nil, List.append_nil]
    rw [show wrap64 ((i : Int) + 1) = ((i + 1 : Nat) : Int) from by unfold wrap64; omega, ih (i + 1) (by omega) (by omega) _ k (by omega) (by rw [ht]; simp only [List.length_append, List.length_cons, List.length_nil]; omega)]
    rw [List.drop_eq_getElem_cons hlt]
    unfold makesL
    rw [List.flatMap_cons]
    simp
theorem valsR_l0 (ss : List S34) (ms : List TM) (hz : (ms.map (fun m => m.f3.length + 2)).sum ≤ 2000000) (hs : ss.length ≤ 2000000) (a b : Int) : ∀ (d i : Nat), ss.length - i = d → i ≤ ss.length → ∀ (out : List Int) (k : Nat), d + ms.length + 1 < k → out.length ≤ i → backstitchref3_Values.l0 k out ss (ss.length : Int) (i : Int) a b ss ms = some (out ++ ((ss.drop i).map (·.f1) ++ makesL ms)) := by
  intro d
  induction d with
  | zero =>
    intro i hd hi out k hk ho
    obtain ⟨k, rfl⟩ : ∃ m, k = m + 1 := ⟨k - 1, by omega⟩
    have e : i = ss.length := by omega
    subst e
    simp only [backstitchref3_Values.l0]
    rw [if_neg (by omega), show (0 : Int) = ((0 : Nat) : Int) from rfl, valsR_l1 ms hz ms.length 0 (by omega) (by omega) out k (by omega) (by omega), List.drop_length]
    simp
  | succ d ih =>
    intro i hd hi out k hk ho
    obtain ⟨k, rfl⟩ : ∃ m, k = m + 1 := ⟨k - 1, by omega⟩
    have hlt : i < ss.length := by omega
    have hrd : rd_T34 ss (i : Int) = ss[i] := by unfold rd_T34; rw [Int.toNat_natCast, List.getD_eq_getElem?_getD, List.getElem?_eq_getElem hlt]; rfl
    simp only [backstitchref3_Values.l0]
    rw [hrd, if_pos (by omega), if_pos (by omega), if_pos (by omega), if_pos (by omega)]
    rw [show wrap64 ((i : Int) + 1) = ((i + 1 : Nat) : Int) from by unfold wrap64; omega, ih (i + 1) (by omega) (by omega) _ k (by omega) (by rw [List.length_append, List.length_cons, List.length_nil]; omega)]
    rw [List.drop_eq_getElem_cons hlt, List.map_cons]
    simp
theorem valsR_f (x : TX) (hz : bigX x ≤ 2000000) : ∃ k, backstitchref3_Values.f k x.f0 x.f1 x.f2 x.f3 = some (valuesL x) := by
  refine ⟨x.f2.length + x.f3.length + 2, ?_⟩
  unfold backstitchref3_Values.f
  have h1 : (x.f3.map (fun m => m.f3.length + 2)).sum ≤ 2000000 := Nat.le_trans (Nat.le_add_left _ _) hz
  have h2 : x.f2.length ≤ 2000000 := Nat.le_trans (Nat.le_add_right _ _) hz
  have h := valsR_l0 x.f2 x.f3 h1 h2 x.f0 x.f1 x.f2.length 0 (by omega) (by omega) [] (x.f2.length + x.f3.length + 2) (by omega) (by simp)
  rw [show ((0 : Nat) : Int) = 0 from rfl] at h
  rw [h, List.drop_zero]
  rfl
/-- Is it no value of an instruction ahead of a place? -/
def badV (ins : List TI) (at_ v : Int) : Bool := if v < 0 then true else if at_ ≤ v then true else if (ins.length : Int) ≤ v then true else !tellsB (rd_T103 ins v).f0
def allB (ins : List TI) (l : List Int) (at_ : Int) : Bool := !(l.any (badV ins at_))
def largeM (m : TM) : Bool := decide ((m.f3.length : Int) > 100)
def largeB (x : TX) : Bool := if (x.f2.length : Int) > 60 then true else if (x.f3.length : Int) > 300 then true else x.f3.any largeM
def knownB (op : Int) : Bool := if op ≥ 1 then decide (op < 20) else false
theorem known_f (op : Int) : live_known.f op = some (knownB op) := by unfold live_known.f knownB; split <;> rfl
/-- Is an instruction well? -/
def oneB (ins : List TI) (exs : List TX) (i : Int) : Bool := knownB (rd_T103 ins i).f0 && (allB ins (asksL (rd_T103 ins i)) i && (decide (-1 ≤ (rd_T103 ins i).f5) && (decide ((rd_T103 ins i).f5 < (exs.length : Int)) && (if 0 ≤ (rd_T103 ins i).f5 then allB ins (valuesL (rd_T31 exs (rd_T103 ins i).f5)) i else true))))
/-- Is a trace well? -/
structure GoodT (lp : Int) (ins : List TI) (exs : List TX) (tu ba : TX) : Prop where
  n : ins.length ≤ 300
  e : exs.length ≤ 200
  lo : 0 ≤ lp
  hi : lp ≤ (ins.length : Int)
  one : ∀ i : Nat, i < ins.length → oneB ins exs (i : Int) = true
  tr : 0 < lp → allB ins (valuesL tu) lp = true
  ex : ∀ x ∈ ba :: exs, allB ins (valuesL x) (ins.length : Int) = true
  la : ∀ x ∈ (ba :: exs) ++ [tu], largeB x = false
end Go.Proofs.Ytchcbncelckgeaa.Lv
