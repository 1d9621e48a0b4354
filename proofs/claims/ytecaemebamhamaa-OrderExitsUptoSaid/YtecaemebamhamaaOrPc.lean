/- Package order, told over plain lists: formed, Check. -/
import Derived.Test.YtecaemebamhamaaOrOd
set_option linter.unusedVariables false
set_option linter.unusedSimpArgs false
namespace Go.Proofs.Ytecaemebamhamaa.Lv
open Go.RowKit Go.Proofs.YtecaemebamhamaaW.PrintWords Go.Proofs.YtecaemebamhamaaW.PrintLast Go.Proofs.YtecaemebamhamaaW.PrintMore Go.Proofs.Ytecaemebamhamaa.PO Go.Proofs.Ytecaemebamhamaa.Hnd Go.Lib

def badMk (m : RM) : Bool := if m.f1 < 1 then true else if m.f1 > 3 then true else if m.f2 < 0 then true else if m.f2 > 0 then (m.f1 != 1) else false
def badPl (slots : Int) (p : RP) : Bool := if p.f1 = -1 ∧ isRegB p.f0 = true then false else if p.f0 = -1 ∧ 0 ≤ p.f1 ∧ p.f1 < slots then false else true
/-- Registers that rise. -/
def setsR (last : Int) : List S126 → Bool
  | [] => true
  | s :: l => if s.f0 ≤ last then false else if s.f0 ≥ 60 then false else setsR s.f0 l
def formedB (x : RX) (slots : Int) : Bool := if x.f0 < 0 then false else if x.f1 < 0 then false else if x.f1 > 200 then false else if setsR (-1) x.f2 = false then false else if x.f3.any badMk = true then false else !(placesL x).any (badPl slots)
/-- The register ahead of the i-th. -/
def lastR (l : List S126) (i : Nat) : Int := if i = 0 then -1 else (rd_T126 l ((i - 1 : Nat) : Int)).f0
theorem setsR_all : ∀ (l : List S126) (last : Int), setsR last l = true ↔ ∀ i, i < l.length → (if i = 0 then last else (l.getD (i - 1) z126).f0) < (l.getD i z126).f0 ∧ (l.getD i z126).f0 < 60 := by
  intro l
  induction l with
  | nil => intro last; simp [setsR]
  | cons s l ih =>
    intro last
    constructor
    · intro h i hi
      unfold setsR at h
      split at h
      · exact absurd h (by decide)
      rename_i h1
      split at h
      · exact absurd h (by decide)
      rename_i h2
      cases i with
      | zero => simp; omega
      | succ i =>
        have h3 := (ih s.f0).1 h i (by simpa using hi)
        cases i with
        | zero => simpa using h3
        | succ i => simpa using h3
    · intro h
      have h0 := h 0 (by simp)
      simp at h0
      unfold setsR
      rw [if_neg (by omega), if_neg (by omega)]
      refine (ih s.f0).2 (fun i hi => ?_)
      have h3 := h (i + 1) (by simpa using hi)
      cases i with
      | zero => simpa using h3
      | succ i => simpa using h3
theorem sets_at (l : List S126) (i : Nat) (h : i < l.length) : rd_T126 l (i : Int) = l.getD i z126 := by unfold rd_T126; rw [Int.toNat_natCast]
theorem lastR_at (l : List S126) (i : Nat) : lastR l i = if i = 0 then -1 else (l.getD (i - 1) z126).f0 := by
  unfold lastR rd_T126
  rw [Int.toNat_natCast]
theorem sets_no (l : List S126) (i : Nat) (hi : i < l.length) (h : (rd_T126 l (i : Int)).f0 ≤ lastR l i ∨ (rd_T126 l (i : Int)).f0 ≥ 60) : setsR (-1) l = false := by
  cases hs : setsR (-1) l with
  | false => rfl
  | true =>
    have h1 := (setsR_all l (-1)).1 hs i hi
    rw [sets_at l i hi, lastR_at] at h
    omega
theorem sets_yes (l : List S126) (h : ∀ j : Nat, j < l.length → lastR l j < (rd_T126 l (j : Int)).f0 ∧ (rd_T126 l (j : Int)).f0 < 60) : setsR (-1) l = true := by
  refine (setsR_all l (-1)).2 (fun i hi => ?_)
  have h1 := h i hi
  rw [sets_at l i hi, lastR_at] at h1
  exact h1
def exL (c : RC) : List RX := [c.f6, c.f7] ++ c.f5
theorem any_not {α : Type} (p : α → Bool) (l : List α) : l.all p = !l.any (fun x => !p x) := by
  induction l with
  | nil => rfl
  | cons x l ih => rw [List.all_cons, List.any_cons, ih]; cases p x <;> simp
/-- What is written ahead of the i-th order. -/
def regsAt (c : RC) (i : Nat) : List Bool := (c.f4.take i).foldl setR (List.replicate 8 false)
def slotsAt (c : RC) (i : Nat) : List Bool := (c.f4.take i).foldl setS (List.replicate c.f3.toNat false)
def largeC (c : RC) : Bool := if (c.f4.length : Int) > 1500 then true else if (c.f5.length : Int) > 200 then true else if c.f3 > 300 then true else (exL c).any largeB
def badC (c : RC) : Bool := if c.f3 < 0 then true else if c.f0 < 0 then true else if c.f1 < 0 then true else if c.f2 < 0 then true else decide (c.f2 > (c.f4.length : Int))
noncomputable def errAt (c : RC) (i : Nat) : Int := ordE (regsAt c i) (slotsAt c i) c (rd_T37 c.f4 (i : Int))
def turnB (c : RC) : Bool := if c.f2 = 0 then bareB c.f6 else allW (regsAt c c.f2.toNat) (slotsAt c c.f2.toNat) c.f6
def endB (c : RC) : Bool := turnB c && allW (regsAt c c.f4.length) (slotsAt c c.f4.length) c.f7 && (exL c).all (fun x => formedB x c.f3)
/-- What Check answers. -/
inductive ChkR (c : RC) : Int → Prop
  | large : largeC c = true → ChkR c 2
  | bad : largeC c = false → badC c = true → ChkR c 3
  | err (i : Nat) (e : Int) : largeC c = false → badC c = false → i < c.f4.length → (∀ j, j < i → errAt c j = 0) → errAt c i = e → e ≠ 0 → ChkR c e
  | unformed : largeC c = false → badC c = false → (∀ j, j < c.f4.length → errAt c j = 0) → endB c = false → ChkR c 3
  | ok : largeC c = false → badC c = false → (∀ j, j < c.f4.length → errAt c j = 0) → endB c = true → ChkR c 0
structure GoodC (c : RC) : Prop where
  la : largeC c = false
  ba : badC c = false
  er : ∀ j, j < c.f4.length → errAt c j = 0
  en : endB c = true
theorem ChkR.good {c : RC} (h : ChkR c 0) : GoodC c := by
  generalize he : (0 : Int) = e at h
  cases h with
  | large _ => omega
  | bad _ _ => omega
  | err i e h1 h2 h3 h4 h5 h6 => omega
  | unformed => omega
  | ok h1 h2 h3 h4 => exact ⟨h1, h2, h3, h4⟩
theorem ChkR.zero {c : RC} {e : Int} (h : ChkR c e) (hg : GoodC c) : e = 0 := by
  cases h with
  | large h1 => rw [hg.la] at h1; exact absurd h1 (by decide)
  | bad _ h1 => rw [hg.ba] at h1; exact absurd h1 (by decide)
  | err i e h1 h2 h3 h4 h5 h6 => exact absurd (hg.er i h3) (by rw [h5]; exact h6)
  | unformed _ _ _ h1 => rw [hg.en] at h1; exact absurd h1 (by decide)
  | ok => rfl
theorem ChkR.three {c : RC} {e : Int} (h : ChkR c e) (h1 : largeC c = false) (h3 : ∀ j, j < c.f4.length → errAt c j = 0) (h4 : endB c = false) : e = 3 := by
  cases h with
  | large h => rw [h1] at h; exact absurd h (by decide)
  | bad _ _ => rfl
  | err i e _ _ h5 h6 h7 h8 => exact absurd (h3 i h5) (by rw [h7]; exact h8)
  | unformed => rfl
  | ok _ _ _ h => rw [h4] at h; exact absurd h (by decide)
theorem ChkR.first3 {c : RC} {e : Int} (h : ChkR c e) (h1 : largeC c = false) (h2 : badC c = false) (h3 : 0 < c.f4.length) (h4 : errAt c 0 = 3) : e = 3 := by
  cases h with
  | large h => rw [h1] at h; exact absurd h (by decide)
  | bad _ _ => rfl
  | err i e _ _ h5 h6 h7 h8 =>
    rcases Nat.eq_zero_or_pos i with rfl | hp
    · rw [← h7]; exact h4
    · exact absurd (h6 0 hp) (by rw [h4]; decide)
  | unformed => rfl
  | ok _ _ h _ => exact absurd (h 0 h3) (by rw [h4]; decide)
theorem setR_len (regs : List Bool) (x : RO) : (setR regs x).length = regs.length := by unfold setR; split <;> simp
theorem setS_len (slots : List Bool) (x : RO) : (setS slots x).length = slots.length := by unfold setS; split <;> simp
theorem foldS_len : ∀ (l : List RO) (s : List Bool), (l.foldl setS s).length = s.length := by
  intro l
  induction l with
  | nil => intro s; rfl
  | cons x l ih => intro s; rw [List.foldl_cons, ih, setS_len]
theorem foldR_len : ∀ (l : List RO) (s : List Bool), (l.foldl setR s).length = s.length := by
  intro l
  induction l with
  | nil => intro s; rfl
  | cons x l ih => intro s; rw [List.foldl_cons, ih, setR_len]
theorem slotsAt_len (c : RC) (i : Nat) : (slotsAt c i).length = c.f3.toNat := by unfold slotsAt; rw [foldS_len, List.length_replicate]
theorem regsAt_len (c : RC) (i : Nat) : (regsAt c i).length = 8 := by unfold regsAt; rw [foldR_len, List.length_replicate]
theorem rdO {l : List RO} {i : Nat} (h : i < l.length) : rd_T37 l (i : Int) = l[i] := by unfold rd_T37; rw [Int.toNat_natCast, List.getD_eq_getElem?_getD, List.getElem?_eq_getElem h]; rfl
theorem regsAt_succ (c : RC) {i : Nat} (h : i < c.f4.length) : regsAt c (i + 1) = setR (regsAt c i) (rd_T37 c.f4 (i : Int)) := by
  unfold regsAt
  rw [List.take_succ_eq_append_getElem h, List.foldl_append, rdO h]
  rfl
theorem slotsAt_succ (c : RC) {i : Nat} (h : i < c.f4.length) : slotsAt c (i + 1) = setS (slotsAt c i) (rd_T37 c.f4 (i : Int)) := by
  unfold slotsAt
  rw [List.take_succ_eq_append_getElem h, List.foldl_append, rdO h]
  rfl
/-- The flag 'turn' ahead of the i-th order. -/
def turnAt (c : RC) (i : Nat) : Bool := if c.f2 = 0 then bareB c.f6 else if c.f2 < (i : Int) then allW (regsAt c c.f2.toNat) (slotsAt c c.f2.toNat) c.f6 else false
/-- Code in memory. -/
structure CMem (w : World) {AO : Option Addr} {cO : Nat} {AE : Option Addr} {cE : Nat} {A1 : Option Addr} {c1 : Nat} {A2 : Option Addr} {c2 : Nat} {A3 : Option Addr} {c3 : Nat} {A4 : Option Addr} {c4 : Nat} (c : RC) : Prop where
  o : Kd.C k37 w AO c.f4.length c.f4
  oc : c.f4.length ≤ cO
  e : Kd.C k27 w AE c.f5.length c.f5
  ec : c.f5.length ≤ cE
  ts : Kd.C k126 w A1 c.f6.f2.length c.f6.f2
  tsc : c.f6.f2.length ≤ c1
  tm : Kd.C k118 w A2 c.f6.f3.length c.f6.f3
  tmc : c.f6.f3.length ≤ c2
  bs : Kd.C k126 w A3 c.f7.f2.length c.f7.f2
  bsc : c.f7.f2.length ≤ c3
  bm : Kd.C k118 w A4 c.f7.f3.length c.f7.f3
  bmc : c.f7.f3.length ≤ c4
theorem CMem.below {w w1 : World} {AO : Option Addr} {cO : Nat} {AE : Option Addr} {cE : Nat} {A1 : Option Addr} {c1 : Nat} {A2 : Option Addr} {c2 : Nat} {A3 : Option Addr} {c3 : Nat} {A4 : Option Addr} {c4 : Nat} {c : RC} (h : CMem w (AO := AO) (cO := cO) (AE := AE) (cE := cE) (A1 := A1) (c1 := c1) (A2 := A2) (c2 := c2) (A3 := A3) (c3 := c3) (A4 := A4) (c4 := c4) c) (hb : Below w.heap.size w w1) : CMem w1 (AO := AO) (cO := cO) (AE := AE) (cE := cE) (A1 := A1) (c1 := c1) (A2 := A2) (c2 := c2) (A3 := A3) (c3 := c3) (A4 := A4) (c4 := c4) c := ⟨Kd.C_below h.o hb, h.oc, Kd.C_below h.e hb, h.ec, Kd.C_below h.ts hb, h.tsc, Kd.C_below h.tm hb, h.tmc, Kd.C_below h.bs hb, h.bsc, Kd.C_below h.bm hb, h.bmc⟩
/-- Code of a size that machines have. -/
structure CSz (c : RC) : Prop where
  o : c.f4.length ≤ 1048576
  e : c.f5.length ≤ 1048576
  x : ∀ x ∈ c.f5, bigX x ≤ 1048576
  tu : bigX c.f6 ≤ 1048576
  ba : bigX c.f7 ≤ 1048576
end Go.Proofs.Ytecaemebamhamaa.Lv
