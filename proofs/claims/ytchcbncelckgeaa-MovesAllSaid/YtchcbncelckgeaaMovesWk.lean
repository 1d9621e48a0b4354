/- Moves side by side: check and free, walked. -/
import Derived.Test.YtchcbncelckgeaaMovesPl
import Derived.Test.YtchcbncelckgeaaHandMap
import Derived.Deep.DeepCutAuto
import Derived.Shelf.Abstract
set_option linter.unusedVariables false
set_option linter.unusedSimpArgs false
namespace Go.Proofs.Ytchcbncelckgeaa.Mvs
open Go.RowKit Go.Proofs.YtchcbncelckgeaaW.PrintWords Go.Proofs.YtchcbncelckgeaaW.PrintLast Go.Proofs.YtchcbncelckgeaaW.PrintMore Go.Proofs.Ytchcbncelckgeaa.PV Go.Proofs.Ytchcbncelckgeaa.Hnd

def mvA (x : Mv) : Value := .agg #[.int .i64 x.f0, .int .i64 x.f1]
theorem at_m {w : World} {A : Option Addr} {n : Nat} {xs : List Mv} (h : Kd.C k89 w A n xs) (i : Nat) (hi : i < n) : ∃ ad, A = some ad ∧ w.cell? (ad.add (i * 2)) = some (.int .i64 (xs.getD i z89).f0) ∧ w.cell? ⟨(ad.add (i * 2)).block, (ad.add (i * 2)).off + 1, none⟩ = some (.int .i64 (xs.getD i z89).f1) := by
  obtain ⟨ad, e, h0, h1⟩ := at_T89 h (i : Int) (by omega) (by omega)
  exact ⟨ad, e, by simpa [rd_T89] using h0, by simpa [rd_T89] using h1⟩
theorem getD_m {xs : List Mv} {i : Nat} (h : i < xs.length) : xs.getD i z89 = xs[i] := by rw [List.getD_eq_getElem?_getD, List.getElem?_eq_getElem h]; rfl
/-! ### the literals -/
/-- A predicate on moves: what is asked of a function value. -/
def Prd (g : Nat) (lb : Array Value) (p : Mv → Bool) (w : World) : Prop := ∀ (W : World) (x : Mv), Below w.heap.size w W → Calls Try.prog g (#[mvA x] ++ lb) W fun e w' => e = .returned (.bool (p x)) ∧ Below W.heap.size W w'
set_option maxHeartbeats 4000000 in
set_option maxRecDepth 100000 in
theorem same_calls (W : World) (b : Nat) (x m : Mv) (hb : W.heap[b]? = some (.cells #[.int .i64 m.f0, .int .i64 m.f1] 89 (0, 0))) :
    Calls Try.prog 69 #[mvA x, .pointer (some ⟨b, 0, none⟩)] W fun e w' => e = .returned (.bool (x.f0 == m.f0)) ∧ Below W.heap.size W w' := by
  have hc : (W.alloc (Obj.cells #[.int .i64 x.f0, .int .i64 x.f1] 89)).cell? ⟨b, 0, none⟩ = some (.int .i64 m.f0) := pw_cell_below (below_alloc (Below.refl _ W) _) ((blk_cell hb 0).trans rfl)
  clear hb
  unfold mvA
  go_enter Try.func69, Try.ntmps69
  go_wp2
  go_ret
  exact ⟨rfl, by repeat (first | exact Below.refl _ _ | apply below_alloc | apply pw_below_drewN | apply below_drew1)⟩
set_option maxHeartbeats 4000000 in
set_option maxRecDepth 100000 in
theorem spare_calls (W : World) (b : Nat) (x : Mv) (s : Int) (hb : W.heap[b]? = some (.cells #[.int .i64 s] 3 (0, 0))) :
    Calls Try.prog 70 #[mvA x, .pointer (some ⟨b, 0, none⟩)] W fun e w' => e = .returned (.bool (x.f0 == s || x.f1 == s)) ∧ Below W.heap.size W w' := by
  have hc : (W.alloc (Obj.cells #[.int .i64 x.f0, .int .i64 x.f1] 89)).cell? ⟨b, 0, none⟩ = some (.int .i64 s) := pw_cell_below (below_alloc (Below.refl _ W) _) ((blk_cell hb 0).trans rfl)
  clear hb
  unfold mvA
  cases h1 : (x.f0 == s) with
  | true =>
    go_enter Try.func70, Try.ntmps70
    go_wp2
    go_ret
    exact ⟨rfl, by repeat (first | exact Below.refl _ _ | apply below_alloc | apply pw_below_drewN | apply below_drew1)⟩
  | false =>
    go_enter Try.func70, Try.ntmps70
    go_wp2
    go_ret
    exact ⟨by first | rfl | simp, by repeat (first | exact Below.refl _ _ | apply below_alloc | apply pw_below_drewN | apply below_drew1)⟩
set_option maxHeartbeats 4000000 in
set_option maxRecDepth 100000 in
theorem idle_calls (W : World) (x : Mv) : Calls Try.prog 56 #[mvA x] W fun e w' => e = .returned (.bool (x.f0 == x.f1)) ∧ Below W.heap.size W w' := by
  unfold mvA
  go_enter Try.func56, Try.ntmps56
  go_wp2
  go_ret
  exact ⟨rfl, by repeat (first | exact Below.refl _ _ | apply below_alloc | apply pw_below_drewN | apply below_drew1)⟩
theorem ne_mv (x m : Mv) : (x != m) = (!(x.f0 == m.f0) || !(x.f1 == m.f1)) := by
  obtain ⟨a, b⟩ := x
  obtain ⟨c, d⟩ := m
  rw [Bool.eq_iff_iff]
  simp only [bne_iff_ne, ne_eq, Bool.or_eq_true, Bool.not_eq_true', beq_eq_false_iff_ne]
  constructor
  · intro h
    by_cases e : a = c
    · exact .inr (fun e2 => h (by rw [e, e2]))
    · exact .inl e
  · rintro (h | h) e
    · injection e with e1 e2; exact h e1
    · injection e with e1 e2; exact h e2
set_option maxHeartbeats 4000000 in
set_option maxRecDepth 100000 in
theorem other_calls (W : World) (b : Nat) (x m : Mv) (hb : W.heap[b]? = some (.cells #[.int .i64 m.f0, .int .i64 m.f1] 89 (0, 0))) :
    Calls Try.prog 73 #[mvA x, .pointer (some ⟨b, 0, none⟩)] W fun e w' => e = .returned (.bool (x != m && x.f1 == m.f0)) ∧ Below W.heap.size W w' := by
  have hb2 := blk_below hb (below_alloc (Below.refl W.heap.size W) (Obj.cells #[.int .i64 x.f0, .int .i64 x.f1] 89))
  have hc0 : (W.alloc (Obj.cells #[.int .i64 x.f0, .int .i64 x.f1] 89)).cell? ⟨b, 0, none⟩ = some (.int .i64 m.f0) := (blk_cell hb2 0).trans rfl
  have hc1 : (W.alloc (Obj.cells #[.int .i64 x.f0, .int .i64 x.f1] 89)).cell? ⟨b, 1, none⟩ = some (.int .i64 m.f1) := (blk_cell hb2 1).trans rfl
  clear hb hb2
  have hu := Try.underlying89
  rw [ne_mv]
  unfold mvA
  cases h1 : (x.f0 == m.f0) <;> cases h2 : (x.f1 == m.f1) <;>
    (go_enter Try.func73, Try.ntmps73
     go_wp2
     go_ret
     exact ⟨by first | rfl | simp, by repeat (first | exact Below.refl _ _ | apply below_alloc | apply pw_below_drewN | apply below_drew1)⟩)
/-! ### IndexFunc, ContainsFunc -/
def idxM (p : Mv → Bool) (l : List Mv) : Int := match l.findIdx? p with | some i => (i : Int) | none => -1
theorem idxM_at {p : Mv → Bool} {l : List Mv} {i : Nat} (hi : i < l.length) (h : p l[i] = true) (hb : ∀ j (hj : j < l.length), j < i → p l[j] = false) : idxM p l = (i : Int) := by
  unfold idxM
  have : l.findIdx? p = some i := List.findIdx?_eq_some_iff_getElem.2 ⟨hi, h, fun j hj => by rw [hb j (by omega) hj]; simp⟩
  rw [this]
theorem idxM_no {p : Mv → Bool} {l : List Mv} (hb : ∀ j (hj : j < l.length), p l[j] = false) : idxM p l = -1 := by
  unfold idxM
  have : l.findIdx? p = none := by
    rw [List.findIdx?_eq_none_iff]
    intro x hx
    obtain ⟨j, hj, rfl⟩ := List.getElem_of_mem hx
    exact hb j hj
  rw [this]
set_option maxHeartbeats 4000000 in
set_option maxRecDepth 100000 in
theorem idx_calls (g : Nat) (lb : Array Value) (p : Mv → Bool) (eg : ∀ args w, (callFunc g args).run Try.prog w = .ok (.enter g args) w) (w : World) (A : Option Addr) (c : Nat) (l : List Mv) (hl : Kd.C k89 w A l.length l) (hp : Prd g lb p w) (hz : l.length ≤ 1000000) :
    Calls Try.prog 71 #[.slice A l.length c, .func (.func g) #[] lb] w fun e w' => e = .returned (.int .i64 (idxM p l)) ∧ Below w.heap.size w w' := by
  have HL := Aside0.mk hl
  have HP := Aside0.mk hp
  have HZ := Aside0.mk hz
  clear hl hp hz
  go_enter Try.func71, Try.ntmps71
  go_wp2
  go_loopg [8] l.length (fun kq v8 W => ∃ i : Nat, v8 = .int .i64 (i : Int) ∧ Aside0 (i ≤ l.length ∧ kq = l.length - i) ∧ Aside0 (∀ j (hj : j < l.length), j < i → p l[j] = false) ∧ Aside0 (Below w.heap.size w W))
  case atStart => exact ⟨0, rfl, ⟨Nat.zero_le _, by omega⟩, ⟨fun j hj h => absurd h (Nat.not_lt_zero _)⟩, ⟨Below.refl _ _⟩⟩
  case round =>
    obtain ⟨i, rfl, HIQ, HN, HB⟩ := hrel
    by_cases hlt : i < l.length
    · have hi0 : (0 : Int) ≤ (i : Int) := by omega
      have hi1 : (i : Int) < (l.length : Int) := by omega
      obtain ⟨ad, rfl, hx0, hx1⟩ := at_m (Kd.C_below HL.out HB.out) i hlt
      rw [getD_m hlt] at hx0 hx1
      have hdec : decide ((i : Int) < (l.length : Int)) = true := decide_eq_true hi1
      have hdec2 : decide (i < l.length) = true := decide_eq_true hlt
      have HLT := Aside0.mk hlt
      have hcall := HP.out wr l[i] HB.out
      cases hq : p l[i] with
      | true =>
        have HQ := Aside0.mk hq
        rw [hq] at hcall
        generalize l[i] = x at hx0 hx1 hcall
        unfold mvA at hcall
        have HCALL := Aside0.mk hcall
        clear hq hcall
        go_wp2_with (go_at_fn g; refine HCALL.out.mono ?_; rintro e w' ⟨rfl, hb'⟩)
        go_ret
        exact ⟨by rw [idxM_at HLT.out HQ.out HN.out]; rfl, below_step HB.out hb'⟩
      | false =>
        have HQ := Aside0.mk hq
        rw [hq] at hcall
        generalize l[i] = x at hx0 hx1 hcall
        unfold mvA at hcall
        have HCALL := Aside0.mk hcall
        clear hq hcall
        go_wp2_with (go_at_fn g; refine HCALL.out.mono ?_; rintro e w' ⟨rfl, hb'⟩)
        go_roundg (l.length - (i + 1))
        case measure => have := HIQ.out; have := HLT.out; omega
        case rel =>
          refine ⟨i + 1, by first | rfl | (have := HLT.out; have := HZ.out; rw [show wrap64 ((i : Int) + 1) = ((i + 1 : Nat) : Int) from by unfold wrap64; omega]), ⟨by have := HLT.out; omega, rfl⟩, ⟨fun j hj h => ?_⟩, ⟨below_step HB.out hb'⟩⟩
          by_cases e : j = i
          · subst e; exact HQ.out
          · exact HN.out j hj (by omega)
    · have e_ : i = l.length := by have := HIQ.out; omega
      subst e_
      have hdec : decide ((l.length : Int) < (l.length : Int)) = false := decide_eq_false (by omega)
      have hdec2 : decide (l.length < l.length) = false := decide_eq_false hlt
      clear hlt HIQ
      go_wp2
      go_ret
      exact ⟨by rw [idxM_no (fun j hj => HN.out j hj hj)]; rfl, HB.out⟩
theorem idxM_any (p : Mv → Bool) (l : List Mv) : decide (idxM p l ≥ 0) = l.any p := by
  unfold idxM
  cases h : l.findIdx? p with
  | none =>
    rw [List.findIdx?_eq_none_iff] at h
    have : l.any p = false := List.any_eq_false.2 (fun x hx => by simp [h x hx])
    rw [this]; rfl
  | some i =>
    obtain ⟨hi, h1, _⟩ := List.findIdx?_eq_some_iff_getElem.1 h
    have : l.any p = true := List.any_eq_true.2 ⟨l[i], List.getElem_mem hi, h1⟩
    rw [this]
    exact decide_eq_true (by show (i : Int) ≥ 0; omega)
set_option maxHeartbeats 4000000 in
set_option maxRecDepth 100000 in
theorem any_calls (g : Nat) (lb : Array Value) (p : Mv → Bool) (eg : ∀ args w, (callFunc g args).run Try.prog w = .ok (.enter g args) w) (w : World) (A : Option Addr) (c : Nat) (l : List Mv) (hl : Kd.C k89 w A l.length l) (hp : Prd g lb p w) (hz : l.length ≤ 1000000) :
    Calls Try.prog 68 #[.slice A l.length c, .func (.func g) #[] lb] w fun e w' => e = .returned (.bool (l.any p)) ∧ Below w.heap.size w w' := by
  have HCALL := Aside0.mk (idx_calls g lb p eg w A c l hl hp hz)
  have hx := idxM_any p l
  clear hl hp
  generalize idxM p l = q at HCALL hx
  generalize l.any p = r at hx ⊢
  go_enter Try.func68, Try.ntmps68
  go_wp2_with (go_at_call 71; refine HCALL.out.mono ?_; rintro e w' ⟨rfl, hb'⟩)
  go_ret
  exact ⟨by rw [← hx]; first | rfl | simp, hb'⟩
/-! ### free -/
set_option maxHeartbeats 4000000 in
set_option maxRecDepth 100000 in
theorem lone_calls (W : World) (b : Nat) (A : Option Addr) (c : Nat) (l : List Mv) (x : Mv) (hb : W.heap[b]? = some (.cells #[.slice A l.length c] 85 (0, 0))) (hl : Kd.C k89 W A l.length l) (hz : l.length ≤ 1000000) :
    Calls Try.prog 72 #[mvA x, .pointer (some ⟨b, 0, none⟩)] W fun e w' => e = .returned (.bool (freeAt l x)) ∧ Below W.heap.size W w' := by
  have hbl : Below W.heap.size W (W.alloc (Obj.cells #[.int .i64 x.f0, .int .i64 x.f1] 89)) := below_alloc (Below.refl _ W) _
  have hc : (W.alloc (Obj.cells #[.int .i64 x.f0, .int .i64 x.f1] 89)).cell? ⟨b, 0, none⟩ = some (.slice A l.length c) := pw_cell_below hbl ((blk_cell hb 0).trans rfl)
  have hnew := heap_alloc_new W (Obj.cells #[.int .i64 x.f0, .int .i64 x.f1] 89)
  have hcall := any_calls 73 #[.pointer (some ⟨W.heap.size, 0, none⟩)] (fun y => y != x && y.f1 == x.f0) (Go.Proofs.enters_of Try.func73 (by kernel_rfl) rfl) _ A c l (Kd.C_below hl hbl) (fun W' y hW => other_calls W' W.heap.size y x (blk_below hnew hW)) hz
  have HCALL := Aside0.mk hcall
  have HBL := Aside0.mk hbl
  have hfr : freeAt l x = !(l.any (fun y => y != x && y.f1 == x.f0)) := rfl
  rw [hfr]
  generalize l.any (fun y => y != x && y.f1 == x.f0) = r at HCALL ⊢
  clear hb hl hbl hnew hcall hfr
  unfold mvA
  go_enter Try.func72, Try.ntmps72
  go_wp2_with (go_at_call 68; refine HCALL.out.mono ?_; rintro e w' ⟨rfl, hb'⟩)
  go_ret
  exact ⟨rfl, below_step HBL.out hb'⟩
set_option maxHeartbeats 4000000 in
set_option maxRecDepth 100000 in
theorem free_calls (W : World) (A : Option Addr) (c : Nat) (l : List Mv) (hl : Kd.C k89 W A l.length l) (hz : l.length ≤ 1000000) :
    Calls Try.prog 57 #[.slice A l.length c] W fun e w' => e = .returned (.int .i64 (idxM (freeAt l) l)) ∧ Below W.heap.size W w' := by
  have hbl : Below W.heap.size W (W.alloc (Obj.cells #[.slice A l.length c] 85)) := below_alloc (Below.refl _ W) _
  have hnew := heap_alloc_new W (Obj.cells #[.slice A l.length c] 85)
  have hcall := idx_calls 72 #[.pointer (some ⟨W.heap.size, 0, none⟩)] (freeAt l) (Go.Proofs.enters_of Try.func72 (by kernel_rfl) rfl) _ A c l (Kd.C_below hl hbl) (fun W' y hW => lone_calls W' W.heap.size A c l y (blk_below hnew hW) (Kd.C_below hl (hbl.trans (below_cut hW hbl.size))) hz) hz
  have HCALL := Aside0.mk hcall
  have HBL := Aside0.mk hbl
  generalize idxM (freeAt l) l = r at HCALL ⊢
  clear hl hbl hnew hcall
  go_enter Try.func57, Try.ntmps57
  go_wp2_with (go_at_call 71; refine HCALL.out.mono ?_; rintro e w' ⟨rfl, hb'⟩)
  go_ret
  exact ⟨rfl, below_step HBL.out hb'⟩
/-! ### check -/
def dupAt (l : List Mv) (i : Nat) : Bool := (l.take i).any (fun x => x.f0 == (l.getD i z89).f0)
def dupB (l : List Mv) : Bool := (List.range l.length).any (dupAt l)
def chkM (l : List Mv) (s : Int) : Int := if l.length > 60 then 2 else if dupB l = true then 6 else if l.any (fun x => x.f0 == s || x.f1 == s) = true then 1 else 0
set_option maxHeartbeats 8000000 in
set_option maxRecDepth 100000 in
theorem mcheck_calls (w : World) (A : Option Addr) (c : Nat) (l : List Mv) (s : Int) (hl : Kd.C k89 w A l.length l) (hc : l.length ≤ c) :
    Calls Try.prog 53 #[.slice A l.length c, .int .i64 s] w fun e w' => e = .returned (.int .i64 (chkM l s)) ∧ Below w.heap.size w w' := by
  have HL := Aside0.mk hl
  have HC := Aside0.mk hc
  have hb0 : Below w.heap.size w (w.alloc (Obj.cells #[.int .i64 s] 3)) := below_alloc (Below.refl _ _) _
  have hk0 := heap_alloc_new w (Obj.cells #[.int .i64 s] 3)
  have HB0 := Aside0.mk hb0
  have HK0 := Aside0.mk hk0
  clear hl hc hb0 hk0
  by_cases h60 : l.length > 60
  · have hd : decide ((l.length : Int) > 60) = true := decide_eq_true (by omega)
    have hd2 : decide (l.length > 60) = true := decide_eq_true h60
    have he : chkM l s = 2 := by unfold chkM; rw [if_pos h60]
    rw [he]
    clear h60 he
    go_enter Try.func53, Try.ntmps53
    go_wp2
    go_ret
    exact ⟨rfl, HB0.out⟩
  · have hd : decide ((l.length : Int) > 60) = false := decide_eq_false (by omega)
    have hd2 : decide (l.length > 60) = false := decide_eq_false h60
    have he : chkM l s = if dupB l = true then 6 else if l.any (fun x => x.f0 == s || x.f1 == s) = true then 1 else 0 := by unfold chkM; rw [if_neg h60]
    rw [he]
    generalize hgen : (if dupB l = true then (6 : Int) else if l.any (fun x => x.f0 == s || x.f1 == s) = true then 1 else 0) = rr
    have HE := Aside0.mk hgen
    clear hgen
    have H60 : Aside0 (l.length ≤ 60) := ⟨by omega⟩
    clear h60 he
    go_enter Try.func53, Try.ntmps53
    go_wp2
    clear hd hd2
    go_loopg [12] l.length (fun kq v12 W => ∃ i : Nat, v12 = .int .i64 (i : Int) ∧ Aside0 (i ≤ l.length ∧ kq = l.length - i) ∧ Aside0 (∀ j, j < i → dupAt l j = false) ∧ Aside0 (W.heap[w.heap.size]? = some (.cells #[.int .i64 s] 3 (0, 0))) ∧ Aside0 (Below w.heap.size w W))
    case atStart => exact ⟨0, rfl, ⟨Nat.zero_le _, by omega⟩, ⟨fun j h => absurd h (Nat.not_lt_zero _)⟩, HK0, HB0⟩
    case round =>
      clear HB0 HK0
      obtain ⟨i, rfl, HIQ, HN, HK, HB⟩ := hrel
      by_cases hlt : i < l.length
      · have hi0 : (0 : Int) ≤ (i : Int) := by omega
        have hi1 : (i : Int) < (l.length : Int) := by omega
        obtain ⟨ad, rfl, hx0, hx1⟩ := at_m (Kd.C_below HL.out HB.out) i hlt
        have hdup : dupAt l i = (l.take i).any (fun x => x.f0 == (l.getD i z89).f0) := rfl
        generalize l.getD i z89 = m at hx0 hx1 hdup
        have hdec : decide ((i : Int) < (l.length : Int)) = true := decide_eq_true hi1
        have hdec2 : decide (i < l.length) = true := decide_eq_true hlt
        have HLT := Aside0.mk hlt
        have hp0 : ((0 : Int) ≤ (i : Int)) = True := eq_true (by omega)
        have hp2 : ((i : Int) ≤ (c : Int)) = True := eq_true (by have := HC.out; omega)
        have htn : ((i : Int)).toNat = i := Int.toNat_natCast i
        have htl : (l.take i).length = i := by rw [List.length_take]; exact Nat.min_eq_left (by omega)
        have hbx := below_alloc (Below.refl wr.heap.size wr) (Obj.cells #[.int .i64 m.f0, .int .i64 m.f1] 89)
        have hdx := heap_alloc_new wr (Obj.cells #[.int .i64 m.f0, .int .i64 m.f1] 89)
        have hcall := any_calls 69 #[.pointer (some ⟨wr.heap.size, 0, none⟩)] (fun y => y.f0 == m.f0) (Go.Proofs.enters_of Try.func69 (by kernel_rfl) rfl) _ (some ad) c (l.take i) (Kd.C_take (Kd.C_below (Kd.C_below HL.out HB.out) hbx) (by omega)) (fun W' y hW => same_calls W' wr.heap.size y m (blk_below hdx hW)) (by rw [htl]; have := H60.out; omega)
        rw [htl, ← hdup] at hcall
        have HCALL := Aside0.mk hcall
        have HBX := Aside0.mk hbx
        have HKX := Aside0.mk (blk_below HK.out hbx)
        have HBW : Aside0 (Below w.heap.size w (wr.alloc (Obj.cells #[.int .i64 m.f0, .int .i64 m.f1] 89))) := ⟨below_step HB.out hbx⟩
        clear hlt hcall hdup hbx hdx htl
        cases hq : dupAt l i with
        | true =>
          have hres : dupB l = true := List.any_eq_true.2 ⟨i, List.mem_range.2 HLT.out, hq⟩
          have HRES := Aside0.mk hres
          rw [hq] at HCALL
          clear hq hres
          go_wp2_with (go_at_call 68; refine HCALL.out.mono ?_; rintro e w' ⟨rfl, hb'⟩)
          go_ret
          exact ⟨by rw [← HE.out, HRES.out, if_pos rfl]; rfl, below_step HBW.out hb'⟩
        | false =>
          have HQ := Aside0.mk hq
          rw [hq] at HCALL
          clear hq
          go_wp2_with (go_at_call 68; refine HCALL.out.mono ?_; rintro e w' ⟨rfl, hb'⟩)
          go_roundg (l.length - (i + 1))
          case measure => have := HIQ.out; have := HLT.out; omega
          case rel =>
            refine ⟨i + 1, by first | rfl | (have := HLT.out; have := H60.out; rw [show wrap64 ((i : Int) + 1) = ((i + 1 : Nat) : Int) from by unfold wrap64; omega]), ⟨by have := HLT.out; omega, rfl⟩, ⟨fun j h => ?_⟩, ⟨blk_below HKX.out hb'⟩, ⟨below_step HBW.out hb'⟩⟩
            by_cases e : j = i
            · subst e; exact HQ.out
            · exact HN.out j (by omega)
      · have e_ : i = l.length := by have := HIQ.out; omega
        subst e_
        have hdec : decide ((l.length : Int) < (l.length : Int)) = false := decide_eq_false (by omega)
        have hdec2 : decide (l.length < l.length) = false := decide_eq_false hlt
        have hres : dupB l = false := List.any_eq_false.2 (fun j hj => by rw [HN.out j (List.mem_range.1 hj)]; simp)
        have HRES := Aside0.mk hres
        have hcall := any_calls 70 #[.pointer (some ⟨w.heap.size, 0, none⟩)] (fun x => x.f0 == s || x.f1 == s) (Go.Proofs.enters_of Try.func70 (by kernel_rfl) rfl) wr A c l (Kd.C_below HL.out HB.out) (fun W' y hW => spare_calls W' w.heap.size y s (blk_below HK.out hW)) (by have := H60.out; omega)
        have HCALL := Aside0.mk hcall
        have HR : Aside0 (∀ b, l.any (fun x => x.f0 == s || x.f1 == s) = b → (if dupB l = true then (6 : Int) else if l.any (fun x => x.f0 == s || x.f1 == s) = true then 1 else 0) = if b = true then 1 else 0) := ⟨fun b hb => by rw [HRES.out, if_neg (by simp), hb]⟩
        clear hlt HIQ hcall hres
        cases hr : l.any (fun x => x.f0 == s || x.f1 == s) with
        | true =>
          have HR := Aside0.mk (HR.out _ hr)
          rw [hr] at HCALL
          clear hr
          go_wp2_with (go_at_call 68; refine HCALL.out.mono ?_; rintro e w' ⟨rfl, hb'⟩)
          go_ret
          exact ⟨by rw [← HE.out, HR.out]; rfl, below_step HB.out hb'⟩
        | false =>
          have HR := Aside0.mk (HR.out _ hr)
          rw [hr] at HCALL
          clear hr
          go_wp2_with (go_at_call 68; refine HCALL.out.mono ?_; rintro e w' ⟨rfl, hb'⟩)
          go_ret
          exact ⟨by rw [← HE.out, HR.out]; rfl, below_step HB.out hb'⟩
end Go.Proofs.Ytchcbncelckgeaa.Mvs
