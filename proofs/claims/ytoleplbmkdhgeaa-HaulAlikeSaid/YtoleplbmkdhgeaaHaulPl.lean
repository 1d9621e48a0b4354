/- Package haul: Cheney's collector as plain law: what the moves keep true. -/
import Derived.Test.YtoleplbmkdhgeaaHaulMv
set_option linter.unusedVariables false
set_option linter.unusedSimpArgs false
namespace Go.Proofs.Ytoleplbmkdhgeaa.Hal
open Go.RowKit Go.Proofs.YtoleplbmkdhgeaaW.PrintWords Go.Proofs.YtoleplbmkdhgeaaW.PrintLast Go.Proofs.YtoleplbmkdhgeaaW.PrintMore Go.Proofs.Ytoleplbmkdhgeaa.PQ Go.Proofs.Ytoleplbmkdhgeaa.Hnd Go.Proofs.Ytoleplbmkdhgeaa.Nb

def szN (fr : List Int) (p : Int) : Nat := longN (fr.getD p.toNat 0)
def bodyL (fr : List Int) (p : Int) : List Int := (fr.drop (p.toNat + 1)).take (szN fr p)
def offs (fr : List Int) (fs : List Int) : Nat := (fs.map (fun p => 1 + szN fr p)).sum
def mvOf (fr : List Int) : Nat → List Int → List Mv
  | _, [] => []
  | t, p :: ps => ⟨(t : Int), p⟩ :: mvOf fr (t + (1 + szN fr p)) ps
def disc1 (l : List Int) (y : Int) : List Int := if isRef y = true ∧ ¬ plN y ∈ l then l ++ [plN y] else l
def disc (l ys : List Int) : List Int := ys.foldl disc1 l
def bf (fr l0 : List Int) : Nat → List Int
  | 0 => l0
  | k + 1 => disc (bf fr l0 k) (bodyL fr ((bf fr l0 k).getD k 0))
def trW (fn : Int → Option Int) (y : Int) : Int := if isRef y = true then (match fn (plN y) with | some t => refW t | none => y) else y
theorem gdl {l m : List Int} {i : Nat} (h : i < l.length) : (l ++ m).getD i 0 = l.getD i 0 := by
  simp [List.getD_eq_getElem?_getD, List.getElem?_append_left h]
theorem gdr {l m : List Int} {i : Nat} (h : l.length ≤ i) : (l ++ m).getD i 0 = m.getD (i - l.length) 0 := by
  simp [List.getD_eq_getElem?_getD, List.getElem?_append_right h]
theorem gdt {l : List Int} {a n i : Nat} (h : i < n) : ((l.drop a).take n).getD i 0 = l.getD (a + i) 0 := by
  simp [List.getD_eq_getElem?_getD, List.getElem?_take, h, List.getElem?_drop]
theorem gds {l : List Int} {i k : Nat} {x : Int} (h : i ≠ k) : (l.set i x).getD k 0 = l.getD k 0 := by
  simp [List.getD_eq_getElem?_getD, List.getElem?_set, h]
theorem gde {l : List Int} {i : Nat} {x : Int} (h : i < l.length) : (l.set i x).getD i 0 = x := by
  simp [List.getD_eq_getElem?_getD, List.getElem?_set, h]
theorem offs_cons (fr : List Int) (p : Int) (fs : List Int) : offs fr (p :: fs) = 1 + szN fr p + offs fr fs := by simp [offs]
theorem offs_app (fr : List Int) (a b : List Int) : offs fr (a ++ b) = offs fr a + offs fr b := by simp [offs]
theorem mv_app (fr : List Int) (fs gs : List Int) (a : Nat) : mvOf fr a (fs ++ gs) = mvOf fr a fs ++ mvOf fr (a + offs fr fs) gs := by
  induction fs generalizing a with
  | nil => simp [mvOf, offs]
  | cons p fs ih => simp only [List.cons_append, mvOf, ih, offs_cons]; congr 3; omega
theorem mv_len (fr : List Int) (fs : List Int) (a : Nat) : (mvOf fr a fs).length = fs.length := by
  induction fs generalizing a with
  | nil => rfl
  | cons p fs ih => simp [mvOf, ih]
theorem mv_mem {fr fs : List Int} {a : Nat} {t p : Int} (h : (⟨t, p⟩ : Mv) ∈ mvOf fr a fs) : p ∈ fs ∧ (a : Int) ≤ t ∧ t + (1 + szN fr p : Nat) ≤ ((a + offs fr fs : Nat) : Int) := by
  induction fs generalizing a with
  | nil => cases h
  | cons q fs ih =>
    simp only [mvOf, List.mem_cons] at h
    rw [offs_cons]
    rcases h with h | h
    · injection h with h1 h2; subst h1; subst h2
      refine ⟨List.mem_cons_self .., by omega, by omega⟩
    · obtain ⟨h1, h2, h3⟩ := ih h
      refine ⟨List.mem_cons_of_mem _ h1, by omega, by omega⟩
theorem mv_of {fr fs : List Int} {a : Nat} {p : Int} (h : p ∈ fs) : ∃ t : Nat, (⟨(t : Int), p⟩ : Mv) ∈ mvOf fr a fs := by
  induction fs generalizing a with
  | nil => cases h
  | cons q fs ih =>
    rcases List.mem_cons.1 h with h | h
    · subst h; exact ⟨a, by simp [mvOf]⟩
    · obtain ⟨t, ht⟩ := ih (a := a + (1 + szN fr q)) h
      exact ⟨t, by simp only [mvOf]; exact List.mem_cons_of_mem _ ht⟩
theorem mv_apart {fr fs : List Int} {a : Nat} {t p t' p' : Int} (h : (⟨t, p⟩ : Mv) ∈ mvOf fr a fs) (h' : (⟨t', p'⟩ : Mv) ∈ mvOf fr a fs) :
    (t = t' ∧ p = p') ∨ t + (1 + szN fr p : Nat) ≤ t' ∨ t' + (1 + szN fr p' : Nat) ≤ t := by
  induction fs generalizing a with
  | nil => cases h
  | cons q fs ih =>
    simp only [mvOf, List.mem_cons] at h h'
    rcases h with h | h <;> rcases h' with h' | h'
    · injection h with h1 h2; injection h' with h3 h4; exact .inl ⟨h1.trans h3.symm, h2.trans h4.symm⟩
    · injection h with h1 h2; subst h1; subst h2
      have := (mv_mem h').2.1
      exact .inr (.inl (by omega))
    · injection h' with h1 h2; subst h1; subst h2
      have := (mv_mem h).2.1
      exact .inr (.inr (by omega))
    · exact ih h h'
theorem mv_at {fr fs : List Int} {k : Nat} (h : k < fs.length) (a : Nat) : (⟨((a + offs fr (fs.take k) : Nat) : Int), fs.getD k 0⟩ : Mv) ∈ mvOf fr a fs := by
  have e : fs = fs.take k ++ fs.getD k 0 :: fs.drop (k + 1) := by
    rw [List.getD_eq_getElem?_getD, List.getElem?_eq_getElem h]
    simp
  have e2 : mvOf fr a fs = mvOf fr a (fs.take k) ++ mvOf fr (a + offs fr (fs.take k)) (fs.getD k 0 :: fs.drop (k + 1)) := by rw [← mv_app, ← e]
  rw [e2]
  simp [mvOf]
theorem offs_take_lt {fr fs : List Int} {k : Nat} (h : k < fs.length) : offs fr (fs.take k) + (1 + szN fr (fs.getD k 0)) = offs fr (fs.take (k + 1)) := by
  rw [List.take_succ_eq_append_getElem h, offs_app, offs_cons, List.getD_eq_getElem?_getD, List.getElem?_eq_getElem h]
  simp [offs]
theorem offs_take_le (fr fs : List Int) (k : Nat) : offs fr (fs.take k) ≤ offs fr fs := by
  conv => rhs; rw [← List.take_append_drop k fs, offs_app]
  omega
/-- The heap that is collected: its objects lie one behind the other, and words tell them. -/
structure HOk (fr objs : List Int) : Prop where
  nd : objs.Nodup
  fit : ∀ p ∈ objs, 0 ≤ p ∧ p.toNat < fr.length ∧ p.toNat + 1 + szN fr p ≤ fr.length
  all : offs fr objs = fr.length
  ref : ∀ p ∈ objs, ∀ j, j < szN fr p → isRef (fr.getD (p.toNat + 1 + j) 0) = true → plN (fr.getD (p.toNat + 1 + j) 0) ∈ objs
structure Inv (fr objs : List Int) (scan : Nat) (c : Col) (fs : List Int) : Prop where
  nd : fs.Nodup
  sub : ∀ p ∈ fs, p ∈ objs
  mvs : c.mvs = mvOf fr 0 fs
  fn : ∀ q t, c.fn q = some t ↔ (⟨t, q⟩ : Mv) ∈ mvOf fr 0 fs
  len : c.dst.length = offs fr fs
  hd : ∀ t p, (⟨t, p⟩ : Mv) ∈ mvOf fr 0 fs → c.dst.getD t.toNat 0 = fr.getD p.toNat 0
  bd : ∀ t p, (⟨t, p⟩ : Mv) ∈ mvOf fr 0 fs → ∀ j, j < szN fr p →
    (t.toNat + 1 + j < scan → (isRef (fr.getD (p.toNat + 1 + j) 0) = true → ∃ u, c.fn (plN (fr.getD (p.toNat + 1 + j) 0)) = some u) ∧ c.dst.getD (t.toNat + 1 + j) 0 = trW c.fn (fr.getD (p.toNat + 1 + j) 0)) ∧
    (scan ≤ t.toNat + 1 + j → c.dst.getD (t.toNat + 1 + j) 0 = fr.getD (p.toNat + 1 + j) 0)
theorem sum_sub {f : Int → Nat} {fs objs : List Int} (hn : fs.Nodup) (hs : ∀ p ∈ fs, p ∈ objs) : (fs.map f).sum ≤ (objs.map f).sum ∧ fs.length ≤ objs.length := by
  induction fs generalizing objs with
  | nil => simp
  | cons p fs ih =>
    have hp : p ∈ objs := hs p (List.mem_cons_self ..)
    obtain ⟨h1, h2⟩ := List.nodup_cons.1 hn
    have hpm := List.perm_cons_erase hp
    have := ih (objs := objs.erase p) h2 (fun q hq => (List.mem_erase_of_ne (by rintro rfl; exact h1 hq)).2 (hs q (List.mem_cons_of_mem _ hq)))
    have e1 := (hpm.map f).sum_nat
    have e2 := hpm.length_eq
    simp only [List.map_cons, List.sum_cons, List.length_cons] at *
    omega
section
variable {fr objs : List Int} {scan : Nat} {c : Col} {fs : List Int}
theorem Inv.bounds (h : Inv fr objs scan c fs) (ho : HOk fr objs) : c.dst.length ≤ fr.length ∧ c.mvs.length ≤ fr.length ∧ fs.length ≤ objs.length := by
  have hs := sum_sub (f := fun p => 1 + szN fr p) h.nd h.sub
  have h1 : offs fr fs ≤ fr.length := by have := ho.all; unfold offs at *; omega
  refine ⟨by rw [h.len]; exact h1, ?_, hs.2⟩
  rw [h.mvs, mv_len]
  have : ∀ l : List Int, l.length ≤ offs fr l := by
    intro l; induction l with
    | nil => simp
    | cons a l ih => rw [offs_cons]; simp; omega
  exact Nat.le_trans (this fs) h1
theorem Inv.fnone (h : Inv fr objs scan c fs) (q : Int) : c.fn q = none ↔ q ∉ fs := by
  constructor
  · intro hq hm
    obtain ⟨t, ht⟩ := mv_of (fr := fr) (a := 0) hm
    rw [(h.fn q t).2 ht] at hq; cases hq
  · intro hm
    cases hc : c.fn q with
    | none => rfl
    | some t => exact (hm (mv_mem ((h.fn q t).1 hc)).1).elim
theorem Inv.mvok (h : Inv fr objs scan c fs) (ho : HOk fr objs) {y : Int} (hy : isRef y = true → plN y ∈ objs) : MvOk fr c y := by
  intro h1 h2
  obtain ⟨a, b, d⟩ := ho.fit _ (hy h1)
  exact ⟨a, b, d⟩
theorem trW_mono {fn fn' : Int → Option Int} (hm : ∀ q t, fn q = some t → fn' q = some t) {y : Int} (hd : isRef y = true → ∃ u, fn (plN y) = some u) : trW fn' y = trW fn y := by
  unfold trW
  by_cases hr : isRef y = true
  · obtain ⟨u, hu⟩ := hd hr
    rw [if_pos hr, if_pos hr, hu, hm _ _ hu]
  · rw [if_neg hr, if_neg hr]
theorem Inv.add (h : Inv fr objs scan c fs) (ho : HOk fr objs) (hsc : scan ≤ c.dst.length) {p : Int} (hp : p ∈ objs) (hf : p ∉ fs) : Inv fr objs scan (addC fr c p) (fs ++ [p]) := by
  obtain ⟨f0, f1, f2⟩ := ho.fit p hp
  have hmv : mvOf fr 0 (fs ++ [p]) = mvOf fr 0 fs ++ [⟨(c.dst.length : Int), p⟩] := by rw [mv_app, h.len]; simp [mvOf]
  have htl : (takeL fr p.toNat).length = 1 + szN fr p := by
    unfold takeL szN at *; simp only [List.length_take, List.length_drop]; omega
  have hg : ∀ j, j < 1 + szN fr p → (takeL fr p.toNat).getD j 0 = fr.getD (p.toNat + j) 0 := fun j hj => by
    unfold takeL; exact gdt hj
  have hfn : ∀ q t, c.fn q = some t → (addC fr c p).fn q = some t := by
    intro q t hq
    show (if q = p then some (c.dst.length : Int) else c.fn q) = some t
    rw [if_neg, hq]
    rintro rfl
    exact hf (mv_mem ((h.fn _ t).1 hq)).1
  refine ⟨?_, ?_, ?_, ?_, ?_, ?_, ?_⟩
  · rw [List.nodup_append]
    refine ⟨h.nd, by simp, ?_⟩
    intro a ha b hb; simp at hb; subst hb; rintro rfl; exact hf ha
  · intro q hq
    rcases List.mem_append.1 hq with hq | hq
    · exact h.sub q hq
    · simp at hq; subst hq; exact hp
  · show c.mvs ++ [_] = _
    rw [hmv, h.mvs]
  · intro q t
    show (if q = p then some (c.dst.length : Int) else c.fn q) = some t ↔ _
    rw [hmv, List.mem_append, List.mem_singleton]
    by_cases hq : q = p
    · subst hq
      rw [if_pos rfl]
      constructor
      · intro e; injection e with e; subst e; exact .inr rfl
      · rintro (e | e)
        · exact (hf (mv_mem e).1).elim
        · injection e with e _; rw [e]
    · rw [if_neg hq, h.fn q t]
      constructor
      · exact .inl
      · rintro (e | e)
        · exact e
        · injection e with _ e; exact (hq e).elim
  · show (c.dst ++ takeL fr p.toNat).length = _
    rw [List.length_append, htl, h.len, offs_app, offs_cons]
    simp [offs]
  · intro t q hm
    rw [hmv, List.mem_append, List.mem_singleton] at hm
    show (c.dst ++ takeL fr p.toNat).getD _ 0 = _
    rcases hm with hm | hm
    · have := mv_mem hm
      rw [gdl (by rw [h.len]; omega), h.hd t q hm]
    · injection hm with e1 e2; subst e1; subst e2
      rw [gdr (by simp)]
      simp only [Int.toNat_natCast, Nat.sub_self]
      rw [hg 0 (by omega)]; rfl
  · intro t q hm j hj
    rw [hmv, List.mem_append, List.mem_singleton] at hm
    show (_ → _ ∧ (c.dst ++ takeL fr p.toNat).getD _ 0 = _) ∧ (_ → (c.dst ++ takeL fr p.toNat).getD _ 0 = _)
    rcases hm with hm | hm
    · have := mv_mem hm
      rw [gdl (by rw [h.len]; omega)]
      refine ⟨fun hs => ?_, (h.bd t q hm j hj).2⟩
      obtain ⟨b1, b2⟩ := (h.bd t q hm j hj).1 hs
      refine ⟨fun hr => ?_, ?_⟩
      · obtain ⟨u, hu⟩ := b1 hr; exact ⟨u, hfn _ _ hu⟩
      · rw [b2, trW_mono hfn b1]
    · injection hm with e1 e2; subst e1; subst e2
      refine ⟨fun hs => ?_, fun _ => ?_⟩
      · simp only [Int.toNat_natCast] at hs; omega
      · rw [gdr (by simp; omega)]
        simp only [Int.toNat_natCast]
        rw [show c.dst.length + 1 + j - c.dst.length = 1 + j by omega, hg (1 + j) (by omega)]
        congr 1; omega
theorem Inv.move (h : Inv fr objs scan c fs) (ho : HOk fr objs) (hsc : scan ≤ c.dst.length) {y : Int} (hy : isRef y = true → plN y ∈ objs) :
    Inv fr objs scan (moveL fr c y).1 (disc1 fs y) ∧ (moveL fr c y).2 = trW (moveL fr c y).1.fn y ∧ (isRef y = true → ∃ u, (moveL fr c y).1.fn (plN y) = some u) ∧ (∀ q t, c.fn q = some t → (moveL fr c y).1.fn q = some t) ∧ c.dst.length ≤ (moveL fr c y).1.dst.length ∧ (∀ i, i < c.dst.length → (moveL fr c y).1.dst.getD i 0 = c.dst.getD i 0) := by
  unfold moveL disc1
  by_cases hr : isRef y = true
  · rw [if_pos hr]
    cases hf : c.fn (plN y) with
    | some t =>
      have hm : plN y ∈ fs := (mv_mem ((h.fn _ _).1 hf)).1
      rw [if_neg (by simp [hm])]
      refine ⟨h, ?_, fun _ => ⟨t, hf⟩, fun _ _ h_ => h_, Nat.le_refl _, fun _ _ => rfl⟩
      simp only [trW]; rw [if_pos hr, hf]
    | none =>
      have hm := (h.fnone _).1 hf
      rw [if_pos ⟨hr, hm⟩]
      have hx : (addC fr c (plN y)).fn (plN y) = some (c.dst.length : Int) := by show (if plN y = plN y then _ else _) = _; rw [if_pos rfl]
      refine ⟨h.add ho hsc (hy hr) hm, ?_, fun _ => ⟨_, hx⟩, ?_, ?_, ?_⟩
      · simp only [trW]; rw [if_pos hr, hx]
      · intro q t hq
        show (if q = plN y then some (c.dst.length : Int) else c.fn q) = some t
        rw [if_neg, hq]; rintro rfl; rw [hf] at hq; cases hq
      · show c.dst.length ≤ (c.dst ++ _).length; simp
      · intro i hi; exact gdl hi
  · rw [if_neg hr, if_neg (by simp [hr])]
    refine ⟨h, ?_, fun h_ => (hr h_).elim, fun _ _ h_ => h_, Nat.le_refl _, fun _ _ => rfl⟩
    simp only [trW]; rw [if_neg hr]
theorem Inv.skip (h : Inv fr objs scan c fs) {p : Int} (hm : (⟨(scan : Int), p⟩ : Mv) ∈ mvOf fr 0 fs) : Inv fr objs (scan + 1) c fs := by
  refine ⟨h.nd, h.sub, h.mvs, h.fn, h.len, h.hd, fun t q hq j hj => ⟨fun hs => (h.bd t q hq j hj).1 ?_, fun hs => (h.bd t q hq j hj).2 (by omega)⟩⟩
  have := mv_apart hm hq
  have h0 := (mv_mem hq).2.1
  rcases this with ⟨e, e2⟩ | e | e
  · omega
  · omega
  · omega
def setD (c : Col) (i : Nat) (x : Int) : Col := ⟨c.dst.set i x, c.fn, c.mvs⟩
theorem Inv.put (h : Inv fr objs scan c fs) {t p : Int} {j : Nat} (hm : (⟨t, p⟩ : Mv) ∈ mvOf fr 0 fs) (hj : j < szN fr p) (hs : scan = t.toNat + 1 + j)
    (hd : isRef (fr.getD (p.toNat + 1 + j) 0) = true → ∃ u, c.fn (plN (fr.getD (p.toNat + 1 + j) 0)) = some u) :
    Inv fr objs (scan + 1) (setD c scan (trW c.fn (fr.getD (p.toNat + 1 + j) 0))) fs := by
  have hm0 := mv_mem hm
  have hl : scan < c.dst.length := by rw [h.len]; omega
  refine ⟨h.nd, h.sub, h.mvs, h.fn, by show (c.dst.set _ _).length = _; rw [List.length_set, h.len], fun t' q hq => ?_, fun t' q hq i hi => ?_⟩
  · have := mv_apart hm hq
    have h0 := (mv_mem hq).2.1
    show (c.dst.set _ _).getD _ 0 = _
    rw [gds (by rcases this with ⟨e, e2⟩ | e | e <;> omega), h.hd t' q hq]
  · have := mv_apart hm hq
    have h0 := (mv_mem hq).2.1
    show (_ → _ ∧ (c.dst.set _ _).getD _ 0 = _) ∧ (_ → (c.dst.set _ _).getD _ 0 = _)
    by_cases he : scan = t'.toNat + 1 + i
    · have hx : t = t' ∧ p = q := by
        rcases this with e | e | e
        · exact e
        · omega
        · omega
      obtain ⟨rfl, rfl⟩ := hx
      have hij : i = j := by omega
      subst hij
      rw [← he, gde hl]
      exact ⟨fun _ => ⟨hd, rfl⟩, fun h_ => by omega⟩
    · rw [gds he]
      exact ⟨fun h_ => (h.bd t' q hq i hi).1 (by omega), fun h_ => (h.bd t' q hq i hi).2 (by omega)⟩
/-- What the order of discovery is: k objects are done. -/
def Ord (fr rs : List Int) (k : Nat) (fs : List Int) : Prop := fs = bf fr (disc [] rs) k ∧ ∀ k', k' < k → k' < (bf fr (disc [] rs) k').length
theorem disc_app (l a b : List Int) : disc l (a ++ b) = disc (disc l a) b := by unfold disc; rw [List.foldl_append]
theorem disc1_pre (l : List Int) (y : Int) : ∃ e, disc1 l y = l ++ e := by
  unfold disc1; split
  · exact ⟨_, rfl⟩
  · exact ⟨[], by simp⟩
theorem disc_pre (l ys : List Int) : ∃ e, disc l ys = l ++ e := by
  induction ys generalizing l with
  | nil => exact ⟨[], by simp [disc]⟩
  | cons y ys ih =>
    obtain ⟨e, he⟩ := disc1_pre l y
    obtain ⟨e2, h2⟩ := ih (disc1 l y)
    exact ⟨e ++ e2, by show disc (disc1 l y) ys = _; rw [h2, he, List.append_assoc]⟩
/-- While roots are moved: j of them are. -/
def RootI (fr objs rs : List Int) (j : Nat) (c : Col) (outs : List Int) : Prop :=
  Inv fr objs 0 c (disc [] (rs.take j)) ∧ outs = (rs.take j).map (trW c.fn) ∧ ∀ y ∈ rs.take j, isRef y = true → ∃ u, c.fn (plN y) = some u
/-- The roots, as they were told. -/
def Told (rs outs : List Int) (c : Col) : Prop := outs = rs.map (trW c.fn) ∧ ∀ y ∈ rs, isRef y = true → ∃ u, c.fn (plN y) = some u
/-- Ahead of an object: k of them are done. -/
def OutI (fr objs rs outs : List Int) (at_ : Nat) (c : Col) : Prop :=
  ∃ fs k, Ord fr rs k fs ∧ k ≤ fs.length ∧ at_ = offs fr (fs.take k) ∧ Inv fr objs at_ c fs ∧ Told rs outs c
/-- Within an object. -/
def InI (fr objs rs outs : List Int) (at_ n i : Nat) (c : Col) : Prop :=
  ∃ fs g k p j, Ord fr rs k g ∧ k < g.length ∧ p = g.getD k 0 ∧ n = szN fr p ∧ at_ = offs fr (g.take k) ∧ i = at_ + 1 + j ∧ j ≤ n ∧ fs = disc g ((bodyL fr p).take j) ∧ Inv fr objs i c fs ∧ Told rs outs c
def col0 : Col := ⟨[], fun _ => none, []⟩
theorem root_0 (fr objs rs : List Int) : RootI fr objs rs 0 col0 [] := by
  refine ⟨⟨by simp [disc], by simp [disc], rfl, ?_, rfl, ?_, ?_⟩, rfl, by simp⟩
  · intro q t; simp [col0, disc, mvOf]
  · intro t p h; simp [disc, mvOf] at h
  · intro t p h; simp [disc, mvOf] at h
section
variable {fr objs rs outs : List Int} {c : Col} {at' n i : Nat}
theorem root_1 (ho : HOk fr objs) (hr : ∀ y ∈ rs, isRef y = true → plN y ∈ objs) {j : Nat} (hj : j < rs.length) (h : RootI fr objs rs j c outs) :
    MvOk fr c rs[j] ∧ RootI fr objs rs (j + 1) (moveL fr c rs[j]).1 (outs ++ [(moveL fr c rs[j]).2]) := by
  obtain ⟨h1, h2, h3⟩ := h
  have hy := hr _ (List.getElem_mem hj)
  obtain ⟨m1, m2, m3, m4, m5, m6⟩ := h1.move ho (Nat.zero_le _) hy
  refine ⟨h1.mvok ho hy, ?_, ?_, ?_⟩
  · rw [List.take_succ_eq_append_getElem hj, disc_app]; exact m1
  · rw [List.take_succ_eq_append_getElem hj, List.map_append, h2, m2]
    congr 1
    apply List.map_congr_left
    intro y hy'
    exact (trW_mono m4 (h3 y hy')).symm
  · rw [List.take_succ_eq_append_getElem hj]
    intro y hy' hr'
    rcases List.mem_append.1 hy' with h_ | h_
    · obtain ⟨u, hu⟩ := h3 y h_ hr'; exact ⟨u, m4 _ _ hu⟩
    · simp at h_; subst h_; exact m3 hr'
theorem root_2 (h : RootI fr objs rs rs.length c outs) : OutI fr objs rs outs 0 c := by
  obtain ⟨h1, h2, h3⟩ := h
  rw [List.take_length] at h1 h2 h3
  exact ⟨_, 0, ⟨rfl, fun k' h_ => by omega⟩, Nat.zero_le _, by simp [offs], h1, h2, h3⟩
theorem out_in (h : OutI fr objs rs outs at' c) (hlt : at' < c.dst.length) : InI fr objs rs outs at' (longN (c.dst.getD at' 0)) (at' + 1) c ∧ at' + longN (c.dst.getD at' 0) < c.dst.length := by
  obtain ⟨fs, k, ho, hk, rfl, hi, ht⟩ := h
  have hk2 : k < fs.length := by
    rcases Nat.lt_or_ge k fs.length with h_ | h_
    · exact h_
    · rw [hi.len, List.take_of_length_le h_] at hlt; omega
  have hm := mv_at (fr := fr) hk2 0
  rw [Nat.zero_add] at hm
  have hh := hi.hd _ _ hm
  rw [Int.toNat_natCast] at hh
  have hsz : longN (c.dst.getD (offs fr (fs.take k)) 0) = szN fr (fs.getD k 0) := by rw [hh]; rfl
  rw [hsz]
  refine ⟨⟨fs, fs, k, _, 0, ho, hk2, rfl, rfl, rfl, rfl, Nat.zero_le _, by simp [disc], hi.skip hm, ht⟩, ?_⟩
  have := offs_take_lt (fr := fr) hk2
  have h2 := offs_take_le fr fs (k + 1)
  rw [hi.len]; omega
theorem out_bounds (ho : HOk fr objs) (h : OutI fr objs rs outs at' c) : at' ≤ c.dst.length ∧ c.dst.length ≤ fr.length ∧ c.mvs.length ≤ fr.length := by
  obtain ⟨fs, k, h1, h2, h3, h4, h5⟩ := h
  have := h4.bounds ho
  have h6 := offs_take_le fr fs k
  rw [← h3, ← h4.len] at h6
  exact ⟨h6, this.1, this.2.1⟩
theorem out_word (ho : HOk fr objs) (h : OutI fr objs rs outs at' c) (hlt : at' < c.dst.length) : c.dst.getD at' 0 ∈ fr := by
  obtain ⟨fs, k, h1, hk, rfl, hi, ht⟩ := h
  have hk2 : k < fs.length := by
    rcases Nat.lt_or_ge k fs.length with h_ | h_
    · exact h_
    · rw [hi.len, List.take_of_length_le h_] at hlt; omega
  have hm := mv_at (fr := fr) hk2 0
  rw [Nat.zero_add] at hm
  have hh := hi.hd _ _ hm
  rw [Int.toNat_natCast] at hh
  have hf := ho.fit _ (hi.sub _ (mv_mem hm).1)
  rw [hh, List.getD_eq_getElem?_getD, List.getElem?_eq_getElem hf.2.1]
  exact List.getElem_mem _
theorem in_mem (h : InI fr objs rs outs at' n i c) : ∃ fs p, (⟨(at' : Int), p⟩ : Mv) ∈ mvOf fr 0 fs ∧ n = szN fr p ∧ Inv fr objs i c fs := by
  obtain ⟨fs, g, k, p, j, ho, hk, hp, hn, ha, hi, hj, hf, hI, ht⟩ := h
  obtain ⟨e, he⟩ := disc_pre g ((bodyL fr p).take j)
  refine ⟨fs, p, ?_, hn, hI⟩
  rw [hf, he, mv_app, List.mem_append]
  have := mv_at (fr := fr) hk 0
  rw [Nat.zero_add, ← ha, ← hp] at this
  exact .inl this
theorem in_bounds (h : InI fr objs rs outs at' n i c) : at' + n < c.dst.length ∧ i ≤ at' + 1 + n := by
  obtain ⟨fs, p, hm, hn, hI⟩ := in_mem h
  have := mv_mem hm
  obtain ⟨fs, g, k, p, j, ho, hk, hp, hn, ha, hi, hj, hf, hI2, ht⟩ := h
  rw [hI.len]
  refine ⟨by omega, by omega⟩
theorem in_bounds2 (ho : HOk fr objs) (h : InI fr objs rs outs at' n i c) : c.dst.length ≤ fr.length ∧ c.mvs.length ≤ fr.length := by
  obtain ⟨fs, p, hm, hn, hI⟩ := in_mem h
  have := hI.bounds ho
  exact ⟨this.1, this.2.1⟩
theorem in_word (ho : HOk fr objs) (h : InI fr objs rs outs at' n i c) (hi : i ≤ at' + n) : c.dst.getD i 0 ∈ fr := by
  obtain ⟨fs, g, k, p, j, ho1, hk, hp, hn, ha, hi1, hj, hf, hI, ht⟩ := h
  obtain ⟨e, he⟩ := disc_pre g ((bodyL fr p).take j)
  have hm : (⟨(at' : Int), p⟩ : Mv) ∈ mvOf fr 0 fs := by
    rw [hf, he, mv_app, List.mem_append]
    have := mv_at (fr := fr) hk 0
    rw [Nat.zero_add, ← ha, ← hp] at this
    exact .inl this
  have hjn : j < szN fr p := by omega
  have hy : c.dst.getD i 0 = fr.getD (p.toNat + 1 + j) 0 := by
    have := (hI.bd _ _ hm j hjn).2 (by simp; omega)
    rw [← this]; simp [hi1]
  have hff := ho.fit _ (hI.sub _ (mv_mem hm).1)
  rw [hy, List.getD_eq_getElem?_getD, List.getElem?_eq_getElem (by omega)]
  exact List.getElem_mem _
theorem in_step (ho : HOk fr objs) (h : InI fr objs rs outs at' n i c) (hi : i ≤ at' + n) :
    MvOk fr c (c.dst.getD i 0) ∧ i < (moveL fr c (c.dst.getD i 0)).1.dst.length ∧ InI fr objs rs outs at' n (i + 1) (setD (moveL fr c (c.dst.getD i 0)).1 i (moveL fr c (c.dst.getD i 0)).2) := by
  obtain ⟨fs, g, k, p, j, ho1, hk, hp, hn, ha, hi1, hj, hf, hI, ht⟩ := h
  obtain ⟨e, he⟩ := disc_pre g ((bodyL fr p).take j)
  have hm : (⟨(at' : Int), p⟩ : Mv) ∈ mvOf fr 0 fs := by
    rw [hf, he, mv_app, List.mem_append]
    have := mv_at (fr := fr) hk 0
    rw [Nat.zero_add, ← ha, ← hp] at this
    exact .inl this
  have hjn : j < szN fr p := by omega
  have hmm := mv_mem hm
  have hl : i < c.dst.length := by rw [hI.len]; omega
  have hpo := hI.sub p hmm.1
  have hy : c.dst.getD i 0 = fr.getD (p.toNat + 1 + j) 0 := by
    have := (hI.bd _ _ hm j hjn).2 (by simp; omega)
    rw [← this]; simp [hi1]
  have href := ho.ref p hpo j hjn
  rw [hy]
  obtain ⟨m1, m2, m3, m4, m5, m6⟩ := hI.move ho (Nat.le_of_lt hl) href
  obtain ⟨e1, he1⟩ := disc1_pre fs (fr.getD (p.toNat + 1 + j) 0)
  have hm' : (⟨(at' : Int), p⟩ : Mv) ∈ mvOf fr 0 (disc1 fs (fr.getD (p.toNat + 1 + j) 0)) := by
    rw [he1, mv_app, List.mem_append]; exact .inl hm
  refine ⟨hI.mvok ho href, by omega, ?_⟩
  refine ⟨disc1 fs (fr.getD (p.toNat + 1 + j) 0), g, k, p, j + 1, ho1, hk, hp, hn, ha, by omega, by omega, ?_, ?_, ?_⟩
  · have hfit := ho.fit p hpo
    have hbl : j < (bodyL fr p).length := by unfold bodyL; rw [List.length_take, List.length_drop]; omega
    rw [List.take_succ_eq_append_getElem hbl, disc_app, ← hf]
    have hbg : (bodyL fr p)[j] = fr.getD (p.toNat + 1 + j) 0 := by
      have h_ : (bodyL fr p).getD j 0 = (bodyL fr p)[j] := by rw [List.getD_eq_getElem?_getD, List.getElem?_eq_getElem hbl]; rfl
      rw [← h_]; unfold bodyL; rw [gdt hjn]
    rw [hbg]; rfl
  · rw [m2]
    exact m1.put hm' hjn (by simp; omega) m3
  · obtain ⟨t1, t2⟩ := ht
    refine ⟨?_, fun y hy' hr' => ?_⟩
    · rw [t1]
      apply List.map_congr_left
      intro y hy'
      exact (trW_mono m4 (t2 y hy')).symm
    · obtain ⟨u, hu⟩ := t2 y hy' hr'; exact ⟨u, m4 _ _ hu⟩
theorem in_out (h : InI fr objs rs outs at' n (at' + 1 + n) c) : OutI fr objs rs outs (at' + (1 + n)) c := by
  obtain ⟨fs, g, k, p, j, ho1, hk, hp, hn, ha, hi1, hj, hf, hI, ht⟩ := h
  have hjn : j = n := by omega
  subst hjn
  have htk : (bodyL fr p).take j = bodyL fr p := List.take_of_length_le (by unfold bodyL; rw [List.length_take]; omega)
  rw [htk] at hf
  obtain ⟨e, he⟩ := disc_pre g (bodyL fr p)
  refine ⟨fs, k + 1, ⟨?_, ?_⟩, ?_, ?_, ?_, ht⟩
  · rw [hf, hp, ho1.1]; rfl
  · intro k' hk'
    rcases Nat.lt_or_ge k' k with h_ | h_
    · exact ho1.2 k' h_
    · have : k' = k := by omega
      subst this; rw [← ho1.1]; exact hk
  · rw [hf, he, List.length_append]; omega
  · have h2 : fs.take (k + 1) = g.take (k + 1) := by rw [hf, he, List.take_append_of_le_length (by omega)]
    rw [h2, ← offs_take_lt hk, ← hp, ← hn, ha]
  · rwa [show at' + (1 + j) = at' + 1 + j by omega]
/-- What a collector has done. -/
def Fin_ (fr objs rs outs : List Int) (c : Col) (fs : List Int) : Prop := Ord fr rs fs.length fs ∧ Inv fr objs c.dst.length c fs ∧ Told rs outs c
theorem out_fin (h : OutI fr objs rs outs at' c) (hge : c.dst.length ≤ at') : ∃ fs, Fin_ fr objs rs outs c fs := by
  obtain ⟨fs, k, ho, hk, ha, hi, ht⟩ := h
  have hk2 : k = fs.length := by
    rcases Nat.lt_or_ge k fs.length with h_ | h_
    · have := offs_take_lt (fr := fr) h_
      have h2 := offs_take_le fr fs (k + 1)
      rw [hi.len] at hge; omega
    · omega
  subst hk2
  have : at' = c.dst.length := by rw [ha, hi.len, List.take_length]
  subst this
  exact ⟨fs, ho, hi, ht⟩
end
end
end Go.Proofs.Ytoleplbmkdhgeaa.Hal
