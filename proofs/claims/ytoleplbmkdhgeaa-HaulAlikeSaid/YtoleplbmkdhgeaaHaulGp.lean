/- Package haul: what Collect leaves: plain law. -/
import Derived.Test.YtoleplbmkdhgeaaHaulGo
set_option linter.unusedVariables false
set_option linter.unusedSimpArgs false
namespace Go.Proofs.Ytoleplbmkdhgeaa.Hal
open Go.RowKit Go.Proofs.YtoleplbmkdhgeaaW.PrintWords Go.Proofs.YtoleplbmkdhgeaaW.PrintLast Go.Proofs.YtoleplbmkdhgeaaW.PrintMore Go.Proofs.Ytoleplbmkdhgeaa.PQ Go.Proofs.Ytoleplbmkdhgeaa.Hnd Go.Proofs.Ytoleplbmkdhgeaa.Nb

def tos (c : Col) : List Int := c.mvs.map (fun m => m.f0)
def phi (c : Col) (q : Int) : Int := (c.fn q).getD 0
theorem mv_f1 (fr : List Int) : ∀ (fs : List Int) (a : Nat), (mvOf fr a fs).map (fun m => m.f1) = fs := by
  intro fs
  induction fs with
  | nil => intro a; rfl
  | cons p fs ih => intro a; simp only [mvOf, List.map_cons, ih]
theorem mv_to {fr dst : List Int} : ∀ (fs : List Int) (a : Nat), (∀ t p, (⟨t, p⟩ : Mv) ∈ mvOf fr a fs → szN dst t = szN fr p) →
    mvOf dst a ((mvOf fr a fs).map (fun m => m.f0)) = ((mvOf fr a fs).map (fun m => m.f0)).map (fun p => (⟨p, p⟩ : Mv)) ∧ offs dst ((mvOf fr a fs).map (fun m => m.f0)) = offs fr fs := by
  intro fs
  induction fs with
  | nil => intro a h; exact ⟨rfl, rfl⟩
  | cons p fs ih =>
    intro a h
    have h0 := h (a : Int) p (by simp [mvOf])
    obtain ⟨i1, i2⟩ := ih (a + (1 + szN fr p)) (fun t q hm => h t q (by simp only [mvOf]; exact List.mem_cons_of_mem _ hm))
    simp only [mvOf, List.map_cons, offs_cons, h0]
    exact ⟨by rw [i1], by rw [i2]⟩
section
variable {fr rs objs outs : List Int} {c : Col} {fs : List Int}
theorem fin_all (F : Fin_ fr objs rs outs c fs) {t p : Int} (hm : (⟨t, p⟩ : Mv) ∈ mvOf fr 0 fs) : 0 ≤ t ∧ c.dst.getD t.toNat 0 = fr.getD p.toNat 0 ∧ szN c.dst t = szN fr p ∧ t.toNat + 1 + szN fr p ≤ c.dst.length ∧ p ∈ fs ∧ c.fn p = some t ∧
    ∀ j, j < szN fr p → (isRef (fr.getD (p.toNat + 1 + j) 0) = true → ∃ u, c.fn (plN (fr.getD (p.toNat + 1 + j) 0)) = some u) ∧ c.dst.getD (t.toNat + 1 + j) 0 = trW c.fn (fr.getD (p.toNat + 1 + j) 0) := by
  obtain ⟨F1, F2, F3⟩ := F
  have h0 := mv_mem hm
  have h1 := F2.hd t p hm
  have hl := F2.len
  refine ⟨by omega, h1, by unfold szN; rw [h1], by omega, h0.1, (F2.fn p t).2 hm, fun j hj => (F2.bd t p hm j hj).1 (by omega)⟩
theorem fin_tos (F : Fin_ fr objs rs outs c fs) : tos c = fs.map (phi c) ∧ tos c = (mvOf fr 0 fs).map (fun m => m.f0) := by
  have hm : tos c = (mvOf fr 0 fs).map (fun m => m.f0) := by unfold tos; rw [F.2.1.mvs]
  refine ⟨?_, hm⟩
  rw [hm]
  conv => rhs; rw [← mv_f1 fr fs 0]
  rw [List.map_map]
  apply List.map_congr_left
  intro m h
  have := (F.2.1.fn m.f1 m.f0).2 h
  show m.f0 = phi c m.f1
  unfold phi; rw [this]; rfl
theorem fin_cov (F : Fin_ fr objs rs outs c fs) : Cov c.dst 0 (tos c) := by
  obtain ⟨h1, h2⟩ := mv_to (fr := fr) (dst := c.dst) fs 0 (fun t p hm => (fin_all F hm).2.2.1)
  rw [← (fin_tos F).2] at h1 h2
  exact ⟨h1, by rw [Nat.zero_add, h2, F.2.1.len]⟩
theorem fin_len (H : Heap fr rs objs) (F : Fin_ fr objs rs outs c fs) : c.dst.length ≤ fr.length ∧ fs.length ≤ objs.length ∧ outs.length = rs.length ∧ (tos c).length = fs.length ∧ c.mvs.length = fs.length := by
  have := F.2.1.bounds H.ok
  refine ⟨this.1, this.2.2, by rw [F.2.2.1, List.length_map], by rw [(fin_tos F).1, List.length_map], by rw [F.2.1.mvs, mv_len]⟩
/-- A translated word. -/
theorem tr_ok (H : Heap fr rs objs) (F : Fin_ fr objs rs outs c fs) {y : Int} (hy : U64 y) (hv : rightB (mem objs) y = true) (hd : isRef y = true → ∃ u, c.fn (plN y) = some u) :
    U64 (trW c.fn y) ∧ rightB (mem (tos c)) (trW c.fn y) = true ∧ isRef (trW c.fn y) = isRef y ∧ (isRef y = true → plN (trW c.fn y) = phi c (plN y) ∧ plN y ∈ fs) := by
  by_cases hr : isRef y = true
  · obtain ⟨u, hu⟩ := hd hr
    have hm := (F.2.1.fn _ _).1 hu
    obtain ⟨f1, f2, f3, f4, f5, f6, f7⟩ := fin_all F hm
    have hl := fin_len H F
    have := H.len
    have ht : trW c.fn y = refW u := by unfold trW; rw [if_pos hr, hu]
    obtain ⟨r1, r2, r3, r4⟩ := refW_is (u := u) (by omega) (by omega)
    rw [ht]
    refine ⟨r3, ?_, by rw [r1, hr], fun _ => ⟨by rw [r2]; unfold phi; rw [hu]; rfl, f5⟩⟩
    unfold rightB
    rw [r4, r1, r2]
    have hmt : u ∈ tos c := by rw [(fin_tos F).2]; exact List.mem_map.2 ⟨_, hm, rfl⟩
    rw [mem_iff.2 hmt]; rfl
  · have ht : trW c.fn y = y := by unfold trW; rw [if_neg hr]
    rw [ht]
    refine ⟨hy, ?_, rfl, fun h => (hr h).elim⟩
    unfold rightB at hv ⊢
    have hr' : isRef y = false := by simpa using hr
    rw [hr'] at hv ⊢
    simpa using hv
theorem getD_mem {l : List Int} {i : Nat} (h : i < l.length) : l.getD i 0 ∈ l := by
  rw [List.getD_eq_getElem?_getD, List.getElem?_eq_getElem h]; exact List.getElem_mem _
theorem word_ok (H : Heap fr rs objs) (hU : ∀ x ∈ fr, U64 x) (F : Fin_ fr objs rs outs c fs) {t p : Int} (hm : (⟨t, p⟩ : Mv) ∈ mvOf fr 0 fs) {j : Nat} (hj : j < szN fr p) :
    U64 (fr.getD (p.toNat + 1 + j) 0) ∧ rightB (mem objs) (fr.getD (p.toNat + 1 + j) 0) = true := by
  have hp := F.2.1.sub p (mv_mem hm).1
  have hf := H.ok.fit p hp
  exact ⟨hU _ (getD_mem (by omega)), H.val p hp j hj⟩
theorem fin_u64 (H : Heap fr rs objs) (hU : ∀ x ∈ fr, U64 x) (hV : ∀ x ∈ rs, U64 x) (F : Fin_ fr objs rs outs c fs) : (∀ x ∈ c.dst, U64 x) ∧ (∀ x ∈ outs, U64 x) := by
  constructor
  · intro x hx
    obtain ⟨i, hi, rfl⟩ := List.getElem_of_mem hx
    have he : c.dst[i] = c.dst.getD i 0 := by rw [List.getD_eq_getElem?_getD, List.getElem?_eq_getElem hi]; rfl
    rw [he]
    obtain ⟨t, p, hm, h⟩ := mv_cover (fr := fr) fs 0 i (Nat.zero_le _) (by rw [← F.2.1.len]; omega)
    obtain ⟨f1, f2, f3, f4, f5, f6, f7⟩ := fin_all F hm
    rcases h with h | ⟨j, hj, h⟩
    · have : t.toNat = i := by omega
      rw [← this, f2]
      have hf := H.ok.fit p (F.2.1.sub p f5)
      exact hU _ (getD_mem hf.2.1)
    · have : t.toNat + 1 + j = i := by omega
      rw [← this, (f7 j hj).2]
      obtain ⟨w1, w2⟩ := word_ok H hU F hm hj
      exact (tr_ok H F w1 w2 (f7 j hj).1).1
  · intro x hx
    rw [F.2.2.1] at hx
    obtain ⟨y, hy, rfl⟩ := List.mem_map.1 hx
    exact (tr_ok H F (hV y hy) (H.rval y hy) (F.2.2.2 y hy)).1
theorem fin_chk (H : Heap fr rs objs) (hU : ∀ x ∈ fr, U64 x) (hV : ∀ x ∈ rs, U64 x) (F : Fin_ fr objs rs outs c fs) : chkE c.dst outs (tos c) true = 0 := by
  have hl := fin_len H F
  have h1 := H.len
  have h2 := H.rlen
  refine chk_of (by omega) (by omega) (fun i hi => ?_) (fun z hz => ?_)
  · obtain ⟨t, p, hm, h⟩ := mv_cover (fr := fr) fs 0 i (Nat.zero_le _) (by rw [← F.2.1.len]; omega)
    obtain ⟨f1, f2, f3, f4, f5, f6, f7⟩ := fin_all F hm
    unfold wordOk
    rcases h with h | ⟨j, hj, h⟩
    · have hmt : (i : Int) ∈ tos c := by rw [(fin_tos F).2, ← h]; exact List.mem_map.2 ⟨_, hm, rfl⟩
      rw [mem_iff.2 hmt]; rfl
    · have : t.toNat + 1 + j = i := by omega
      rw [← this, (f7 j hj).2]
      obtain ⟨w1, w2⟩ := word_ok H hU F hm hj
      rw [(tr_ok H F w1 w2 (f7 j hj).1).2.1, Bool.or_true]
  · rw [F.2.2.1] at hz
    obtain ⟨y, hy, rfl⟩ := List.mem_map.1 hz
    exact (tr_ok H F (hV y hy) (H.rval y hy) (F.2.2.2 y hy)).2.1
theorem fin_obj (F : Fin_ fr objs rs outs c fs) : objF c.dst = (tos c, true) := cov_objW _ _ 0 (fin_cov F) (by omega)
theorem fin_heap (H : Heap fr rs objs) (hU : ∀ x ∈ fr, U64 x) (hV : ∀ x ∈ rs, U64 x) (F : Fin_ fr objs rs outs c fs) : Heap c.dst outs (tos c) := by
  have h := fin_chk H hU hV F
  have ho := fin_obj F
  have := (heap_of (fr := c.dst) (rs := outs) (by rw [ho]; exact h)).2
  rw [ho] at this
  exact this
theorem phi_inj (F : Fin_ fr objs rs outs c fs) {p q : Int} (hp : p ∈ fs) (hq : q ∈ fs) (h : phi c p = phi c q) : p = q := by
  obtain ⟨t, ht⟩ := mv_of (fr := fr) (a := 0) hp
  obtain ⟨u, hu⟩ := mv_of (fr := fr) (a := 0) hq
  have e1 := (F.2.1.fn _ _).2 ht
  have e2 := (F.2.1.fn _ _).2 hu
  unfold phi at h
  rw [e1, e2] at h
  simp only [Option.getD_some] at h
  rcases mv_apart ht hu with ⟨_, e⟩ | e | e
  · exact e
  · omega
  · omega
theorem disc_map (H : Heap fr rs objs) (F : Fin_ fr objs rs outs c fs) : ∀ (ys l : List Int), (∀ p ∈ l, p ∈ fs) → (∀ y ∈ ys, U64 y ∧ rightB (mem objs) y = true ∧ (isRef y = true → ∃ u, c.fn (plN y) = some u)) →
    disc (l.map (phi c)) (ys.map (trW c.fn)) = (disc l ys).map (phi c) ∧ ∀ p ∈ disc l ys, p ∈ fs := by
  intro ys
  induction ys with
  | nil => intro l hl _; exact ⟨rfl, hl⟩
  | cons y ys ih =>
    intro l hl hys
    obtain ⟨y1, y2, y3⟩ := hys y (List.mem_cons_self ..)
    obtain ⟨t1, t2, t3, t4⟩ := tr_ok H F y1 y2 y3
    have hstep : disc1 (l.map (phi c)) (trW c.fn y) = (disc1 l y).map (phi c) ∧ ∀ p ∈ disc1 l y, p ∈ fs := by
      unfold disc1
      rw [t3]
      by_cases hr : isRef y = true
      · obtain ⟨p1, p2⟩ := t4 hr
        rw [p1]
        by_cases hm : plN y ∈ l
        · have hx : phi c (plN y) ∈ l.map (phi c) := List.mem_map.2 ⟨_, hm, rfl⟩
          rw [if_neg (fun h => h.2 hx), if_neg (fun h => h.2 hm)]
          exact ⟨rfl, hl⟩
        · have hx : phi c (plN y) ∉ l.map (phi c) := fun h => by
            obtain ⟨q, hq, e⟩ := List.mem_map.1 h
            exact hm (phi_inj F (hl q hq) p2 e ▸ hq)
          rw [if_pos ⟨hr, hx⟩, if_pos ⟨hr, hm⟩]
          refine ⟨by simp, fun p hp => ?_⟩
          rcases List.mem_append.1 hp with h | h
          · exact hl p h
          · simp at h; rw [h]; exact p2
      · rw [if_neg (by simp [hr]), if_neg (by simp [hr])]
        exact ⟨rfl, hl⟩
    have hi := ih (disc1 l y) hstep.2 (fun z hz => hys z (List.mem_cons_of_mem _ hz))
    refine ⟨?_, hi.2⟩
    show disc (disc1 (l.map (phi c)) (trW c.fn y)) (ys.map (trW c.fn)) = (disc (disc1 l y) ys).map (phi c)
    rw [hstep.1]
    exact hi.1
theorem body_map (H : Heap fr rs objs) (hU : ∀ x ∈ fr, U64 x) (F : Fin_ fr objs rs outs c fs) {p : Int} (hp : p ∈ fs) : bodyL c.dst (phi c p) = (bodyL fr p).map (trW c.fn) ∧ ∀ y ∈ bodyL fr p, U64 y ∧ rightB (mem objs) y = true ∧ (isRef y = true → ∃ u, c.fn (plN y) = some u) := by
  obtain ⟨t, hm⟩ := mv_of (fr := fr) (a := 0) hp
  obtain ⟨f1, f2, f3, f4, f5, f6, f7⟩ := fin_all F hm
  have hph : phi c p = (t : Int) := by unfold phi; rw [f6]; rfl
  have hf := H.ok.fit p (F.2.1.sub p hp)
  have hl1 : (bodyL c.dst (t : Int)).length = szN fr p := by unfold bodyL; rw [List.length_take, List.length_drop, f3]; omega
  have hl2 : (bodyL fr p).length = szN fr p := by unfold bodyL; rw [List.length_take, List.length_drop]; omega
  have hg : ∀ j, j < szN fr p → (bodyL fr p).getD j 0 = fr.getD (p.toNat + 1 + j) 0 := fun j hj => by unfold bodyL; exact gdt hj
  refine ⟨?_, fun y hy => ?_⟩
  · rw [hph]
    apply List.ext_getElem (by rw [List.length_map, hl1, hl2])
    intro j h1 h2
    rw [List.getElem_map]
    have hj : j < szN fr p := by omega
    have e1 : (bodyL c.dst (t : Int))[j] = (bodyL c.dst (t : Int)).getD j 0 := by rw [List.getD_eq_getElem?_getD, List.getElem?_eq_getElem h1]; rfl
    have e2 : (bodyL fr p)[j]'(by omega) = (bodyL fr p).getD j 0 := by rw [List.getD_eq_getElem?_getD, List.getElem?_eq_getElem (by omega)]; rfl
    rw [e1, e2, hg j hj, ← (f7 j hj).2]
    unfold bodyL
    rw [gdt (by rw [f3]; exact hj)]
  · obtain ⟨j, hj, rfl⟩ := List.getElem_of_mem hy
    have e2 : (bodyL fr p)[j] = (bodyL fr p).getD j 0 := by rw [List.getD_eq_getElem?_getD, List.getElem?_eq_getElem hj]; rfl
    rw [e2, hg j (by omega)]
    obtain ⟨w1, w2⟩ := word_ok H hU F hm (j := j) (by omega)
    exact ⟨w1, w2, (f7 j (by omega)).1⟩
theorem bf_map (H : Heap fr rs objs) (hU : ∀ x ∈ fr, U64 x) (hV : ∀ x ∈ rs, U64 x) (F : Fin_ fr objs rs outs c fs) : ∀ k, k ≤ fs.length → bf c.dst (disc [] outs) k = (bf fr (disc [] rs) k).map (phi c) ∧ ∀ p ∈ bf fr (disc [] rs) k, p ∈ fs := by
  intro k
  induction k with
  | zero =>
    intro _
    have := disc_map H F rs [] (by simp) (fun y hy => ⟨hV y hy, H.rval y hy, F.2.2.2 y hy⟩)
    rw [← F.2.2.1] at this
    exact this
  | succ k ih =>
    intro hk
    obtain ⟨i1, i2⟩ := ih (by omega)
    have hlt := F.1.2 k (by omega)
    have hp : (bf fr (disc [] rs) k).getD k 0 ∈ fs := i2 _ (getD_mem hlt)
    obtain ⟨b1, b2⟩ := body_map H hU F hp
    have hd := disc_map H F (bodyL fr ((bf fr (disc [] rs) k).getD k 0)) _ i2 b2
    have he : (bf c.dst (disc [] outs) k).getD k 0 = phi c ((bf fr (disc [] rs) k).getD k 0) := by
      rw [i1]
      simp [List.getD_eq_getElem?_getD, List.getElem?_eq_getElem hlt]
    refine ⟨?_, hd.2⟩
    show disc (bf c.dst (disc [] outs) k) (bodyL c.dst _) = (disc (bf fr (disc [] rs) k) (bodyL fr _)).map (phi c)
    rw [he, i1, b1]
    exact hd.1
/-- Collected again: everything stays. -/
theorem fin_again (H : Heap fr rs objs) (hU : ∀ x ∈ fr, U64 x) (hV : ∀ x ∈ rs, U64 x) (F : Fin_ fr objs rs outs c fs) {c2 : Col} {fs2 outs2 : List Int} (F2 : Fin_ c.dst (tos c) outs outs2 c2 fs2) :
    fs2 = tos c ∧ c2.mvs = (tos c).map (fun p => (⟨p, p⟩ : Mv)) ∧ c2.dst = c.dst ∧ outs2 = outs := by
  have hk := bf_map H hU hV F
  have h1 := hk fs.length (Nat.le_refl _)
  rw [← F.1.1, ← (fin_tos F).1] at h1
  have hfs : fs2 = tos c := by
    have hlt : (tos c).length = fs.length := (fin_len H F).2.2.2.1
    rcases Nat.lt_trichotomy fs2.length fs.length with h | h | h
    · have h2 := (hk fs2.length (by omega)).1
      rw [← F2.1.1] at h2
      have h3 := F.1.2 fs2.length h
      have h4 := congrArg List.length h2
      rw [List.length_map] at h4
      omega
    · rw [F2.1.1, h]; exact h1.1
    · have h3 := F2.1.2 fs.length h
      rw [h1.1] at h3
      omega
  subst hfs
  have hcov := fin_cov F
  have hmv : c2.mvs = (tos c).map (fun p => (⟨p, p⟩ : Mv)) := by rw [F2.2.1.mvs, hcov.1]
  have hid : ∀ q u, c2.fn q = some u → u = q := by
    intro q u h
    have := (F2.2.1.fn q u).1 h
    rw [hcov.1] at this
    obtain ⟨x, _, e⟩ := List.mem_map.1 this
    injection e with e1 e2
    exact e1.symm.trans e2
  have htr : ∀ z, U64 z → trW c2.fn z = z := by
    intro z hz
    unfold trW
    by_cases hr : isRef z = true
    · rw [if_pos hr]
      cases hc : c2.fn (plN z) with
      | none => rfl
      | some u => rw [hid _ _ hc]; exact refW_pl hz hr
    · rw [if_neg hr]
  have hu := fin_u64 H hU hV F
  refine ⟨rfl, hmv, ?_, ?_⟩
  · have hl : c2.dst.length = c.dst.length := by rw [F2.2.1.len]; have := hcov.2; omega
    apply List.ext_getElem hl
    intro i h1 h2
    have e1 : c2.dst[i] = c2.dst.getD i 0 := by rw [List.getD_eq_getElem?_getD, List.getElem?_eq_getElem h1]; rfl
    have e2 : c.dst[i] = c.dst.getD i 0 := by rw [List.getD_eq_getElem?_getD, List.getElem?_eq_getElem h2]; rfl
    rw [e1, e2]
    obtain ⟨t, p, hm, h⟩ := mv_cover (fr := c.dst) (tos c) 0 i (Nat.zero_le _) (by have := hcov.2; omega)
    have htp : t = p := by
      rw [hcov.1] at hm
      obtain ⟨x, _, e⟩ := List.mem_map.1 hm
      injection e with e1 e2
      exact e1.symm.trans e2
    subst htp
    obtain ⟨f1, f2, f3, f4, f5, f6, f7⟩ := fin_all F2 hm
    rcases h with h | ⟨j, hj, h⟩
    · have : t.toNat = i := by omega
      rw [← this, f2]
    · have : t.toNat + 1 + j = i := by omega
      rw [← this, (f7 j hj).2, htr]
      exact hu.1 _ (getD_mem (by omega))
  · rw [F2.2.2.1]
    conv => rhs; rw [← List.map_id outs]
    apply List.map_congr_left
    intro z hz
    exact htr z (hu.2 z hz)
/-- What is reached is closed. -/
theorem fin_closed (F : Fin_ fr objs rs outs c fs) : (∀ y ∈ rs, isRef y = true → plN y ∈ fs) ∧ ∀ p ∈ fs, ∀ j, j < szN fr p → isRef (fr.getD (p.toNat + 1 + j) 0) = true → plN (fr.getD (p.toNat + 1 + j) 0) ∈ fs := by
  refine ⟨fun y hy hr => ?_, fun p hp j hj hr => ?_⟩
  · obtain ⟨u, hu⟩ := F.2.2.2 y hy hr
    exact (mv_mem ((F.2.1.fn _ _).1 hu)).1
  · obtain ⟨t, hm⟩ := mv_of (fr := fr) (a := 0) hp
    obtain ⟨u, hu⟩ := ((fin_all F hm).2.2.2.2.2.2 j hj).1 hr
    exact (mv_mem ((F.2.1.fn _ _).1 hu)).1
theorem disc_sub {S : List Int} : ∀ (ys l : List Int), (∀ p ∈ l, p ∈ S) → (∀ y ∈ ys, isRef y = true → plN y ∈ S) → ∀ p ∈ disc l ys, p ∈ S := by
  intro ys
  induction ys with
  | nil => intro l hl _; exact hl
  | cons y ys ih =>
    intro l hl hy
    refine ih (disc1 l y) (fun p hp => ?_) (fun z hz => hy z (List.mem_cons_of_mem _ hz))
    unfold disc1 at hp
    split at hp
    · rename_i h
      rcases List.mem_append.1 hp with h_ | h_
      · exact hl p h_
      · simp at h_; rw [h_]; exact hy y (List.mem_cons_self ..) h.1
    · exact hl p hp
/-- Fewer roots reach less. -/
theorem fin_less (H : Heap fr rs objs) {rs' outs' fs' : List Int} {c' : Col} (F : Fin_ fr objs rs outs c fs) (F' : Fin_ fr objs rs' outs' c' fs') (hs : ∀ y ∈ rs', y ∈ rs) : ∀ p ∈ fs', p ∈ fs := by
  obtain ⟨k1, k2⟩ := fin_closed F
  have : ∀ k, k ≤ fs'.length → ∀ p ∈ bf fr (disc [] rs') k, p ∈ fs := by
    intro k
    induction k with
    | zero => intro _; exact disc_sub rs' [] (by simp) (fun y hy hr => k1 y (hs y hy) hr)
    | succ k ih =>
      intro hk
      have i := ih (by omega)
      have hlt := F'.1.2 k (by omega)
      have hp := i _ (getD_mem hlt)
      refine disc_sub _ _ i (fun y hy hr => ?_)
      have hf := H.ok.fit _ (F.2.1.sub _ hp)
      generalize (bf fr (disc [] rs') k).getD k 0 = p at hp hy hf
      obtain ⟨j, hj, rfl⟩ := List.getElem_of_mem hy
      have hl2 : j < szN fr p := by
        unfold bodyL at hj; rw [List.length_take] at hj; omega
      have e : (bodyL fr p)[j] = fr.getD (p.toNat + 1 + j) 0 := by
        have e2 : (bodyL fr p)[j] = (bodyL fr p).getD j 0 := by rw [List.getD_eq_getElem?_getD, List.getElem?_eq_getElem hj]; rfl
        rw [e2]; unfold bodyL; rw [gdt hl2]
      rw [e] at hr ⊢
      exact k2 _ hp j hl2 hr
  have h := this fs'.length (Nat.le_refl _)
  rw [← F'.1.1] at h
  exact h
theorem fin_none {outs' fs' : List Int} {c' : Col} (F' : Fin_ fr objs [] outs' c' fs') : c'.mvs = [] ∧ c'.dst = [] ∧ fs' = [] := by
  have h0 : fs' = [] := by
    rcases Nat.eq_zero_or_pos fs'.length with h | h
    · exact List.eq_nil_of_length_eq_zero h
    · have := F'.1.2 0 h; simp [bf, disc] at this
  subst h0
  refine ⟨F'.2.1.mvs, List.eq_nil_of_length_eq_zero (by rw [F'.2.1.len]; rfl), rfl⟩
/-- All objects are roots: all stay. -/
theorem fin_whole (H : Heap fr rs objs) (F : Fin_ fr objs rs outs c fs) (hr : ∀ p ∈ objs, ∃ y ∈ rs, isRef y = true ∧ plN y = p) : c.dst.length = fr.length ∧ c.mvs.length = objs.length := by
  have hs : ∀ p ∈ objs, p ∈ fs := by
    intro p hp
    obtain ⟨y, hy, h1, h2⟩ := hr p hp
    rw [← h2]; exact (fin_closed F).1 y hy h1
  have h1 := sum_sub (f := fun p => 1 + szN fr p) H.ok.nd hs
  have h2 := sum_sub (f := fun p => 1 + szN fr p) F.2.1.nd F.2.1.sub
  have h3 := H.ok.all
  have h4 := F.2.1.len
  have h5 := (fin_len H F).2.2.2.2
  unfold offs at h3 h4
  refine ⟨by omega, by omega⟩
end
end Go.Proofs.Ytoleplbmkdhgeaa.Hal
