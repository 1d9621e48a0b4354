/- What came in, read as lists and numbers, and measured: for the statements of the second form. -/
import Derived.Test.YtecaemebamhamaaWWords
import Derived.ProofKit
import Derived.SizedLaws
import Derived.Test.YtecaemebamhamaaRows
import Derived.JoinedCond
set_option linter.unusedVariables false
set_option linter.unusedSimpArgs false
namespace Go.Proofs.Ytecaemebamhamaa.OpnB
open Go.RowKit Go.Proofs.YtecaemebamhamaaW.PrintWords

theorem mapM_get {α β : Type} {f : α → Option β} : ∀ {l : List α} {r : List β}, l.mapM f = some r → r.length = l.length ∧ ∀ (i : Nat) (a : α), l[i]? = some a → r[i]? = f a
  | [], r, h => by
    simp at h
    subst h
    exact ⟨rfl, fun i a ha => by simp at ha⟩
  | a :: l, r, h => by
    simp only [List.mapM_cons, Option.pure_def, Option.bind_eq_bind, Option.bind_eq_some_iff] at h
    obtain ⟨b, hb, r', hr, e⟩ := h
    simp only [Option.some.injEq] at e
    subst e
    obtain ⟨h1, h2⟩ := mapM_get hr
    refine ⟨by simp [h1], fun i c hc => ?_⟩
    cases i with
    | zero =>
      simp only [List.getElem?_cons_zero, Option.some.injEq] at hc
      subst hc
      simp [hb]
    | succ i => simpa using h2 i c (by simpa using hc)
theorem cells_get {w : World} {base : Nat} {a : Addr} {n : Nat} {cs : List Value} (h : w.cells? base a n = some cs) : cs.length = n ∧ ∀ i u, cs[i]? = some u → w.cell? (a.add i) = some u := by
  unfold World.cells? at h
  split at h
  · obtain ⟨h1, h2⟩ := mapM_get h
    rw [List.length_range] at h1
    refine ⟨h1, fun i u hu => ?_⟩
    have hi : i < n := by
      have := (List.getElem?_eq_some_iff.1 hu).1
      omega
    rw [← h2 i i (by simp [hi]), hu]
  · exact absurd h (by simp)
theorem add_add (a : Addr) (i j : Nat) : (a.add i).add j = a.add (i + j) := by
  unfold Addr.add
  by_cases hi : i = 0 <;> by_cases hj : j = 0 <;> simp [hi, hj, Nat.add_assoc]
theorem choose_list {α : Type} (Q : Nat → α → Prop) : ∀ n : Nat, (∀ i, i < n → ∃ v, Q i v) → ∃ vs : List α, vs.length = n ∧ ∀ i v, vs[i]? = some v → Q i v
  | 0, _ => ⟨[], rfl, fun i v h => by simp at h⟩
  | n + 1, h => by
    obtain ⟨vs, hl, hv⟩ := choose_list Q n (fun i hi => h i (by omega))
    obtain ⟨v, hq⟩ := h n (by omega)
    refine ⟨vs ++ [v], by simp [hl], fun i u hu => ?_⟩
    rcases Nat.lt_or_ge i n with hi | hi
    · rw [List.getElem?_append_left (by omega)] at hu
      exact hv i u hu
    · have : i = n := by
        have := (List.getElem?_eq_some_iff.1 hu).1
        simp at this
        omega
      subst this
      have hu' : v = u := by
        rw [List.getElem?_append_right (by omega), hl] at hu
        simpa using hu
      subst hu'
      exact hq
/-- Whatever is read at type t is of kind d, good, and of bulk at least m. -/
def OpensB {α : Type} (P : Program) (t : TypeId) (d : Kd α) (m : α → Nat) (G : α → Prop) : Prop :=
  ∀ (H : Type) (enc : TypeId × Value → H) (w : World) (base : Nat) (sp : Nat → Bool) (hd : Bool) (fuel : Nat) (cs : List Value) (x : DataW H × List MemPlace),
    DataW.trod enc P w base sp hd fuel t cs = some x → ∃ v, d.K w v cs ∧ G v ∧ m v ≤ Rows.uptoBulk x.1
def mOne {α : Type} (_ : α) : Nat := 1
def mStr (s : ByteArray) : Nat := s.size + 1
def mList {α : Type} (m : α → Nat) (xs : List α) : Nat := (xs.map m).sum + 1
def GAll {α : Type} (G : α → Prop) (xs : List α) : Prop := xs.length ≤ maxLen ∧ ∀ x ∈ xs, G x

theorem opensB_int {P : Program} {t : TypeId} {k : IntKind} (ht : P.underlying t = some (.int k)) : OpensB P t (Kd.int k) mOne (fun n => (Lit.int k n).wf = true) := by
  intro H enc w base sp hd fuel cs x h
  obtain ⟨n, rfl, rfl, hw⟩ := DataW.trod_int ht h
  exact ⟨n, rfl, hw, by simp [mOne, Rows.uptoBulk]⟩
theorem opensB_bool {P : Program} {t : TypeId} (ht : P.underlying t = some .bool) : OpensB P t Kd.bool mOne (fun _ => True) := by
  intro H enc w base sp hd fuel cs x h
  obtain ⟨n, rfl, rfl⟩ := DataW.trod_bool ht h
  exact ⟨n, rfl, trivial, by simp [mOne, Rows.uptoBulk]⟩
theorem opensB_string {P : Program} {t : TypeId} (ht : P.underlying t = some .string) : OpensB P t Kd.string mStr (fun _ => True) := by
  intro H enc w base sp hd fuel cs x h
  obtain ⟨s, rfl, rfl, hm⟩ := DataW.trod_string ht h
  refine ⟨s, rfl, trivial, ?_⟩
  have e : s.data.toList.length = s.size := by simp
  simp only [mStr, Rows.uptoBulk, e]
  exact Nat.le_refl _

theorem sum_le {H α : Type} (m : α → Nat) : ∀ (vs : List α) (ds : List (DataW H)), vs.length = ds.length → (∀ (i : Nat) (v : α) (d : DataW H), vs[i]? = some v → ds[i]? = some d → m v ≤ Rows.uptoBulk d) → (vs.map m).sum ≤ Rows.uptoBulkAll ds
  | [], _, _, _ => by simp
  | v :: vs, [], h, _ => by simp at h
  | v :: vs, d :: ds, h, hv => by
    have h1 := hv 0 v d rfl rfl
    have h2 := sum_le m vs ds (by simpa using h) (fun i u e hu he => hv (i + 1) u e (by simpa using hu) (by simpa using he))
    simp only [List.map_cons, List.sum_cons, Rows.uptoBulkAll]
    omega
theorem opensB_slice {P : Program} {t e : TypeId} {α : Type} {d : Kd α} {m : α → Nat} {G : α → Prop} (ht : P.underlying t = some (.slice e)) (hc : P.cellsOf e = d.sz) (h : OpensB P e d m G) : OpensB P t (Kd.slice e d) (mList m) (GAll G) := by
  intro H enc w base sp hd fuel cs x hx
  rcases DataW.trod_slice ht hx with ⟨rfl, rfl⟩ | ⟨a, len, cap, elems, rest, n, rfl, rfl, rfl, hb, hl, hm, he, hel, hsp, hnsp⟩
  · exact ⟨[], ⟨none, 0, rfl, Nat.le_refl _, rfl, by simp, fun h => absurd h (by simp)⟩, ⟨Nat.zero_le _, fun x hx => by simp at hx⟩, by simp [mList, Rows.uptoBulk]⟩
  · obtain ⟨vs, hvl, hvs⟩ := choose_list (fun i (v : α) => ∃ c x, w.cells? base (a.add (i * P.cellsOf e)) (P.cellsOf e) = some c ∧ d.K w v c ∧ G v ∧ elems[i]? = some x ∧ m v ≤ Rows.uptoBulk x.1) len (fun i hi => by
      have hi' : i < elems.length := by omega
      have h1 := hel i hi
      rw [List.getElem?_eq_getElem hi'] at h1
      obtain ⟨c, hc1, hc2⟩ := Option.bind_eq_some_iff.1 h1
      obtain ⟨v, hk, hg, hb⟩ := h H enc w base sp hd n c elems[i] hc2
      exact ⟨v, c, elems[i], hc1, hk, hg, List.getElem?_eq_getElem hi', hb⟩)
    subst hvl
    have hlen : vs.length ≤ maxLen := Nat.le_trans hl hm
    refine ⟨vs, ⟨some a, cap, rfl, hl, rfl, by unfold maxLen at hlen; omega, fun _ => ⟨a, rfl, fun j p hj => ?_⟩⟩, ⟨hlen, fun v hv => ?_⟩, ?_⟩
    · obtain ⟨c, _, hc1, hk, _⟩ := hvs j p hj
      obtain ⟨hcl, hcell⟩ := cells_get hc1
      refine ⟨c, by rw [hcl, hc], hk, fun i u hu => ?_⟩
      have := hcell i u hu
      rw [OpnB.add_add, hc] at this
      exact this
    · obtain ⟨j, hj, rfl⟩ := List.getElem_of_mem hv
      obtain ⟨c, _, _, _, hg, _⟩ := hvs j _ (List.getElem?_eq_getElem hj)
      exact hg
    · have h3 := sum_le (H := H) m vs (elems.map (·.1)) (by rw [List.length_map]; exact he.symm) (fun i v z hv hz => by
        obtain ⟨_, x, _, _, _, hx, hb⟩ := hvs i v hv
        rw [List.getElem?_map, hx] at hz
        simp only [Option.map_some, Option.some.injEq] at hz
        rw [← hz]
        exact hb)
      simp only [mList, Rows.uptoBulk]
      omega

/-- Fields in line, from cell o on. -/
def OpensFB {α : Type} (P : Program) (fs : List Field) (o : Nat) (d : Kd α) (m : α → Nat) (G : α → Prop) : Prop :=
  ∀ (H : Type) (enc : TypeId × Value → H) (w : World) (base : Nat) (sp : Nat → Bool) (hd : Bool) (n : Nat) (cs : List Value) (xs : List (DataW H × List MemPlace)),
    xs.length = fs.length → cs.length = o + d.sz → (∀ (i : Nat) (f : Field), fs[i]? = some f → DataW.trod enc P w base sp hd n f.type ((cs.drop f.offset).take (P.cellsOf f.type)) = xs[i]?) →
    ∃ v, d.K w v (cs.drop o) ∧ G v ∧ m v ≤ Rows.uptoBulkAll (xs.map (·.1))
theorem opensFB_one {P : Program} {f : Field} {o : Nat} {α : Type} {d : Kd α} {m : α → Nat} {G : α → Prop} (ho : f.offset = o) (hc : P.cellsOf f.type = d.sz) (h : OpensB P f.type d m G) : OpensFB P [f] o d m G := by
  intro H enc w base sp hd n cs xs hl hcs hx
  match xs, hl with
  | [x], _ =>
    have h1 := hx 0 f rfl
    rw [ho, hc, List.take_of_length_le (by simp; omega)] at h1
    obtain ⟨v, hv, hg, hb⟩ := h H enc w base sp hd n _ x h1
    exact ⟨v, hv, hg, by simpa [Rows.uptoBulkAll] using hb⟩
theorem opensFB_cons {P : Program} {f : Field} {fs : List Field} {o : Nat} {α β : Type} {a : Kd α} {b : Kd β} {m : α → Nat} {m' : β → Nat} {G : α → Prop} {G' : β → Prop} (ho : f.offset = o) (hc : P.cellsOf f.type = a.sz) (h : OpensB P f.type a m G) (h' : OpensFB P fs (o + a.sz) b m' G') :
    OpensFB P (f :: fs) o (Kd.pair a b) (fun p => m p.1 + m' p.2) (fun p => G p.1 ∧ G' p.2) := by
  intro H enc w base sp hd n cs xs hl hcs hx
  match xs, hl with
  | x :: xs, hl =>
    have hsz : (Kd.pair a b).sz = a.sz + b.sz := rfl
    rw [hsz] at hcs
    have h1 := hx 0 f rfl
    rw [ho, hc] at h1
    obtain ⟨v, hv, hg, hb⟩ := h H enc w base sp hd n _ x h1
    obtain ⟨u, hu, hg', hb'⟩ := h' H enc w base sp hd n cs xs (by simpa using hl) (by omega) (fun i g hg => by simpa using hx (i + 1) g (by simpa using hg))
    refine ⟨(v, u), ⟨_, _, ?_, hv, hu⟩, ⟨hg, hg'⟩, ?_⟩
    · rw [← List.drop_drop, List.take_append_drop]
    · simp only [List.map_cons, Rows.uptoBulkAll]
      omega
theorem opensB_struct {P : Program} {t : TypeId} {fs : Array Field} {α β : Type} {d : Kd α} {m : α → Nat} {G : α → Prop} (f : β → α) (g : α → β) (hfg : ∀ x, f (g x) = x) (ht : P.underlying t = some (.struct fs)) (hc : P.cellsOf t = d.sz) (h : OpensFB P fs.toList 0 d m G) :
    OpensB P t (Kd.iso d f) (fun x => m (f x) + 1) (fun x => G (f x)) := by
  intro H enc w base sp hd fuel cs x hx
  obtain ⟨xs, n, rfl, rfl, hl, hlen, hf⟩ := DataW.trod_struct ht hx
  obtain ⟨v, hv, hg, hb⟩ := h H enc w base sp hd n cs xs (by simpa using hlen) (by omega) (fun i q hq => hf i q (by simpa using hq))
  refine ⟨g v, ?_, by show G (f (g v)); rw [hfg]; exact hg, ?_⟩
  · show d.K w (f (g v)) cs
    rw [hfg]
    exact hv
  · show m (f (g v)) + 1 ≤ _
    rw [hfg]
    simp only [Rows.uptoBulk]
    omega
theorem len_le {α : Type} (m : α → Nat) (hm : ∀ x, 1 ≤ m x) : ∀ xs : List α, xs.length ≤ (xs.map m).sum
  | [] => Nat.le_refl _
  | x :: xs => by have := len_le m hm xs; have := hm x; simp only [List.length_cons, List.map_cons, List.sum_cons]; omega
theorem mem_le {α : Type} (m : α → Nat) : ∀ {xs : List α} {x : α}, x ∈ xs → m x ≤ (xs.map m).sum
  | y :: ys, x, h => by
    simp only [List.map_cons, List.sum_cons]
    rcases List.mem_cons.1 h with rfl | h
    · omega
    · have := mem_le m h; omega
end Go.Proofs.Ytecaemebamhamaa.OpnB
