/- Maps keyed by whole numbers, said as functions: sets (map[int]struct) and map[int]int. Over any program. -/
import Derived.Test.YtchcbncelckgeaaHand
import Derived.Maps.OwnSet
import Derived.Maps.OwnOps
set_option linter.unusedVariables false
set_option linter.unusedSimpArgs false
namespace Go.Proofs.Ytchcbncelckgeaa.Hnd
open Go.RowKit Go.Proofs.YtchcbncelckgeaaW.PrintWords Go.Maps

def I64 (x : Int) : Prop := -9223372036854775808 ≤ x ∧ x ≤ 9223372036854775807
theorem I64.wf {x : Int} (h : I64 x) : (Lit.int .i64 x).wf = true := WalkArith.wf_i64 (by obtain ⟨h1, h2⟩ := h; omega)
theorem I64.key (x : Int) : WideAt.IsKeyLit (Lit.int .i64 x) := by simp [WideAt.IsKeyLit]
/-- Block b is a set of at most n whole numbers (keys of type k): those of s. -/
def IsSet (P : Program) (k : TypeId) (w : World) (b n : Nat) (s : Int → Bool) : Prop := ∃ D : DataW Unit, w.ownsMap P k unitElem b n D ∧ ∀ x, I64 x → Maps.has D (.int .i64 x) = s x
/-- Block b is a map from whole numbers to whole numbers (types k, e). -/
def IsMap_ (P : Program) (k e : TypeId) (w : World) (b n : Nat) (f : Int → Option Int) : Prop := ∃ D : DataW Unit, w.ownsMap P k (plainElem P e) b n D ∧ ∀ x, I64 x → Maps.has D (.int .i64 x) = (f x).isSome ∧ ∀ c, f x = some c → D.atKey (.int .i64 x) (.lit (.int .i64 0)) = .lit (.int .i64 c)
section
variable {P : Program} {k e t : TypeId} {w w1 : World} {b n : Nat} {s : Int → Bool} {f : Int → Option Int}
theorem IsSet.lt (h : IsSet P k w b n s) : b < w.heap.size := by obtain ⟨D, h, _⟩ := h; exact h.lt
theorem IsSet.alloc (h : IsSet P k w b n s) (o : Obj) : IsSet P k (w.alloc o) b n s := by obtain ⟨D, h, g⟩ := h; exact ⟨D, h.alloc o, g⟩
theorem IsSet.kept (h : IsSet P k w b n s) {row : Option Nat} (hg : w.grownBy w1 row) (hne : some b ≠ row) : IsSet P k w1 b n s := by obtain ⟨D, h, g⟩ := h; exact ⟨D, h.kept hg hne, g⟩
theorem IsSet.below (h : IsSet P k w b n s) (hb : Below w.heap.size w w1) : IsSet P k w1 b n s := h.kept (grown_of_below hb none) (by simp)
theorem IsSet.set_ (h : IsSet P k w b n s) {a : Addr} (ha : b ≠ a.block) (u : Value) : IsSet P k (w.setCell a u) b n s := by obtain ⟨D, h, g⟩ := h; exact ⟨D, h.setCell ha u, g⟩
theorem IsSet.made (w : World) (P : Program) (k : TypeId) : IsSet P k (w.alloc (.map #[] 0)) w.heap.size 0 (fun _ => false) := ⟨_, World.ownsMap_made w P k _, fun x _ => rfl⟩
theorem IsMap_.lt (h : IsMap_ P k e w b n f) : b < w.heap.size := by obtain ⟨D, h, _⟩ := h; exact h.lt
theorem IsMap_.alloc (h : IsMap_ P k e w b n f) (o : Obj) : IsMap_ P k e (w.alloc o) b n f := by obtain ⟨D, h, g⟩ := h; exact ⟨D, h.alloc o, g⟩
theorem IsMap_.kept (h : IsMap_ P k e w b n f) {row : Option Nat} (hg : w.grownBy w1 row) (hne : some b ≠ row) : IsMap_ P k e w1 b n f := by obtain ⟨D, h, g⟩ := h; exact ⟨D, h.kept hg hne, g⟩
theorem IsMap_.below (h : IsMap_ P k e w b n f) (hb : Below w.heap.size w w1) : IsMap_ P k e w1 b n f := h.kept (grown_of_below hb none) (by simp)
theorem IsMap_.set_ (h : IsMap_ P k e w b n f) {a : Addr} (ha : b ≠ a.block) (u : Value) : IsMap_ P k e (w.setCell a u) b n f := by obtain ⟨D, h, g⟩ := h; exact ⟨D, h.setCell ha u, g⟩
theorem IsMap_.more (h : IsMap_ P k e w b n f) : IsMap_ P k e w b (n + 1) f := by obtain ⟨D, h, g⟩ := h; exact ⟨D, h.mono (Nat.le_succ _), g⟩
theorem IsMap_.made (w : World) (P : Program) (k e : TypeId) : IsMap_ P k e (w.alloc (.map #[] 0)) w.heap.size 0 (fun _ => none) := ⟨_, World.ownsMap_made w P k _, fun x _ => ⟨rfl, fun c h => by cases h⟩⟩
theorem IsMap_.ne (h : IsMap_ P k e w b n f) {g : Nat} {cs : Array Value} {ty : TypeId} {fr : Nat × Nat} (hg : w.heap[g]? = some (.cells cs ty fr)) : b ≠ g := by
  rintro rfl
  obtain ⟨D, ⟨es, clock, hb, _⟩, _⟩ := h
  rw [hb] at hg
  injection hg with hg
  cases hg
theorem IsSet.ne (h : IsSet P k w b n s) {g : Nat} {cs : Array Value} {ty : TypeId} {fr : Nat × Nat} (hg : w.heap[g]? = some (.cells cs ty fr)) : b ≠ g := by
  rintro rfl
  obtain ⟨D, ⟨es, clock, hb, _⟩, _⟩ := h
  rw [hb] at hg
  injection hg with hg
  cases hg
end
section
variable {P : Program} {ops : Array Oper} {rest : List Oper} {o : Oper} {a : Act} {Q : Exit → Act → World → Prop} {k e t : TypeId} {w : World} {b n : Nat} {s : Int → Bool} {f : Int → Option Int}
/-- '_, has := s[x]', behind 'at_lookup'. -/
theorem look_set (hg : o.guard = none) (m x : Operand) (hop : o.op = Op.lookup t m x true) (hk : P.underlying k = some (.int .i64)) (ht : P.underlying t = some (.map k e)) (hz : (zeroValue e).run P w = .ok (.agg #[]) w)
    (h : IsSet P k w b n s) (hm : a.eval m = .map (some b)) (y : Int) (hx : a.eval x = .int .i64 y) (hy : I64 y) (hK : wpList P ops Q rest (a.put o.dst (.tuple #[.agg #[], .bool (s y)])) w) : wpList P ops Q (o :: rest) a w := by
  obtain ⟨D, h, g⟩ := h
  refine wpList_lookup_own_unit w hg m x t hop k e (int_keyed hk) ht hz b n D hm h _ _ hx (keyOf_int_mk hk hy.wf) ?_
  rw [g y hy]
  exact hK
/-- 's[x] = struct{}{}', behind 'at_mapUpdate'. -/
theorem put_set (hg : o.guard = none) (m x v : Operand) (hop : o.op = Op.mapUpdate t m x v) (hk : P.underlying k = some (.int .i64)) (ht : P.underlying t = some (.map k e)) (h : IsSet P k w b n s) (hn : n < maxLen)
    (hm : a.eval m = .map (some b)) (y : Int) (hx : a.eval x = .int .i64 y) (hy : I64 y) (hv : a.eval v = .agg #[]) (hK : ∀ w', IsSet P k w' b (n + 1) (fun z => z == y || s z) → w.grownBy w' (some b) → wpList P ops Q rest (a.put o.dst undef) w') : wpList P ops Q (o :: rest) a w := by
  obtain ⟨D, h, g⟩ := h
  refine wpList_mapUpdate_own w hg m x v t hop k e (int_keyed hk) ht unitElem b n D hm h hn _ _ _ hx hv (keyOf_int_mk hk hy.wf) _ _ unitElem_mk ?_
  intro w' h' hgr
  refine hK w' ⟨_, h', fun z hz => ?_⟩ hgr
  by_cases ez : z = y
  · subst ez
    rw [has_put_same h.isMap (I64.key z)]
    simp
  · rw [has_put_other (by intro h; injection h with _ h; exact ez h), g z hz]
    simp [ez]
/-- 'v, has := f[x]', behind 'at_lookup'. -/
theorem look_map (hg : o.guard = none) (m x : Operand) (hop : o.op = Op.lookup t m x true) (hk : P.underlying k = some (.int .i64)) (he : P.underlying e = some (.int .i64)) (ht : P.underlying t = some (.map k e)) (hz : (zeroValue e).run P w = .ok (.int .i64 0) w)
    (h : IsMap_ P k e w b n f) (hm : a.eval m = .map (some b)) (y : Int) (hx : a.eval x = .int .i64 y) (hy : I64 y) (hK : ∀ c : Int, (∀ d, f y = some d → c = d) → (f y = none → c = 0) → wpList P ops Q rest (a.put o.dst (.tuple #[.int .i64 c, .bool (f y).isSome])) w) : wpList P ops Q (o :: rest) a w := by
  obtain ⟨D, h, g⟩ := h
  refine wpList_lookup_own_ok_int w hg m x t hop k e .i64 (int_keyed hk) ht he hz b n D hm h _ _ hx (keyOf_int_mk hk hy.wf) ?_
  intro c hat _
  obtain ⟨g1, g2⟩ := g y hy
  rw [g1]
  refine hK c (fun d hd => ?_) (fun hn => ?_)
  · have := g2 d hd
    rw [hat] at this
    injection this with this
    injection this
  · rw [hn] at g1
    have := atKey_of_not_has g1 (.lit (.int .i64 0))
    rw [hat] at this
    injection this with this
    injection this
/-- 'f[x] = v', behind 'at_mapUpdate'. -/
theorem put_map (hg : o.guard = none) (m x v : Operand) (hop : o.op = Op.mapUpdate t m x v) (hk : P.underlying k = some (.int .i64)) (he : P.underlying e = some (.int .i64)) (ht : P.underlying t = some (.map k e)) (h : IsMap_ P k e w b n f) (hn : n < maxLen)
    (hm : a.eval m = .map (some b)) (y : Int) (hx : a.eval x = .int .i64 y) (hy : I64 y) (z : Int) (hv : a.eval v = .int .i64 z) (hz : I64 z) (hK : ∀ w', IsMap_ P k e w' b (n + 1) (fun q => if q = y then some z else f q) → w.grownBy w' (some b) → wpList P ops Q rest (a.put o.dst undef) w') : wpList P ops Q (o :: rest) a w := by
  obtain ⟨D, h, g⟩ := h
  refine wpList_mapUpdate_own w hg m x v t hop k e (int_keyed hk) ht (plainElem P e) b n D hm h hn _ _ _ hx hv (keyOf_int_mk hk hy.wf) _ _ (plainElem_int he hz.wf) ?_
  intro w' h' hgr
  refine hK w' ⟨_, h', fun q hq => ?_⟩ hgr
  dsimp only
  by_cases eq_ : q = y
  · subst eq_
    rw [has_put_same h.isMap (I64.key q), if_pos rfl]
    refine ⟨rfl, fun c hc => ?_⟩
    injection hc with hc
    subst hc
    exact atKey_put_same h.isMap (I64.key q) _ _
  · rw [has_put_other (by intro h; injection h with _ h; exact eq_ h), atKey_put_other (by intro h; injection h with _ h; exact eq_ h), if_neg eq_]
    exact g q hq
end
end Go.Proofs.Ytchcbncelckgeaa.Hnd
