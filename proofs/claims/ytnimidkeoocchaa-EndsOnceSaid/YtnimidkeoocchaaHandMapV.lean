/- Maps from whole numbers to any values, said as functions: each value is held as it is. Over any program. -/
import Derived.Test.YtnimidkeoocchaaHandMap
set_option linter.unusedVariables false
set_option linter.unusedSimpArgs false
namespace Go.Proofs.Ytnimidkeoocchaa.Hnd
open Go.RowKit Go.Proofs.YtnimidkeoocchaaW.PrintWords Go.Maps

def heldE (v : Value) : Option (DataW Value × List MemPlace) := some (.held v, [])
/-- Block b is a map of at most n whole numbers (keys of type k): those of f, with their values. -/
def IsMapV (P : Program) (k : TypeId) (w : World) (b n : Nat) (f : Int → Option Value) : Prop := ∃ D : DataW Value, w.ownsMap P k heldE b n D ∧ ∀ x, I64 x → Maps.has D (.int .i64 x) = (f x).isSome ∧ ∀ v z, f x = some v → D.atKey (.int .i64 x) z = .held v
section
variable {P : Program} {k e t : TypeId} {w w1 : World} {b n : Nat} {f : Int → Option Value}
theorem IsMapV.lt (h : IsMapV P k w b n f) : b < w.heap.size := by obtain ⟨D, h, _⟩ := h; exact h.lt
theorem IsMapV.alloc (h : IsMapV P k w b n f) (o : Obj) : IsMapV P k (w.alloc o) b n f := by obtain ⟨D, h, g⟩ := h; exact ⟨D, h.alloc o, g⟩
theorem IsMapV.kept (h : IsMapV P k w b n f) {row : Option Nat} (hg : w.grownBy w1 row) (hne : some b ≠ row) : IsMapV P k w1 b n f := by obtain ⟨D, h, g⟩ := h; exact ⟨D, h.kept hg hne, g⟩
theorem IsMapV.same (h : IsMapV P k w b n f) (he : w1.heap[b]? = w.heap[b]?) : IsMapV P k w1 b n f := by
  obtain ⟨D, ⟨es, clock, hb, rest⟩, g⟩ := h
  exact ⟨D, ⟨es, clock, he.trans hb, rest⟩, g⟩
theorem IsMapV.below (h : IsMapV P k w b n f) (hb : Below w.heap.size w w1) : IsMapV P k w1 b n f := h.same (hb.block _ h.lt)
theorem IsMapV.made (w : World) (P : Program) (k : TypeId) : IsMapV P k (w.alloc (.map #[] 0)) w.heap.size 0 (fun _ => none) := ⟨_, World.ownsMap_made w P k _, fun x _ => ⟨rfl, fun v z h => by cases h⟩⟩
theorem IsMapV.more (h : IsMapV P k w b n f) {m : Nat} (hm : n ≤ m) : IsMapV P k w b m f := by obtain ⟨D, h, g⟩ := h; exact ⟨D, h.mono hm, g⟩
theorem IsMapV.ne (h : IsMapV P k w b n f) {g : Nat} {cs : Array Value} {ty : TypeId} {fr : Nat × Nat} (hg : w.heap[g]? = some (.cells cs ty fr)) : b ≠ g := by
  rintro rfl
  obtain ⟨D, ⟨es, clock, hb, _⟩, _⟩ := h
  rw [hb] at hg
  injection hg with hg
  cases hg
end
section
variable {P : Program} {ops : Array Oper} {rest : List Oper} {o : Oper} {a : Act} {Q : Exit → Act → World → Prop} {k e t : TypeId} {w : World} {b n : Nat} {f : Int → Option Value}
/-- What a look-up of a key that is there runs to. -/
theorem run_look (hk : P.underlying k = some (.int .i64)) (ht : P.underlying t = some (.map k e)) {z : Value} (hz : (zeroValue e).run P w = .ok z w) (h : IsMapV P k w b n f) (y : Int) (hy : I64 y) {v : Value} (hf : f y = some v) :
    (Instr.lookup t (.map (some b)) (.int .i64 y) false).run P w = .ok v w := by
  obtain ⟨D, h, g⟩ := h
  obtain ⟨v', ps, hrun, hv⟩ := h.lookup (int_keyed hk) ht hz (zd := .held z) (zp := []) rfl (keyOf_int_mk hk hy.wf)
  rw [(g y hy).2 v (.held z) hf] at hv
  unfold heldE at hv
  injection hv with hv
  injection hv with hv _
  injection hv with hv
  rw [hv] at hrun
  exact hrun
/-- What a store runs to. -/
theorem run_put (hk : P.underlying k = some (.int .i64)) (ht : P.underlying t = some (.map k e)) (h : IsMapV P k w b n f) (hn : n < maxLen) (y : Int) (hy : I64 y) (v : Value) :
    ∃ w', (Instr.mapUpdate t (.map (some b)) (.int .i64 y) v).run P w = .ok () w' ∧ IsMapV P k w' b (n + 1) (fun q => if q = y then some v else f q) ∧ w.grownBy w' (some b) := by
  obtain ⟨D, h, g⟩ := h
  obtain ⟨w', hrun, h', hgr⟩ := h.update (int_keyed hk) ht hn (keyOf_int_mk hk hy.wf) (d := .held v) (ps := []) rfl
  refine ⟨w', hrun, ⟨_, h', fun q hq => ?_⟩, hgr⟩
  dsimp only
  by_cases eq_ : q = y
  · subst eq_
    rw [has_put_same h.isMap (I64.key q), if_pos rfl]
    refine ⟨rfl, fun c z hc => ?_⟩
    injection hc with hc
    subst hc
    exact atKey_put_same h.isMap (I64.key q) _ _
  · rw [has_put_other (by intro h; injection h with _ h; exact eq_ h), if_neg eq_]
    refine ⟨(g q hq).1, fun c z hc => ?_⟩
    rw [atKey_put_other (by intro h; injection h with _ h; exact eq_ h)]
    exact (g q hq).2 c z hc
/-- 'f[x]' of a key that is there, behind 'at_lookup'. -/
theorem look_val (hg : o.guard = none) (m x : Operand) (hop : o.op = Op.lookup t m x false) (hk : P.underlying k = some (.int .i64)) (ht : P.underlying t = some (.map k e)) {z : Value} (hz : (zeroValue e).run P w = .ok z w)
    (h : IsMapV P k w b n f) (hm : a.eval m = .map (some b)) (y : Int) (hx : a.eval x = .int .i64 y) (hy : I64 y) {v : Value} (hf : f y = some v) (hK : wpList P ops Q rest (a.put o.dst v) w) : wpList P ops Q (o :: rest) a w := by
  have hrun := run_look hk ht hz h y hy hf
  refine wpList_plain hg fun K' hK' => ?_
  unfold Oper.wp
  simp [execOp, hop, hm, hx, hrun, Result.andThen]
  exact hK' _ _ hK
end
end Go.Proofs.Ytnimidkeoocchaa.Hnd
