/- Sets of whole numbers: gone through, cleared, struck. Over any program. -/
import Derived.Test.YtnimidkeoocchaaHandMap
import Derived.Maps.RangeWalk
set_option linter.unusedVariables false
set_option linter.unusedSimpArgs false
namespace Go.Proofs.Ytnimidkeoocchaa.Hnd
open Go.RowKit Go.Proofs.YtnimidkeoocchaaW.PrintWords Go.Maps Go.ChangeMaps Go.MapKept

theorem I64.of_wf {x : Int} (h : (Lit.int .i64 x).wf = true) : I64 x := by
  simp [Lit.wf, IntKind.min, IntKind.max, IntKind.signed, IntKind.bits] at h
  unfold I64
  omega
/-- Iterator r goes through set b: 'left' is still to come, at most cnt steps. -/
def SetR (P : Program) (k : TypeId) (w : World) (b r n : Nat) (s left : Int → Bool) (cnt : Nat) : Prop := ∃ (D : DataW Unit) (L : Lit → Bool), w.ranges P k unitElem b r n D L cnt ∧ (∀ x, I64 x → Maps.has D (.int .i64 x) = s x) ∧ (∀ x, I64 x → L (.int .i64 x) = left x) ∧ ∀ x, I64 x → left x = true → s x = true
section
variable {P : Program} {k e t : TypeId} {w w1 : World} {b r n cnt : Nat} {s left : Int → Bool}
theorem SetR.isSet (h : SetR P k w b r n s left cnt) : IsSet P k w b n s := by obtain ⟨D, L, h, g, _⟩ := h; exact ⟨D, h.owns, g⟩
theorem SetR.lt (h : SetR P k w b r n s left cnt) : r < w.heap.size := by obtain ⟨D, L, h, _⟩ := h; exact h.lt
theorem SetR.kept (h : SetR P k w b r n s left cnt) {row : Option Nat} (hg : w.grownBy w1 row) (hb : some b ≠ row) (hr : some r ≠ row) : SetR P k w1 b r n s left cnt := by obtain ⟨D, L, h, g⟩ := h; exact ⟨D, L, h.kept hg hb hr, g⟩
theorem SetR.below (h : SetR P k w b r n s left cnt) (hb : Below w.heap.size w w1) : SetR P k w1 b r n s left cnt := h.kept (grown_of_below hb none) (by simp) (by simp)
theorem SetR.alloc (h : SetR P k w b r n s left cnt) (o : Obj) : SetR P k (w.alloc o) b r n s left cnt := by obtain ⟨D, L, h, g⟩ := h; exact ⟨D, L, h.alloc o, g⟩
theorem SetR.same (h : SetR P k w b r n s left cnt) (h1 : w1.heap[b]? = w.heap[b]?) (h2 : w1.heap[r]? = w.heap[r]?) : SetR P k w1 b r n s left cnt := by
  obtain ⟨D, L, ⟨es, clock, since, seen, c0, hb, F, hs, hD, hr, rest⟩, g⟩ := h
  exact ⟨D, L, ⟨es, clock, since, seen, c0, h1.trans hb, F, hs, hD, h2.trans hr, rest⟩, g⟩
theorem SetR.ne (h : SetR P k w b r n s left cnt) {g : Nat} {cs : Array Value} {ty : TypeId} {fr : Nat × Nat} (hg : w.heap[g]? = some (.cells cs ty fr)) : r ≠ g := by
  rintro rfl
  obtain ⟨D, L, ⟨es, clock, since, seen, c0, hb, F, hs, hD, hr, rest⟩, g⟩ := h
  rw [hr] at hg
  injection hg with hg
  cases hg
theorem strike (x z : Int) : (Lit.int .i64 z).sameKey (.int .i64 x) = (z == x) := by
  by_cases h : z = x
  · subst h
    rw [WideAt.sameKey_self (I64.key z)]; simp
  · have : (z == x) = false := by simpa using h
    rw [this]
    exact Maps.sameKey_ne (by intro h2; injection h2 with _ h2; exact h h2)
theorem run_clear_map (ht : P.underlying t = some (.map k e)) {es : Array MapEntry} {clock : Nat} (hb : w.heap[b]? = some (.map es clock)) (ty : TypeId) :
    (Builtin.clear_ #[t] ty #[.map (some b)]).run P w = .ok (.tuple #[]) (setBlock w b (.map #[] clock)) := by
  have hlt : b < w.heap.size := (Array.getElem?_eq_some_iff.1 hb).1
  have h1 := Go.MapKept.run_getObj_map (P := P) hb
  have h2 := Go.MapKept.run_setObj_map (P := P) (.map #[] clock) hb
  simp [Builtin.clear_, run_underlying ht, h1, h2, setBlock]
end
section
variable {P : Program} {ops : Array Oper} {rest : List Oper} {o : Oper} {a : Act} {Q : Exit → Act → World → Prop} {k e t : TypeId} {w : World} {b r n cnt : Nat} {s left : Int → Bool}
/-- 'clear(s)'. -/
theorem clear_set (hg : o.guard = none) (m : Operand) (hop : o.op = Op.call { callee := Callee.builtin Builtin.clear, args := #[m], argTypes := #[t] }) (ht : P.underlying t = some (.map k e)) (h : IsSet P k w b n s) (hm : a.eval m = .map (some b))
    (hK : ∀ w', IsSet P k w' b 0 (fun _ => false) → w.grownBy w' (some b) → wpList P ops Q rest (a.put o.dst (.tuple #[])) w') : wpList P ops Q (o :: rest) a w := by
  obtain ⟨D, ⟨es, clock, hb, F, hs, hD⟩, g⟩ := h
  refine wpList_plain hg fun K' hK' => ?_
  have hrun := run_clear_map (P := P) (ht := ht) hb o.type
  unfold Oper.wp
  simp [execOp, hop, resolve, invoke, builtin, hm, hrun, Result.andThen]
  refine hK' _ _ (hK _ ⟨.map [], ⟨#[], clock, heap_setBlock_same hb _, ⟨by simp, stamped_empty clock, by simp⟩, Nat.le_refl _, rfl⟩, fun x _ => rfl⟩ (World.mapTurned.grown ⟨es, clock, #[], clock, hb, rfl⟩))
/-- 'delete(s, x)'. -/
theorem del_set (hg : o.guard = none) (m x : Operand) (hop : o.op = Op.call { callee := Callee.builtin Builtin.delete, args := #[m, x], argTypes := #[t, k] }) (hk : P.underlying k = some (.int .i64)) (ht : P.underlying t = some (.map k e)) (h : IsSet P k w b n s)
    (hm : a.eval m = .map (some b)) (y : Int) (hx : a.eval x = .int .i64 y) (hy : I64 y) (hK : ∀ w', IsSet P k w' b n (fun z => s z && !(z == y)) → w.grownBy w' (some b) → wpList P ops Q rest (a.put o.dst (.tuple #[])) w') : wpList P ops Q (o :: rest) a w := by
  obtain ⟨D, h, g⟩ := h
  refine wpList_delete_own w hg m x t k hop e (int_keyed hk) ht unitElem b n D hm h _ _ hx (keyOf_int_mk hk hy.wf) ?_
  intro w' h' ht'
  refine hK w' ⟨_, h', fun z hz => ?_⟩ ht'.grown
  by_cases ez : z = y
  · subst ez
    rw [has_del_same]; simp
  · rw [has_del_other (by intro h; injection h with _ h; exact ez h), g z hz]
    simp [ez]
/-- 'range s'. -/
theorem range_set (hg : o.guard = none) (m : Operand) (hop : o.op = Op.range t m) (hk : P.underlying k = some (.int .i64)) (ht : P.underlying t = some (.map k e)) (h : IsSet P k w b n s) (hm : a.eval m = .map (some b))
    (hK : ∀ w' cnt, cnt ≤ n → SetR P k w' b w.heap.size n s s cnt → w.grownBy w' none → w'.heap.size = w.heap.size + 1 → wpList P ops Q rest (a.put o.dst (.pointer (some ⟨w.heap.size, 0, none⟩))) w') : wpList P ops Q (o :: rest) a w := by
  obtain ⟨D, h, g⟩ := h
  exact wpList_range_own w hg m t hop k e (int_keyed hk) ht unitElem b n D hm h (fun w' h1 h2 h3 => hK w' _ h.size_le ⟨D, _, h1, g, g, fun x _ hx => hx⟩ h2 h3)
/-- The step. -/
theorem next_set (hg : o.guard = none) (it : Operand) (hop : o.op = Op.next it false) (hk : P.underlying k = some (.int .i64)) (h : SetR P k w b r n s left cnt) (hit : a.eval it = .pointer (some ⟨r, 0, none⟩))
    (hDone : (∀ x, I64 x → left x = false) → wpList P ops Q rest (a.put o.dst (.tuple #[.bool false])) w)
    (hMore : ∀ (x : Int) (w' : World) (cnt' : Nat), I64 x → left x = true → s x = true → SetR P k w' b r n s (fun z => left z && !(z == x)) cnt' → cnt' < cnt → w.grownBy w' (some r) → w'.heap.size = w.heap.size →
      (Instr.entry (.pointer (some ⟨r, 0, none⟩))).run P w' = .ok (.tuple #[.int .i64 x, .agg #[]]) w' → wpList P ops Q rest (a.put o.dst (.tuple #[.bool true, .int .i64 x, .agg #[]])) w') : wpList P ops Q (o :: rest) a w := by
  obtain ⟨D, L, h, g1, g2, g3⟩ := h
  refine wpList_next_ranges w hg it hop k (int_keyed hk) unitElem (Value.int .i64) (fun _ : Unit => .agg #[]) (fun key kl hkey => by obtain ⟨x, rfl, _⟩ := Maps.keyOf_int_inv hk hkey; exact ⟨x, rfl⟩) (fun v y hv => ⟨(), (unitElem_inv hv).1⟩) b r n D L cnt hit h (fun _ hl => hDone (fun x hx => by rw [← g2 x hx]; exact hl _)) ?_
  intro x c kl y w' cnt' hkey hlk hv hat hrg hlt hgr hsz hen
  obtain ⟨x', ex, rfl, hwx⟩ := Maps.keyOf_int_inv hk hkey
  cases ex
  have hx := I64.of_wf hwx
  have hl : left x = true := by rw [← g2 x hx]; exact hlk
  refine hMore x w' cnt' hx hl (g3 x hx hl) ⟨D, _, hrg, g1, fun z hz => ?_, fun z hz hz2 => g3 z hz (by simp at hz2; exact hz2.1)⟩ hlt hgr hsz hen
  rw [g2 z hz, strike]
end
section
variable {P : Program} {ops : Array Oper} {o : Oper} {a : Act} {Q : Exit → Act → World → Prop} {Kc : Act → World → Prop} {k e t : TypeId} {w : World} {b n : Nat} {s : Int → Bool}
/-- 's[x] = struct{}{}' in a drawn region. -/
theorem step_put_set (hw : Region.wanted o (yielded ops a.tmps) = true) (m x v : Operand) (hop : o.op = Op.mapUpdate t m x v) (hk : P.underlying k = some (.int .i64)) (ht : P.underlying t = some (.map k e)) (h : IsSet P k w b n s) (hn : n < maxLen)
    (hm : a.eval m = .map (some b)) (y : Int) (hx : a.eval x = .int .i64 y) (hy : I64 y) (hv : a.eval v = .agg #[]) (hK : ∀ w', IsSet P k w' b (n + 1) (fun z => z == y || s z) → w.grownBy w' (some b) → Kc (a.put o.dst undef) w') :
    if Region.wanted o (yielded ops a.tmps) = true then Oper.wp P o a w Kc Q else Kc (a.put o.dst undef) w := by
  rw [if_pos hw]
  obtain ⟨D, h, g⟩ := h
  obtain ⟨w', hrun, h', hgr⟩ := h.update (int_keyed hk) ht hn (keyOf_int_mk hk hy.wf) (val := .agg #[]) unitElem_mk
  unfold Oper.wp
  simp [execOp, hop, hm, hx, hv, hrun, Result.andThen]
  refine hK w' ⟨_, h', fun z hz => ?_⟩ hgr
  by_cases ez : z = y
  · subst ez
    rw [has_put_same h.isMap (I64.key z)]
    simp
  · rw [has_put_other (by intro h; injection h with _ h; exact ez h), g z hz]
    simp [ez]
end
end Go.Proofs.Ytnimidkeoocchaa.Hnd
