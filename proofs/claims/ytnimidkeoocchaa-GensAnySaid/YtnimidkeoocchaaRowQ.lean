/- A queue: a row of one's own that is cut from the front and appended to. Elements of one cell. Over any program. -/
import Derived.Test.YtnimidkeoocchaaHand
import Derived.Laws.AppendOwn
set_option linter.unusedVariables false
set_option linter.unusedSimpArgs false
namespace Go.Proofs.Ytnimidkeoocchaa.Hnd
open Go.RowKit Go.Proofs.YtnimidkeoocchaaW.PrintWords

def RowQ (W : World) (base : Nat) (e : TypeId) (v : Value) (xs : List Value) : Prop :=
  (v = .slice none 0 0 ∧ xs = []) ∨ ∃ b off cap cur, v = .slice (some ⟨b, off, none⟩) xs.length cap ∧ base ≤ b ∧ W.heap[b]? = some (.cells cur e (0, 0)) ∧ xs.length ≤ cap ∧ cap ≤ maxLen ∧ off + cap ≤ cur.size ∧ (cur.toList.drop off).take xs.length = xs
section
variable {P : Program} {W W' : World} {base : Nat} {e : TypeId} {v : Value} {xs : List Value}
theorem RowQ.nil (W : World) (base : Nat) (e : TypeId) : RowQ W base e (.slice none 0 0) [] := .inl ⟨rfl, rfl⟩
theorem RowQ.lt (h : RowQ W base e v xs) : ∀ k, v.ownBlock = some k → base ≤ k ∧ k < W.heap.size := by
  intro k hk
  rcases h with ⟨rfl, _⟩ | ⟨b, off, cap, cur, rfl, hb, hg, _⟩
  · simp [Value.ownBlock] at hk
  · simp [Value.ownBlock] at hk
    subst hk
    exact ⟨hb, (Array.getElem?_eq_some_iff.1 hg).1⟩
theorem RowQ.ty (h : RowQ W base e v xs) : ∀ k, v.ownBlock = some k → ∃ cur, W.heap[k]? = some (.cells cur e (0, 0)) := by
  intro k hk
  rcases h with ⟨rfl, _⟩ | ⟨b, off, cap, cur, rfl, hb, hg, _⟩
  · simp [Value.ownBlock] at hk
  · simp [Value.ownBlock] at hk
    subst hk
    exact ⟨cur, hg⟩
theorem RowQ.same (h : RowQ W base e v xs) (hs : ∀ k, v.ownBlock = some k → W'.heap[k]? = W.heap[k]?) : RowQ W' base e v xs := by
  rcases h with h | ⟨b, off, cap, cur, rfl, hb, hg, rest⟩
  · exact .inl h
  · exact .inr ⟨b, off, cap, cur, rfl, hb, (hs b rfl).trans hg, rest⟩
theorem RowQ.shape (h : RowQ W base e v xs) : ∃ A c, v = .slice A xs.length c ∧ xs.length ≤ c := by
  rcases h with ⟨rfl, rfl⟩ | ⟨b, off, cap, cur, rfl, hb, hg, hc, _⟩
  · exact ⟨none, 0, rfl, Nat.le_refl _⟩
  · exact ⟨_, cap, rfl, hc⟩
theorem RowQ.get (h : RowQ W base e v xs) (hn : 0 < xs.length) : ∃ b off cap, v = .slice (some ⟨b, off, none⟩) xs.length cap ∧ ∀ j (hj : j < xs.length), W.cell? ⟨b, off + j, none⟩ = some xs[j] := by
  rcases h with ⟨rfl, rfl⟩ | ⟨b, off, cap, cur, rfl, hb, hg, hc, hm, hs, ht⟩
  · simp at hn
  · refine ⟨b, off, cap, rfl, fun j hj => ?_⟩
    rw [blk_cell hg (off + j)]
    have h1 : ((cur.toList.drop off).take xs.length)[j]? = xs[j]? := by rw [ht]
    rw [List.getElem?_take_of_lt hj, List.getElem?_drop, List.getElem?_eq_getElem hj] at h1
    rw [← h1, Array.getElem?_toList]
theorem RowQ.tail {b off n cap : Nat} {x : Value} (h : RowQ W base e (.slice (some ⟨b, off, none⟩) n cap) (x :: xs)) : RowQ W base e (.slice (some ⟨b, off + 1, none⟩) xs.length (cap - 1)) xs := by
  rcases h with ⟨h, _⟩ | ⟨b', off', cap', cur, e1, hb, hg, hc, hm, hs, ht⟩
  · cases h
  · injection e1 with e1 e2 e3
    injection e1 with e1
    injection e1 with e1 e4 _
    subst e1; subst e4; subst e3
    simp only [List.length_cons] at hc ht
    refine .inr ⟨b, off + 1, cap - 1, cur, rfl, hb, hg, by omega, by omega, by omega, ?_⟩
    have h1 := congrArg List.tail ht
    rw [List.tail_cons] at h1
    rw [← List.drop_one, List.drop_take, List.drop_drop] at h1
    simpa [Nat.add_comm] using h1
/-- The same where there is no room behind: Go keeps the place. -/
theorem RowQ.tail1 {b off n : Nat} {x : Value} (h : RowQ W base e (.slice (some ⟨b, off, none⟩) n 1) (x :: xs)) : RowQ W base e (.slice (some ⟨b, off, none⟩) xs.length 0) xs := by
  rcases h with ⟨h, _⟩ | ⟨b', off', cap', cur, e1, hb, hg, hc, hm, hs, ht⟩
  · cases h
  · injection e1 with e1 e2 e3
    injection e1 with e1
    injection e1 with e1 e4 _
    subst e1; subst e4; subst e3
    have hx : xs = [] := by
      cases xs
      · rfl
      · simp at hc
    subst hx
    exact .inr ⟨b, off, 0, cur, rfl, hb, hg, Nat.le_refl _, by simp [maxLen], by omega, rfl⟩
theorem run_append_q (w : World) (t ty : TypeId) (i : TypeInfo) (z : Value) (ht : P.underlying t = some (.slice e)) (hi : P.info? e = some i) (hz : i.zero = some z) (hsize : i.size = 1) (hzs : z.cells.size = 1) (bytes : Nat) (hby : i.bytes = bytes) (hb0 : 0 < bytes)
    (h : RowQ w base e v xs) (a : Addr) (c : Nat) (u : Value) (hnews : w.cell? a = some u) (h1 : u.oneCell' = true) (hl : (xs.length + 1) * bytes ≤ 140737488355328) (hbase : base ≤ w.heap.size) :
    ∃ v' w', (Builtin.append_ #[t, t] ty #[v, .slice (some a) 1 c]).run P w = .ok v' w' ∧ RowQ w' base e v' (xs ++ [u]) ∧ w.grownBy w' v.ownBlock ∧ (v'.ownBlock = v.ownBlock ∨ ∃ b, v'.ownBlock = some b ∧ w.heap.size ≤ b) := by
  have hlen : xs.length + 1 ≤ 140737488355328 := Nat.le_trans (Nat.le_mul_of_pos_right _ hb0) hl
  by_cases hroom : ∃ b off cap cur, v = .slice (some ⟨b, off, none⟩) xs.length cap ∧ base ≤ b ∧ w.heap[b]? = some (.cells cur e (0, 0)) ∧ xs.length + 1 ≤ cap ∧ cap ≤ maxLen ∧ off + cap ≤ cur.size ∧ (cur.toList.drop off).take xs.length = xs
  · obtain ⟨b, off, cap, cur, rfl, hb, hg, hc, hm, hs, htk⟩ := hroom
    have hnews' : ∀ j x, [u][j]? = some x → w.cell? (a.add j) = some x := by
      intro j x hj
      rcases j with _ | j
      · simp at hj; subst hj; rw [show a.add 0 = a from by simp [Addr.add]]; exact hnews
      · simp at hj
    have hf := run_firstCells_some (P := P) w i.size 1 a 1 c [u] (by simp [hsize]) hnews'
    have hst := run_storeCells_at P b (off + xs.length) e [u] 0 cur w hg (by simp; omega) (by intro x hx; simp at hx; subst hx; exact h1)
    simp only [Nat.add_zero] at hst
    rw [hsize] at hf
    refine ⟨.slice (some ⟨b, off, none⟩) (xs.length + 1) cap, w.setRow b (cur.toList.take (off + xs.length) ++ [u] ++ cur.toList.drop (off + xs.length + [u].length)).toArray, by simp [Builtin.append_, run_underlying ht, sizeOf, typeInfo, hi, Builtin.lenOf, hc, hf, Addr.add_lit, hsize, hst], ?_, ?_, .inl rfl⟩
    · refine .inr ⟨b, off, cap, _, by simp, hb, setRow_heap w b cur _ e _ hg, by simpa using hc, hm, ?_, ?_⟩
      · simp only [List.size_toArray, List.length_append, List.length_take, List.length_drop, Array.length_toList, List.length_cons, List.length_nil]
        omega
      · have e1 : (cur.toList.take (off + xs.length)).drop off = xs := by rw [List.drop_take, Nat.add_sub_cancel_left]; exact htk
        have e2 : (cur.toList.take (off + xs.length)).length = off + xs.length := by rw [List.length_take]; have h_ : cur.toList.length = cur.size := Array.length_toList; omega
        simp only [List.append_assoc]
        rw [List.drop_append_of_le_length (by omega), e1, ← List.append_assoc]
        exact List.take_left
    · exact ⟨rfl, rfl, rfl, by simp, fun k _ hk => setRow_other w b k _ (fun e => hk (by simp [Value.ownBlock, e]))⟩
  · rcases h with ⟨rfl, rfl⟩ | ⟨b, off, cap, cur, rfl, hb, hg, hc, hm, hs, htk⟩
    · obtain ⟨v', w', hr, ho, hgr, _⟩ := run_append_own (P := P) w w.heap.size t ty e i z 1 bytes ht hi hz hsize hby hzs (by omega) (.slice none 0 0) 0 [] (World.ownsRow_nil _ _ _ _) a 1 c [u] rfl (by
        intro j x hj
        rcases j with _ | j
        · simp at hj; subst hj; rw [show a.add 0 = a from by simp [Addr.add]]; exact hnews
        · simp at hj) (by intro x hx; simp at hx; subst hx; exact h1) (by simp [maxLen]) (by simpa using hl) (Nat.le_refl _)
      refine ⟨v', w', hr, ?_, hgr, ?_⟩
      · rcases ho.2 with ⟨_, h0⟩ | ⟨g, cap, cur, rfl, q1, q2, q3, q4, q5, q6⟩
        · omega
        · exact .inr ⟨g, 0, cap, cur, by simp, Nat.le_trans hbase q1, q2, by simpa using q3, q4, by omega, by simpa using q6⟩
      · rcases ho.2 with ⟨_, h0⟩ | ⟨g, cap, cur, rfl, q1, q2, q3, q4, q5, q6⟩
        · omega
        · exact .inr ⟨g, rfl, q1⟩
    · have hcap : cap < xs.length + 1 := by
        rcases Nat.lt_or_ge cap (xs.length + 1) with h | h
        · exact h
        · exact absurd ⟨b, off, cap, cur, rfl, hb, hg, h, hm, hs, htk⟩ hroom
      have holds : ∀ j x, xs[j]? = some x → w.cell? ((⟨b, off, none⟩ : Addr).add j) = some x := by
        intro j x hj
        have hjl : j < xs.length := (List.getElem?_eq_some_iff.1 hj).1
        have h1 : ((cur.toList.drop off).take xs.length)[j]? = xs[j]? := by rw [htk]
        rw [List.getElem?_take_of_lt hjl, List.getElem?_drop, hj] at h1
        rw [Addr.add_lit, blk_cell hg (off + j), ← h1, Array.getElem?_toList]
      have hr := run_append_grow (P := P) w t ty e i z ht hi hz ⟨b, off, none⟩ xs.length cap xs (by rw [hsize]; omega) holds a 1 c [u] (by rw [hsize]; rfl) (by
        intro j x hj
        rcases j with _ | j
        · simp at hj; subst hj; rw [show a.add 0 = a from by simp [Addr.add]]; exact hnews
        · simp at hj) hcap (by omega) (growslice_fits (by omega) (by rw [hby]; exact hl))
      have hge := grownCap_ge w (xs.length + 1) cap e
      have hcm : grownCap w (xs.length + 1) cap e ≤ maxLen := grownCap_le_maxLen w (xs.length + 1) cap e (by simp only [maxLen]; omega)
      refine ⟨_, _, hr, ?_, ⟨rfl, rfl, rfl, by simp, fun k hk _ => heap_alloc_old w.drew _ (by exact hk)⟩, .inr ⟨_, rfl, Nat.le_refl _⟩⟩
      refine .inr ⟨w.heap.size, 0, _, _, by simp, hbase, heap_alloc_new w.drew _, by simpa using hge, hcm, ?_, ?_⟩
      · simp only [Array.size_append, List.size_toArray, size_zeroCells, hzs, List.length_cons, List.length_nil]
        omega
      · simp only [Array.toList_append, List.append_assoc, List.drop_zero]
        rw [← List.append_assoc]
        exact List.take_left
end
section
variable {P : Program} {ops : Array Oper} {rest : List Oper} {o : Oper} {a : Act} {Q : Exit → Act → World → Prop}
/-- append(v, x) at a queue, behind 'at_builtin'; the goal's world is 'W.alloc' of the variadic's box. -/
theorem append_q {w0 W : World} (base : Nat) (hgd : o.guard = none) (s x : Operand) (t e : TypeId) (z : Value) (bytes : Nat)
    (ho : o.op = .call { callee := .builtin .append, args := #[s, x], argTypes := #[t, t] })
    (ht : P.underlying t = some (.slice e)) (hinfo : (P.info? e).map (fun i => (i.zero, i.size, i.bytes)) = some (some z, 1, bytes)) (hz : z.cells.size = 1) (hb0 : 0 < bytes)
    (v : Value) (xs : List Value) (u : Value) (hs : a.eval s = v) (hx : a.eval x = .slice (some ⟨W.heap.size, 0, none⟩) 1 1) (h1 : u.oneCell' = true)
    (HO : RowQ W base e v xs) (HB : Below base w0 W) (hbase : base ≤ W.heap.size) (hl : (xs.length + 1) * bytes ≤ 140737488355328)
    (h : ∀ v1 w1, RowQ w1 base e v1 (xs ++ [u]) → Below base w0 w1 → W.grownBy w1 v.ownBlock → (v1.ownBlock = v.ownBlock ∨ ∃ b, v1.ownBlock = some b ∧ W.heap.size ≤ b) → wpList P ops Q rest (a.put o.dst v1) w1) :
    wpList P ops Q (o :: rest) a (W.alloc (.cells #[u] e)) := by
  obtain ⟨i0, hi, hzz⟩ := Option.map_eq_some_iff.1 hinfo
  simp only [Prod.mk.injEq] at hzz
  obtain ⟨hz0, hz1, hz2⟩ := hzz
  have HA : RowQ (W.alloc (.cells #[u] e)) base e v xs := HO.same (fun k hk => (below_alloc (Below.refl W.heap.size W) _).block k (HO.lt k hk).2)
  obtain ⟨v', w', hr, h2, h3, h4⟩ := run_append_q (P := P) (W.alloc (.cells #[u] e)) t o.type i0 z ht hi hz0 hz1 hz bytes hz2 hb0 HA ⟨W.heap.size, 0, none⟩ 1 u ((blk_cell (blk_new W (.cells #[u] e)) 0).trans rfl) h1 hl (by rw [blk_size]; omega)
  have hg : W.grownBy w' v.ownBlock := World.grownBy.trans (World.grownBy_alloc W _ _) h3
  refine wpList_plain hgd fun K' hK' => ?_
  unfold Oper.wp execOp
  simp only [ho, resolve, invoke, builtin, Sem.run_bind, Sem.run_pure, Result.andThen_ok, List.map_toArray, List.map_cons, List.map_nil, hs, hx, hr]
  refine hK' _ _ (h v' w' h2 (HB.grown hg hbase (fun k hk => (HO.lt k hk).1)) hg ?_)
  rcases h4 with h4 | ⟨b, h4, h5⟩
  · exact .inl h4
  · exact .inr ⟨b, h4, by rw [blk_size] at h5; omega⟩
end
end Go.Proofs.Ytnimidkeoocchaa.Hnd
