/- Package live walked: ir.Asks, all, one, large. -/
import Derived.Test.YtchcbncelckgeaaLvFs
set_option linter.unusedVariables false
set_option linter.unusedSimpArgs false
namespace Go.Proofs.Ytchcbncelckgeaa.Lv
open Go.RowKit Go.Proofs.YtchcbncelckgeaaW.PrintWords Go.Proofs.YtchcbncelckgeaaW.PrintLast Go.Proofs.YtchcbncelckgeaaW.PrintMore Go.Proofs.Ytchcbncelckgeaa.PZ Go.Proofs.Ytchcbncelckgeaa.Hnd Go.Lib

theorem add_b (b n : Nat) : (⟨b, 0, none⟩ : Addr).add n = ⟨b, n, none⟩ := by
  unfold Addr.add
  by_cases h : n = 0
  · subst h; rfl
  · rw [if_neg h, Nat.zero_add]
theorem C_blk {w : World} {b : Nat} {xs : List Int} {t : TypeId} (h : w.heap[b]? = some (.cells (xs.map (Value.int .i64)).toArray t (0, 0))) (m : Nat) (hm : m ≤ xs.length) (hx : xs.length ≤ 4611686018427387904) : (Kd.int .i64).C w (some ⟨b, 0, none⟩) m (xs.take m) := by
  refine ⟨by rw [List.length_take]; omega, by omega, fun _ => ⟨_, rfl, fun j p hj => ⟨[.int .i64 p], rfl, rfl, fun i u hu => ?_⟩⟩⟩
  have hi : i = 0 := by
    rcases i with _ | i
    · rfl
    · simp at hu
  subst hi
  have hu' : u = .int .i64 p := by simpa using hu.symm
  subst hu'
  show w.cell? ((⟨b, 0, none⟩ : Addr).add (j * 1 + 0)) = _
  rw [add_b, Nat.mul_one, Nat.add_zero, blk_cell h j]
  have hj2 : xs[j]? = some p := by
    rw [List.getElem?_take] at hj
    split at hj
    · exact hj
    · exact absurd hj (by simp)
  simp [hj2]
theorem take3 (a b c : Int) (m : Int) (h0 : 0 ≤ m) (h1 : m ≤ 3) : ([a, b, c].take m.toNat).length = m.toNat := by rw [List.length_take]; simp; omega
set_option maxHeartbeats 8000000 in
set_option maxRecDepth 100000 in
theorem asks_calls (w : World) (x : TI) :
    Calls Try.prog 64 #[.agg #[.int .i64 x.f0, .int .i64 x.f1, .int .i64 x.f2, .int .i64 x.f3, .int .i64 x.f4, .int .i64 x.f5, .int .i64 x.f6.f0, .int .i64 x.f6.f1]] w fun e w' => ∃ v, e = .returned v ∧ Kd.R (Kd.int .i64) 3 w' w.heap.size (fun _ => True) v (asksL x) ∧ Below w.heap.size w w' := by
  obtain ⟨ob, hob⟩ : ∃ ob, ob = Obj.cells #[.int .i64 x.f0, .int .i64 x.f1, .int .i64 x.f2, .int .i64 x.f3, .int .i64 x.f4, .int .i64 x.f5, .int .i64 x.f6.f0, .int .i64 x.f6.f1] 103 := ⟨_, rfl⟩
  have HB := Aside0.mk (below_alloc (Below.refl w.heap.size w) ob)
  have HSB : Aside0 ((w.alloc ob).heap[w.heap.size]? = some (.cells #[.int .i64 x.f0, .int .i64 x.f1, .int .i64 x.f2, .int .i64 x.f3, .int .i64 x.f4, .int .i64 x.f5, .int .i64 x.f6.f0, .int .i64 x.f6.f1] 103 (0, 0))) := ⟨by rw [hob]; exact blk_new w _⟩
  have k0 := (blk_cell HSB.out 0).trans rfl
  rw [hob] at k0
  obtain ⟨hf, h0, h1, h7⟩ := form_some x.f0
  obtain ⟨⟨r1, r2, r3, r4, r5, r6, r7⟩, hr⟩ : ∃ r, r = formL x.f0 := ⟨_, rfl⟩
  have ha : asksL x = [x.f1, x.f2, x.f3].take r1.toNat := by unfold asksL; rw [← hr]
  rw [← hr] at hf h0 h1 h7
  simp only at h0 h1 h7
  rw [ha]
  have HF := Aside0.mk hf
  have H01 := Aside0.mk (And.intro h0 h1)
  have H7 := Aside0.mk h7
  clear hr ha hf h0 h1 h7
  go_enter Try.func64, Try.ntmps64
  go_wp2_with fail
  rw [← hob]
  rw [← hob] at k0
  refine (ir_of.calls x.f0 r1 r2 r3 r4 r5 r6 r7 _ HF.out).mono ?_
  rintro e w1 ⟨rfl, hb1⟩
  have HB1 := Aside0.mk (below_step HB.out hb1)
  have HSB1 := Aside0.mk (blk_below HSB.out hb1)
  clear k0 hob HB HSB hb1
  cases r7 with
  | false =>
    have e1 : r1 = 0 := H7.out rfl
    subst e1
    have hal := below_alloc (Below.refl w1.heap.size w1) (Obj.cells #[.int .i64 0, .int .i64 r2, .int .i64 r3, .bool r4, .bool r5, .int .i64 r6] 146)
    have HB2 := Aside0.mk (below_step HB1.out hal)
    clear hal
    go_wp2_with fail
    go_ret
    exact ⟨_, rfl, Kd.R_nil _ _ _ _ _, HB2.out⟩
  | true =>
    obtain ⟨o1, ho1⟩ : ∃ ob, ob = Obj.cells #[.int .i64 r1, .int .i64 r2, .int .i64 r3, .bool r4, .bool r5, .int .i64 r6] 146 := ⟨_, rfl⟩
    obtain ⟨o2, ho2⟩ : ∃ ob, ob = Obj.cells #[.int .i64 x.f1, .int .i64 x.f2, .int .i64 x.f3] 149 := ⟨_, rfl⟩
    have hal := below_alloc (below_alloc (Below.refl w1.heap.size w1) o1) o2
    have HB2 := Aside0.mk (below_step HB1.out hal)
    have HSB2 := Aside0.mk (blk_below HSB1.out (below_alloc (Below.refl w1.heap.size w1) o1))
    have HF2 : Aside0 (((w1.alloc o1).alloc o2).heap[w1.heap.size]? = some (.cells #[.int .i64 r1, .int .i64 r2, .int .i64 r3, .bool r4, .bool r5, .int .i64 r6] 146 (0, 0))) := ⟨blk_alloc (by rw [ho1]; exact blk_new w1 _) _⟩
    have hsz : (w1.alloc o1).heap.size = w1.heap.size + 1 := Array.size_push _
    have HA2 : Aside0 (((w1.alloc o1).alloc o2).heap[w1.heap.size + 1]? = some (.cells #[.int .i64 x.f1, .int .i64 x.f2, .int .i64 x.f3] 149 (0, 0))) := ⟨by
      have h_ := blk_new (w1.alloc o1) o2
      rw [hsz] at h_
      rw [ho2] at h_ ⊢
      exact h_⟩
    have k1 := (blk_cell HSB2.out 1).trans rfl
    have k2 := (blk_cell HSB2.out 2).trans rfl
    have k3 := (blk_cell HSB2.out 3).trans rfl
    have f0 := (blk_cell HF2.out 0).trans rfl
    rw [ho1] at k1 k2 k3
    rw [ho1, ho2] at f0
    have h0 : 0 ≤ r1 := H01.out.1
    have h1 : r1 ≤ 3 := H01.out.2
    clear hal
    go_upto_region 5 with fail
    rw [← ho1, ← ho2]
    rw [← ho1, ← ho2] at f0
    have HBS : Aside0 (w.heap.size ≤ ((w1.alloc o1).alloc o2).heap.size) := ⟨HB2.out.size⟩
    clear k1 k2 k3 HSB2 HSB1 HF2 hsz ho1 ho2
    generalize (w1.alloc o1).alloc o2 = wz at HB2 HA2 HBS f0 ⊢
    generalize w1.heap.size = b at HA2 f0 ⊢
    have HC := Aside0.mk (C_blk (xs := [x.f1, x.f2, x.f3]) HA2.out r1.toNat (by simp; omega) (by simp))
    have HL3 : Aside0 (([x.f1, x.f2, x.f3].take r1.toNat).length = r1.toNat) := ⟨take3 _ _ _ _ h0 h1⟩
    have HU := Try.underlying44
    generalize htk : [x.f1, x.f2, x.f3].take r1.toNat = tk at HC HL3
    have HTK := Aside0.mk htk
    clear htk
    go_wp2_with (first | ((with_reducible refine gate_builtin (b := .append) (xs := #[.const (.slice none 0 0), .tmp 23]) rfl ?_); refine Kd.R_append_rows (Kd.int .i64) (w0 := w) w.heap.size rfl (.const (.slice none 0 0)) (.tmp 23) 44 3 (.int .i64 0) 8 rfl HU info3 rfl (by decide) (by decide) (.slice none 0 0) [] tk (some ⟨b + 1, 0, none⟩) r1.toNat 3 (fun _ => True) (fun _ => False) rfl rfl (Kd.R_nil _ _ _ _ _) HC.out (fun _ _ h_ => h_) (fun _ h_ => h_.elim) (fun _ _ => trivial) HB2.out ?hbs ?hl ?_; (case hbs => exact HBS.out); (case hl => simp; omega); intro v1 w2 ho hb hg hat; have HO := Aside0.mk ho; have HB3 := Aside0.mk hb; clear ho hb hg hat))
    go_ret
    have h_ := HO.out
    rw [List.nil_append, ← HTK.out] at h_
    exact ⟨v1, rfl, h_, HB3.out⟩
end Go.Proofs.Ytchcbncelckgeaa.Lv
