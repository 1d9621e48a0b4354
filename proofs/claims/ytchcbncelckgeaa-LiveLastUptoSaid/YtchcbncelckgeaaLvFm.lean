/- Package live walked: all. -/
import Derived.Test.YtchcbncelckgeaaLvFn
set_option linter.unusedVariables false
set_option linter.unusedSimpArgs false
namespace Go.Proofs.Ytchcbncelckgeaa.Lv
open Go.RowKit Go.Proofs.YtchcbncelckgeaaW.PrintWords Go.Proofs.YtchcbncelckgeaaW.PrintLast Go.Proofs.YtchcbncelckgeaaW.PrintMore Go.Proofs.Ytchcbncelckgeaa.PZ Go.Proofs.Ytchcbncelckgeaa.Hnd Go.Lib

theorem k23_heap : Kd.Heap k23 := Kd.heap_iso _ (Kd.heap_pair (Kd.heap_int .i64) (Kd.heap_int .i64))
theorem k34_heap : Kd.Heap k34 := Kd.heap_iso _ (Kd.heap_pair (Kd.heap_int .i64) (Kd.heap_int .i64))
theorem k105_heap : Kd.Heap k105 := Kd.heap_iso _ (Kd.heap_pair (Kd.heap_int .i64) (Kd.heap_int .i64))
theorem k46_heap : Kd.Heap k46 := Kd.heap_iso _ (Kd.heap_pair (Kd.heap_int .i64) (Kd.heap_pair (Kd.heap_int .i64) (Kd.heap_pair (Kd.heap_int .i64) (Kd.heap_slice 3 (Kd.heap_int .i64)))))
theorem k31_heap : Kd.Heap k31 := Kd.heap_iso _ (Kd.heap_pair (Kd.heap_int .i64) (Kd.heap_pair (Kd.heap_int .i64) (Kd.heap_pair (Kd.heap_slice 34 k34_heap) (Kd.heap_slice 46 k46_heap))))
theorem k103_heap : Kd.Heap k103 := Kd.heap_iso _ (Kd.heap_pair (Kd.heap_int .i64) (Kd.heap_pair (Kd.heap_int .i64) (Kd.heap_pair (Kd.heap_int .i64) (Kd.heap_pair (Kd.heap_int .i64) (Kd.heap_pair (Kd.heap_int .i64) (Kd.heap_pair (Kd.heap_int .i64) k23_heap))))))
/-- A trace in memory. -/
structure TMem (w : World) {A3 : Option Addr} {c3 : Nat} {A4 : Option Addr} {c4 : Nat} {A7 : Option Addr} {c7 : Nat} {A8 : Option Addr} {c8 : Nat} {A11 : Option Addr} {c11 : Nat} {A12 : Option Addr} {c12 : Nat} (t : TT) : Prop where
  i : Kd.C k103 w A3 t.f3.length t.f3
  ic : t.f3.length ≤ c3
  e : Kd.C k31 w A4 t.f4.length t.f4
  ec : t.f4.length ≤ c4
  ts : Kd.C k34 w A7 t.f5.f2.length t.f5.f2
  tsc : t.f5.f2.length ≤ c7
  tm : Kd.C k46 w A8 t.f5.f3.length t.f5.f3
  tmc : t.f5.f3.length ≤ c8
  bs : Kd.C k34 w A11 t.f6.f2.length t.f6.f2
  bsc : t.f6.f2.length ≤ c11
  bm : Kd.C k46 w A12 t.f6.f3.length t.f6.f3
  bmc : t.f6.f3.length ≤ c12
theorem TMem.below {w w1 : World} {A3 : Option Addr} {c3 : Nat} {A4 : Option Addr} {c4 : Nat} {A7 : Option Addr} {c7 : Nat} {A8 : Option Addr} {c8 : Nat} {A11 : Option Addr} {c11 : Nat} {A12 : Option Addr} {c12 : Nat} {t : TT} (h : TMem w (A3 := A3) (c3 := c3) (A4 := A4) (c4 := c4) (A7 := A7) (c7 := c7) (A8 := A8) (c8 := c8) (A11 := A11) (c11 := c11) (A12 := A12) (c12 := c12) t) (hb : Below w.heap.size w w1) : TMem w1 (A3 := A3) (c3 := c3) (A4 := A4) (c4 := c4) (A7 := A7) (c7 := c7) (A8 := A8) (c8 := c8) (A11 := A11) (c11 := c11) (A12 := A12) (c12 := c12) t := ⟨Kd.C_below h.i hb, h.ic, Kd.C_below h.e hb, h.ec, Kd.C_below h.ts hb, h.tsc, Kd.C_below h.tm hb, h.tmc, Kd.C_below h.bs hb, h.bsc, Kd.C_below h.bm hb, h.bmc⟩
/-- A trace of a size that machines have. -/
structure TSz (t : TT) : Prop where
  i : t.f3.length ≤ 1048576
  e : t.f4.length ≤ 1048576
  x : ∀ x ∈ t.f4, bigX x ≤ 1048576
  tu : bigX t.f5 ≤ 1048576
  ba : bigX t.f6 ≤ 1048576
set_option maxHeartbeats 8000000 in
set_option maxRecDepth 100000 in
theorem all1_calls (w : World) {A3 : Option Addr} {c3 : Nat} {A4 : Option Addr} {c4 : Nat} {A7 : Option Addr} {c7 : Nat} {A8 : Option Addr} {c8 : Nat} {A11 : Option Addr} {c11 : Nat} {A12 : Option Addr} {c12 : Nat} (t : TT) (v at_ : Int) (b5 b3 : Nat) (h5 : w.heap[b5]? = some (.cells #[.int .i64 at_] 3 (0, 0))) (h3 : w.heap[b3]? = some (.cells #[.int .i64 t.f0, .int .i64 t.f1, .int .i64 t.f2, .slice A3 t.f3.length c3, .slice A4 t.f4.length c4, .int .i64 t.f5.f0, .int .i64 t.f5.f1, .slice A7 t.f5.f2.length c7, .slice A8 t.f5.f3.length c8, .int .i64 t.f6.f0, .int .i64 t.f6.f1, .slice A11 t.f6.f2.length c11, .slice A12 t.f6.f3.length c12] 97 (0, 0))) (hi : Kd.C k103 w A3 t.f3.length t.f3) :
    Calls Try.prog 83 #[.int .i64 v, .pointer (some ⟨b5, 0, none⟩), .pointer (some ⟨b3, 0, none⟩)] w fun e w' => e = .returned (.bool (badV t.f3 at_ v)) ∧ Below w.heap.size w w' := by
  have c0 := (blk_cell h5 0).trans rfl
  have c3_ := (blk_cell h3 3).trans rfl
  have HI := Aside0.mk hi
  clear h5 h3 hi
  by_cases h0 : v < 0
  · have hd : decide (v < 0) = true := decide_eq_true h0
    have he : badV t.f3 at_ v = true := by unfold badV; rw [if_pos h0]
    rw [he]
    clear h0 he
    go_enter Try.func83, Try.ntmps83
    go_wp2_with fail
    go_ret
    exact ⟨rfl, Below.refl _ _⟩
  · have hd : decide (v < 0) = false := decide_eq_false h0
    by_cases h1 : at_ ≤ v
    · have hd1 : decide (at_ ≤ v) = true := decide_eq_true h1
      have he : badV t.f3 at_ v = true := by unfold badV; rw [if_neg h0, if_pos h1]
      rw [he]
      clear h0 h1 he
      go_enter Try.func83, Try.ntmps83
      go_wp2_with fail
      go_ret
      exact ⟨rfl, Below.refl _ _⟩
    · have hd1 : decide (at_ ≤ v) = false := decide_eq_false h1
      by_cases h2 : (t.f3.length : Int) ≤ v
      · have hd2 : decide ((t.f3.length : Int) ≤ v) = true := decide_eq_true h2
        have he : badV t.f3 at_ v = true := by unfold badV; rw [if_neg h0, if_neg h1, if_pos h2]
        rw [he]
        clear h0 h1 h2 he
        go_enter Try.func83, Try.ntmps83
        go_wp2_with fail
        go_ret
        exact ⟨rfl, Below.refl _ _⟩
      · have hd2 : decide ((t.f3.length : Int) ≤ v) = false := decide_eq_false h2
        have he : badV t.f3 at_ v = !tellsB (rd_T103 t.f3 v).f0 := by unfold badV; rw [if_neg h0, if_neg h1, if_neg h2]
        rw [he]
        obtain ⟨ad, eA, x0, _⟩ := at_T103 HI.out v (by omega) (by omega)
        subst eA
        have p0 : (0 : Int) ≤ v := by omega
        have p1 : v < (t.f3.length : Int) := by omega
        have HT := Aside0.mk (tells_f (rd_T103 t.f3 v).f0)
        generalize rd_T103 t.f3 v = xi at x0 HT ⊢
        generalize tellsB xi.f0 = tb at HT ⊢
        clear h0 h1 h2 he
        go_enter Try.func83, Try.ntmps83
        go_wp2_with fail
        refine (ir_Tells.calls xi.f0 tb _ HT.out).mono ?_
        rintro e w1 ⟨rfl, hb1⟩
        have HB1 := Aside0.mk hb1
        clear hb1
        go_wp2_with fail
        go_ret
        exact ⟨rfl, HB1.out⟩
set_option maxHeartbeats 8000000 in
set_option maxRecDepth 100000 in
theorem all_calls (w : World) {A3 : Option Addr} {c3 : Nat} {A4 : Option Addr} {c4 : Nat} {A7 : Option Addr} {c7 : Nat} {A8 : Option Addr} {c8 : Nat} {A11 : Option Addr} {c11 : Nat} {A12 : Option Addr} {c12 : Nat} (t : TT) (A : Option Addr) (c : Nat) (l : List Int) (at_ : Int) (hi : Kd.C k103 w A3 t.f3.length t.f3) (hl : (Kd.int .i64).C w A l.length l) (hz : l.length ≤ 2000000) :
    Calls Try.prog 75 #[.agg #[.int .i64 t.f0, .int .i64 t.f1, .int .i64 t.f2, .slice A3 t.f3.length c3, .slice A4 t.f4.length c4, .int .i64 t.f5.f0, .int .i64 t.f5.f1, .slice A7 t.f5.f2.length c7, .slice A8 t.f5.f3.length c8, .int .i64 t.f6.f0, .int .i64 t.f6.f1, .slice A11 t.f6.f2.length c11, .slice A12 t.f6.f3.length c12], .slice A l.length c, .int .i64 at_] w fun e w' => e = .returned (.bool (allB t.f3 l at_)) ∧ Below w.heap.size w w' := by
  obtain ⟨o1, ho1⟩ : ∃ ob, ob = Obj.cells #[.int .i64 t.f0, .int .i64 t.f1, .int .i64 t.f2, .slice A3 t.f3.length c3, .slice A4 t.f4.length c4, .int .i64 t.f5.f0, .int .i64 t.f5.f1, .slice A7 t.f5.f2.length c7, .slice A8 t.f5.f3.length c8, .int .i64 t.f6.f0, .int .i64 t.f6.f1, .slice A11 t.f6.f2.length c11, .slice A12 t.f6.f3.length c12] 97 := ⟨_, rfl⟩
  obtain ⟨o2, ho2⟩ : ∃ ob, ob = Obj.cells #[.int .i64 at_] 3 := ⟨_, rfl⟩
  have hal := below_alloc (below_alloc (Below.refl w.heap.size w) o1) o2
  have hsz : (w.alloc o1).heap.size = w.heap.size + 1 := Array.size_push _
  have h3 : ((w.alloc o1).alloc o2).heap[w.heap.size]? = some (.cells #[.int .i64 t.f0, .int .i64 t.f1, .int .i64 t.f2, .slice A3 t.f3.length c3, .slice A4 t.f4.length c4, .int .i64 t.f5.f0, .int .i64 t.f5.f1, .slice A7 t.f5.f2.length c7, .slice A8 t.f5.f3.length c8, .int .i64 t.f6.f0, .int .i64 t.f6.f1, .slice A11 t.f6.f2.length c11, .slice A12 t.f6.f3.length c12] 97 (0, 0)) := blk_alloc (by rw [ho1]; exact blk_new w _) _
  have h5 : ((w.alloc o1).alloc o2).heap[w.heap.size + 1]? = some (.cells #[.int .i64 at_] 3 (0, 0)) := by
    have h_ := blk_new (w.alloc o1) o2
    rw [hsz] at h_
    rw [ho2] at h_ ⊢
    exact h_
  have hp : PrI 83 #[.pointer (some ⟨w.heap.size + 1, 0, none⟩), .pointer (some ⟨w.heap.size, 0, none⟩)] (badV t.f3 at_) l (fun _ => False) ((w.alloc o1).alloc o2) := fun W hsz hk x hx => by
    have hb : ∀ k, k < ((w.alloc o1).alloc o2).heap.size → W.heap[k]? = ((w.alloc o1).alloc o2).heap[k]? := fun k hk2 => hk k hk2 (fun h => h)
    exact all1_calls W t x at_ _ _ ((hb _ (blk_lt h5)).trans h5) ((hb _ (blk_lt h3)).trans h3) (Kd.F_now (Kd.F_step (Kd.C_F k103_heap (Kd.C_below hi hal)) (fun k _ hlt => hb k hlt)))
  have HCALL := Aside0.mk (any_calls 83 #[.pointer (some ⟨w.heap.size + 1, 0, none⟩), .pointer (some ⟨w.heap.size, 0, none⟩)] (badV t.f3 at_) (Go.Proofs.enters_of Try.func83 (by kernel_rfl) rfl) _ A c l (Kd.C_below hl hal) hp hz)
  have HB := Aside0.mk hal
  unfold allB
  generalize l.any (badV t.f3 at_) = r at HCALL ⊢
  rw [ho1, ho2] at HCALL HB
  clear hp h3 h5 hal hi hl hz hsz ho1 ho2
  go_enter Try.func75, Try.ntmps75
  go_wp2_with (go_at_call 82; refine HCALL.out.mono ?_; rintro e w' ⟨rfl, hb'⟩)
  go_ret
  exact ⟨rfl, below_step HB.out hb'⟩
end Go.Proofs.Ytchcbncelckgeaa.Lv
