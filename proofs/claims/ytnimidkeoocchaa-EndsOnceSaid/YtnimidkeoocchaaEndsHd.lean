/- Package ends: the literals within Rounds. -/
import Derived.Test.YtnimidkeoocchaaEndsDe
import Derived.Test.YtnimidkeoocchaaHandMapV
set_option linter.unusedVariables false
set_option linter.unusedSimpArgs false
namespace Go.Proofs.Ytnimidkeoocchaa.End
open Go.RowKit Go.Proofs.YtnimidkeoocchaaW.PrintWords Go.Proofs.YtnimidkeoocchaaW.PrintLast Go.Proofs.YtnimidkeoocchaaW.PrintMore Go.Proofs.Ytnimidkeoocchaa.PE Go.Proofs.Ytnimidkeoocchaa.Rch Go.Proofs.Ytnimidkeoocchaa.Chk Go.Proofs.Ytnimidkeoocchaa.Fni Go.Proofs.Ytnimidkeoocchaa.Hnd

/-- Has a thing another one, by whatever way? -/
def hB (has : List (List Int)) (k n : Int) : Bool := (fromL has (has.getD k.toNat [])).getD n.toNat false
/-- The map of what each of some things has, in memory below N. -/
structure Had (W : World) (N b9 bm : Nat) (has : List (List Int)) (l0 : List Int) : Prop where
  cell : W.heap[b9]? = some (.cells #[.map (some bm)] 89 (0, 0))
  mp : ∃ n f, IsMapV Try.prog 3 W bm n f ∧ ∀ k ∈ l0, ∃ A c, f k = some (.slice A has.length c) ∧ Kd.bool.R 4 W 0 (fun j => j < N) (.slice A has.length c) (fromL has (has.getD k.toNat []))
  lt9 : b9 < N
  ltm : bm < N
theorem Had.same {W W1 : World} {N b9 bm : Nat} {has : List (List Int)} {l0 : List Int} (h : Had W N b9 bm has l0) (hs : ∀ k, k < N → (∃ cs, W.heap[k]? = some (.cells cs 29 (0, 0))) ∨ W1.heap[k]? = W.heap[k]?) : Had W1 N b9 bm has l0 := by
  have hne : ∀ k o, W.heap[k]? = some o → k < N → (∀ cs, o ≠ .cells cs 29 (0, 0)) → W1.heap[k]? = W.heap[k]? := by
    intro k o ho hk hn
    rcases hs k hk with ⟨cs, hc⟩ | h_
    · rw [ho] at hc; injection hc with hc; exact absurd hc (hn cs)
    · exact h_
  obtain ⟨n, f, hm, hf⟩ := h.mp
  refine ⟨(hne b9 _ h.cell h.lt9 (fun cs e => by injection e with _ e2; exact absurd e2 (by decide))).trans h.cell, ⟨n, f, ?_, fun k hk => ?_⟩, h.lt9, h.ltm⟩
  · obtain ⟨D, ⟨es, clock, hb, rest⟩, g⟩ := hm
    exact ⟨D, ⟨es, clock, (hne bm _ hb h.ltm (fun cs e => by cases e)).trans hb, rest⟩, g⟩
  · obtain ⟨A, c, h1, h2⟩ := hf k hk
    refine ⟨A, c, h1, Kd.R_mono (Kd.R_step (Kd.R_bound h2) (fun j hj hlt => ?_)) (fun j hj => hj.1)⟩
    obtain ⟨g1, _, _, q, hq, cells, hc⟩ := hj
    refine hne j _ hc g1 (fun cs e => ?_)
    injection e with _ e2
    have : q = 4 := by simpa [Kd.bool, Kd.scalar] using hq
    rw [this] at e2
    exact absurd e2 (by decide)
theorem zeroS (w : World) : (zeroValue 48).run Try.prog w = .ok (.slice none 0 0) w := by kernel_rfl
set_option maxHeartbeats 8000000 in
set_option maxRecDepth 100000 in
theorem keeps_calls (W : World) (N b9 bm bn : Nat) (has : List (List Int)) (l0 : List Int) (k n : Int) (hH : Had W N b9 bm has l0) (hn : W.heap[bn]? = some (.cells #[.int .i64 n] 3 (0, 0))) (hk : k ∈ l0) (hkr : I64 k) (hnr : 0 ≤ n ∧ n < (has.length : Int)) :
    Calls Try.prog 62 #[.int .i64 k, .pointer (some ⟨bn, 0, none⟩), .pointer (some ⟨b9, 0, none⟩)] W fun e w' => e = .returned (.bool (!(k == n) && hB has k n)) ∧ Below W.heap.size W w' := by
  have x0 := (blk_cell hn 0).trans rfl
  have x1 := (blk_cell hH.cell 0).trans rfl
  obtain ⟨m, f, hm, hf⟩ := hH.mp
  obtain ⟨A, c, hfk, hR⟩ := hf k hk
  have hrun := run_look (t := 89) Try.underlying3 Try.underlying89 (zeroS W) hm k hkr hfk
  have hC := (Kd.R_reads' hR).2.2
  have hlen : (fromL has (has.getD k.toNat [])).length = has.length := fromL_length _ _
  obtain ⟨ad, e, hy⟩ := Kd.at_bool hC n hnr.1 (by rw [hlen]; exact hnr.2)
  subst e
  have hrd : rdOf false (fromL has (has.getD k.toNat [])) n = hB has k n := rfl
  rw [hrd] at hy
  have h0 := hnr.1
  have h1 := hnr.2
  generalize hB has k n = r at hy ⊢
  clear hH hn hm hf hfk hR hC hlen hrd hnr hk hkr
  by_cases e : k = n
  · have hb : (k != n) = false := by simpa using e
    have hb2 : (k == n) = true := by simpa using e
    rw [hb2]
    clear e hb2
    go_enter Try.func62, Try.ntmps62
    go_wp2
    go_ret
    exact ⟨by simp, Below.refl _ _⟩
  · have hb : (k != n) = true := by simpa using e
    have hb2 : (k == n) = false := by simpa using e
    rw [hb2]
    clear e hb2
    go_enter Try.func62, Try.ntmps62
    go_wp2
    go_ret
    exact ⟨by simp, Below.refl _ _⟩
/-- Is a thing had by another one of those left? -/
def hadB (has : List (List Int)) (left : List Int) (n : Int) : Bool := left.any (fun k => !(k == n) && hB has k n)
set_option maxHeartbeats 8000000 in
set_option maxRecDepth 100000 in
theorem had_calls (W : World) (N b6 b9 bm : Nat) (A : Option Addr) (c : Nat) (left : List Int) (has : List (List Int)) (l0 : List Int) (n : Int) (hH : Had W N b9 bm has l0) (hNW : N ≤ W.heap.size) (h6 : W.heap[b6]? = some (.cells #[.slice A left.length c] 29 (0, 0)))
    (hl : (Kd.int .i64).C W A left.length left) (hsub : ∀ k ∈ left, k ∈ l0) (hir : ∀ k ∈ l0, I64 k) (hnr : 0 ≤ n ∧ n < (has.length : Int)) (hz : left.length ≤ 1000) :
    Calls Try.prog 61 #[.int .i64 n, .pointer (some ⟨b6, 0, none⟩), .pointer (some ⟨b9, 0, none⟩)] W fun e w' => e = .returned (.bool (hadB has left n)) ∧ Below W.heap.size W w' := by
  have hbx := below_alloc (Below.refl W.heap.size W) (Obj.cells #[.int .i64 n] 3)
  have x0 := pw_cell_below hbx ((blk_cell h6 0).trans rfl)
  have hnew := blk_new W (Obj.cells #[.int .i64 n] 3)
  have hHb : Had (W.alloc (Obj.cells #[.int .i64 n] 3)) N b9 bm has l0 := hH.same (fun k hk => .inr (hbx.block k (by omega)))
  have HCALL := Aside0.mk (any_calls 62 #[.pointer (some ⟨W.heap.size, 0, none⟩), .pointer (some ⟨b9, 0, none⟩)] (fun k => !(k == n) && hB has k n) (Go.Proofs.enters_of Try.func62 (by kernel_rfl) rfl) _ A c left (Kd.C_below hl hbx)
    (fun W' hs hk x hx => keeps_calls W' N b9 bm W.heap.size has l0 x n (hHb.same (fun k hkN => .inr (hk k (by rw [blk_size]; omega) (fun h => h)))) ((hk _ (by rw [blk_size]; omega) (fun h => h)).trans hnew) (hsub x hx) (hir x (hsub x hx)) hnr) (by omega))
  have HBX := Aside0.mk hbx
  have hE : hadB has left n = left.any (fun k => !(k == n) && hB has k n) := rfl
  rw [hE]
  generalize left.any (fun k => !(k == n) && hB has k n) = r at HCALL ⊢
  clear hH h6 hl hsub hir hnr hz hbx hnew hHb hE
  go_enter Try.func61, Try.ntmps61
  go_wp2_with (go_at_call 44; refine HCALL.out.mono ?_; rintro e w' ⟨rfl, hb'⟩)
  go_ret
  exact ⟨rfl, below_step HBX.out hb'⟩
set_option maxHeartbeats 8000000 in
set_option maxRecDepth 100000 in
theorem among_calls (W : World) (b : Nat) (A : Option Addr) (c : Nat) (now : List Int) (n : Int) (hb : W.heap[b]? = some (.cells #[.slice A now.length c] 29 (0, 0))) (v0 : Nat) (hl : W.ownsRow v0 3 1 (.slice A now.length c) now.length (now.map (Value.int .i64))) (hz : now.length ≤ 1000) :
    Calls Try.prog 63 #[.int .i64 n, .pointer (some ⟨b, 0, none⟩)] W fun e w' => e = .returned (.bool (now.contains n)) ∧ Below W.heap.size W w' := by
  have x0 := (blk_cell hb 0).trans rfl
  have hcall : Calls Try.prog 64 #[.slice A now.length c, .int .i64 n] W fun e w' => e = .returned (.bool (now.contains n)) ∧ w' = W := by
    by_cases h0 : now.length = 0
    · have e0 := List.eq_nil_of_length_eq_zero h0
      subst e0
      exact Try.slices_Contains_int_empty A c n W
    · obtain ⟨g, cap, ev⟩ := own_nthH hl (by omega)
      injection ev with ev1 ev2 ev3
      subst ev1
      have h_ := Try.slices_Contains_int g 0 now.length c now n W (Nat.le_refl _) (by omega) (fun j hj => by
        rw [Nat.zero_add, World.ownsRow.cellAt hl j (by omega)]
        simp [List.getD_eq_getElem?_getD, hj])
      rwa [List.take_length] at h_
  have HCALL := Aside0.mk hcall
  generalize now.contains n = r at HCALL ⊢
  clear hb hl hcall hz
  go_enter Try.func63, Try.ntmps63
  go_wp2_with (go_at_call 64; refine HCALL.out.mono ?_; rintro e w' ⟨rfl, rfl⟩)
  go_ret
  exact ⟨rfl, Below.refl _ _⟩
end Go.Proofs.Ytnimidkeoocchaa.End
