/- Package haul: Collect for the laws, and the closed fact. -/
import Derived.Test.YtoleplbmkdhgeaaHaulCo
import Derived.Test.YtoleplbmkdhgeaaHaulGp
import Derived.Test.YtoleplbmkdhgeaaPQ9
import Derived.Test.YtoleplbmkdhgeaaPQ9
set_option linter.unusedVariables false
set_option linter.unusedSimpArgs false
namespace Go.Proofs.Ytoleplbmkdhgeaa.Hal
open Go.RowKit Go.Proofs.YtoleplbmkdhgeaaW.PrintWords Go.Proofs.YtoleplbmkdhgeaaW.PrintLast Go.Proofs.YtoleplbmkdhgeaaW.PrintMore Go.Proofs.Ytoleplbmkdhgeaa.PQ Go.Proofs.Ytoleplbmkdhgeaa.Hnd Go.Proofs.Ytoleplbmkdhgeaa.Nb

def HeapOf (fr rs : List Int) : Prop := Heap fr rs (objF fr).1
theorem collect_h (w : World) (AW : Option Addr) (cW : Nat) (words : List Int) (AR : Option Addr) (cR : Nat) (roots : List Int)
    (hW : Kd.C (Kd.int .u64) w AW words.length words) (hcW : words.length ≤ cW) (hR : Kd.C (Kd.int .u64) w AR roots.length roots) (hU : ∀ x ∈ words, U64 x) (hV : ∀ x ∈ roots, U64 x) :
    Calls Try.prog 29 #[.agg #[.slice AW words.length cW, .slice AR roots.length cR]] w fun e w' =>
      (chkE words roots (objF words).1 (objF words).2 ≠ 0 ∧ CollBad w (chkE words roots (objF words).1 (objF words).2) e w') ∨ (chkE words roots (objF words).1 (objF words).2 = 0 ∧ HeapOf words roots ∧ CollOk w words (objF words).1 roots e w') := by
  by_cases hl : words.length ≤ 2000
  · have h := collect_calls 2001 w AW cW words AR cR roots (objF words).1 (objF words).2 hW hcW hR hU hV (fun _ => objects_k hU hl 2001 (Nat.le_refl _)) (fun x hx => by have := objW_mem _ _ x hx; unfold I64; omega) (by have := objW_len (fr := words) words.length 0; unfold objF; omega)
      (fun h0 => by
        obtain ⟨h1, h2⟩ := heap_of h0
        exact ⟨h2.len, h2.rlen, h2.ok, fun y hy => right_ref (h2.rval y hy)⟩)
    exact h.mono (fun e w' hh => by
      rcases hh with hh | ⟨h0, h1⟩
      · exact .inl hh
      · exact .inr ⟨h0, (heap_of h0).2, h1⟩)
  · have hE : ∀ o i, chkE words roots o i = 2 := fun o i => by unfold chkE; rw [if_pos (by omega)]
    have h := collect_calls 2001 w AW cW words AR cR roots [] true hW hcW hR hU hV (fun h_ => (hl h_).elim) (by simp) (by simp) (fun h0 => by rw [hE] at h0; cases h0)
    exact h.mono (fun e w' hh => by
      rcases hh with ⟨h0, h1⟩ | ⟨h0, h1⟩
      · refine .inl ⟨by rw [hE]; decide, ?_⟩
        rw [hE] at h1 ⊢; exact h1
      · rw [hE] at h0; cases h0)
theorem C_lit {W : World} {g t : Nat} {xs : List Int} {k : IntKind} (hb : W.heap[g]? = some (.cells (xs.map (Value.int k)).toArray t (0, 0))) (hl : xs.length ≤ 9223372036854775807) : Kd.C (Kd.int k) W (some ⟨g, 0, none⟩) xs.length xs := by
  refine ⟨rfl, hl, fun _ => ⟨_, rfl, fun j p hj => ⟨[.int k p], rfl, rfl, fun i u hu => ?_⟩⟩⟩
  rcases i with _ | i
  · simp at hu; subst hu
    rw [add_plain, blk_cell hb]
    have e_ : (Kd.int k).sz = 1 := rfl
    simp [e_, hj]
  · simp at hu
def hW : List Int := [0, 0]
def hR : List Int := [18445899648779419649]
theorem hauled_fin {c : Col} {fs outs : List Int} (F : Fin_ hW (objF hW).1 hR outs c fs) : c.dst = [0] ∧ outs = [18445899648779419648] ∧ c.mvs = [⟨0, 1⟩] := by
  have hd : disc [] hR = [1] := by decide +kernel
  have h1 : bf hW [1] 1 = [1] := by decide +kernel
  have hfs : fs = [1] := by
    have ha := F.1
    unfold Ord at ha
    rw [hd] at ha
    rcases Nat.lt_trichotomy fs.length 1 with h | h | h
    · have h0 : fs.length = 0 := by omega
      rw [h0] at ha
      have := ha.1; rw [this] at h0; simp [bf] at h0
    · rw [h] at ha; rw [ha.1, h1]
    · have := ha.2 1 h; rw [h1] at this; simp at this
  subst hfs
  have hm : mvOf hW 0 [1] = [⟨0, 1⟩] := rfl
  have hf : c.fn 1 = some 0 := (F.2.1.fn 1 0).2 (by rw [hm]; exact List.mem_singleton.2 rfl)
  refine ⟨?_, ?_, by rw [F.2.1.mvs, hm]⟩
  · have hl : c.dst.length = 1 := by rw [F.2.1.len]; decide +kernel
    have h0 := F.2.1.hd 0 1 (by rw [hm]; exact List.mem_singleton.2 rfl)
    obtain ⟨x, hx⟩ := List.length_eq_one_iff.1 hl
    rw [hx] at h0 ⊢
    have : hW.getD (1 : Int).toNat 0 = 0 := by decide +kernel
    rw [this] at h0
    simpa using h0
  · rw [F.2.2.1]
    have ht : trW c.fn 18445899648779419649 = 18445899648779419648 := by
      unfold trW
      have e1 : isRef 18445899648779419649 = true := by decide +kernel
      have e2 : plN 18445899648779419649 = 1 := by decide +kernel
      rw [if_pos e1, e2, hf]
      decide +kernel
    show [trW c.fn 18445899648779419649] = _
    rw [ht]
theorem hauled_chk : chkE hW hR (objF hW).1 (objF hW).2 = 0 := by decide +kernel
end Go.Proofs.Ytoleplbmkdhgeaa.Hal
