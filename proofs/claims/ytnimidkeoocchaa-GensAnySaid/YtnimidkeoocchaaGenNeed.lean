/- What is needed in a graph: neededIn walked. -/
import Derived.Test.YtnimidkeoocchaaGenLaw
set_option linter.unusedVariables false
set_option linter.unusedSimpArgs false
namespace Go.Proofs.Ytnimidkeoocchaa.Gen
open Go.RowKit Go.Proofs.YtnimidkeoocchaaW.PrintWords Go.Proofs.YtnimidkeoocchaaW.PrintLast Go.Proofs.YtnimidkeoocchaaW.PrintMore Go.Proofs.Ytnimidkeoocchaa.PG Go.Proofs.Ytnimidkeoocchaa.Hnd Go.Proofs.Ytnimidkeoocchaa.Rch
set_option maxHeartbeats 8000000 in
set_option maxRecDepth 100000 in
theorem neededIn_calls (w : World) (AH : Option Addr) (cH : Nat) (has : List (List Int)) (AR : Option Addr) (cR : Nat) (roots : List Int)
    (hH : KH.C w AH has.length has) (hl : (Kd.int .i64).C w AR roots.length roots) (hlc : roots.length ≤ cR)
    (hhas : ∀ l ∈ has, InR has.length l) (hin : InR has.length roots) (hsz : has.length ≤ 1000000) :
    Calls Try.prog 21 #[.agg #[.slice AH has.length cH, .slice AR roots.length cR]] w fun e w' => ∃ v0 : Value, e = .returned v0 ∧ (Kd.int .i64).R 3 w' w.heap.size (fun _ => True) v0 (rise (fromL has roots)) ∧ Below w.heap.size w w' := by
  have hbx := below_alloc (Below.refl w.heap.size w) (Obj.cells #[.slice AH has.length cH, .slice AR roots.length cR] 38)
  have HB := Aside0.mk hbx
  have HCALL := Aside0.mk (rfrom_calls _ AH cH has AR roots.length cR AR cR roots (Kd.C_below hH hbx) (Kd.C_below hl hbx) hlc hhas hin hsz)
  have HLN := Aside0.mk (fromL_length has roots)
  obtain ⟨s, hs⟩ : ∃ s, s = fromL has roots := ⟨_, rfl⟩
  rw [← hs] at HLN HCALL
  have HSS := Aside0.mk hs
  clear hs
  have HZ := Aside0.mk hsz
  clear hH hl hlc hhas hin hsz hbx
  go_enter Try.func21, Try.ntmps21
  go_wp2_with fail
  refine HCALL.out.mono ?_
  rintro e w1 ⟨v0, rfl, hR, hb⟩
  have HB1 := Aside0.mk (below_step HB.out hb)
  obtain ⟨A, c, eA⟩ := Kd.R_slice hR
  subst eA
  obtain ⟨_, h1, h2⟩ := Kd.R_reads' hR
  have HRC := Aside0.mk (backstitchref3_Rising.calls (s.length + 1) A c s (rise s) w1 h2 h1 (rising_f s (by rw [HLN.out]; exact HZ.out) _ (by omega)))
  clear hR hb h1 h2 HCALL
  go_wp2_with fail
  refine HRC.out.mono ?_
  rintro e w2 ⟨v1, rfl, hR1, hd⟩
  have HF : Aside0 ((Kd.int .i64).R 3 w2 w.heap.size (fun _ => True) v1 (rise (fromL has roots))) := ⟨by rw [← HSS.out]; exact Kd.R_lower hR1 HB1.out.size⟩
  have HD := Aside0.mk (below_step HB1.out hd)
  clear hR1 hd HRC
  go_wp2_with fail
  go_ret
  exact ⟨_, rfl, HF.out, HD.out⟩
end Go.Proofs.Ytnimidkeoocchaa.Gen
