/- Package haul: right: what it answers. -/
import Derived.Test.YtoleplbmkdhgeaaNbUn
import Derived.Test.YtoleplbmkdhgeaaNbBox
import Derived.Test.YtoleplbmkdhgeaaHandMap
import Derived.Test.YtoleplbmkdhgeaaPQ11
import Derived.Test.YtoleplbmkdhgeaaPQ11
set_option linter.unusedVariables false
set_option linter.unusedSimpArgs false
namespace Go.Proofs.Ytoleplbmkdhgeaa.Hal
open Go.RowKit Go.Proofs.YtoleplbmkdhgeaaW.PrintWords Go.Proofs.YtoleplbmkdhgeaaW.PrintLast Go.Proofs.YtoleplbmkdhgeaaW.PrintMore Go.Proofs.Ytoleplbmkdhgeaa.PQ Go.Proofs.Ytoleplbmkdhgeaa.Hnd Go.Proofs.Ytoleplbmkdhgeaa.Nb

def U64 (x : Int) : Prop := 0 ≤ x ∧ x < 18446744073709551616
/-- The place that a word tells, and whether it tells one. -/
def plN (y : Int) : Int := (ub y).2.1
def isRef (y : Int) : Bool := decide ((ub y).2.2 = 0) && ((ub y).1 == 5)
def rightB (s : Int → Bool) (y : Int) : Bool := decide ((ub y).2.2 = 0) && (!(isRef y) || s (plN y))
theorem place_f (k : Nat) (hk : 4 ≤ k) {y : Int} (hy : U64 y) : haul_place.f k y = some (plN y, isRef y) := by
  unfold haul_place.f
  rw [unbox_f k y hy.1 hy.2 hk]
  simp only [Option.bind_some]
  unfold plN isRef
  by_cases h : (ub y).2.2 = 0
  · rw [if_pos h]; simp [h]
  · rw [if_neg h]; simp [h]
theorem kind_f (k : Nat) (hk : 4 ≤ k) {y : Int} (hy : U64 y) : nanbox_Kind.f k y = some (if (ub y).2.2 = 0 then (ub y).1 else -1) := by
  unfold nanbox_Kind.f
  rw [unbox_f k y hy.1 hy.2 hk]
  simp only [Option.bind_some]
  by_cases h : (ub y).2.2 = 0
  · rw [if_pos h, if_pos h]
  · rw [if_neg h, if_neg h]
theorem ub_kind {y : Int} (hy : U64 y) : 0 ≤ (ub y).1 := by
  obtain ⟨h0, h1⟩ := hy
  by_cases hc : y / 281474976710656 < 65529 ∨ y / 281474976710656 > 65534
  · rw [ub_outside hc]; split <;> simp
  · unfold ub
    rw [if_neg hc]
    split
    · simp only; unfold uk; split <;> omega
    · simp
theorem plN_I64 {y : Int} (hy : U64 y) : I64 (plN y) := by
  obtain ⟨h0, h1⟩ := hy
  unfold plN I64
  by_cases hc : y / 281474976710656 < 65529 ∨ y / 281474976710656 > 65534
  · rw [ub_outside hc]; split
    · simp
    · simp only; unfold wrap64; omega
  · unfold ub
    rw [if_neg hc]
    split
    · simp only; unfold un; split <;> omega
    · simp
theorem zeroU (w : World) : (zeroValue 91).run Try.prog w = .ok (.agg #[]) w := by kernel_rfl
set_option maxHeartbeats 8000000 in
set_option maxRecDepth 100000 in
theorem right_calls (w : World) (y : Int) (b n : Nat) (s : Int → Bool) (hs : IsSet Try.prog 3 w b n s) (hy : U64 y) :
    Calls Try.prog 48 #[.int .u64 y, .map (some b)] w fun e w' => e = .returned (.bool (rightB s y)) ∧ Below w.heap.size w w' := by
  have HS := Aside0.mk hs
  have HY := Aside0.mk hy
  have K1 := Aside0.mk (kind_f 4 (Nat.le_refl _) hy)
  have K2 := Aside0.mk (place_f 4 (Nat.le_refl _) hy)
  have HU := Try.underlying90
  clear hs hy
  by_cases he : (ub y).2.2 = 0
  · have hk0 : 0 ≤ (ub y).1 := ub_kind HY.out
    have K3 : Aside0 (nanbox_Kind.f 4 y = some (ub y).1) := ⟨by rw [K1.out, if_pos he]⟩
    have hd : decide ((ub y).1 < 0) = false := decide_eq_false (by omega)
    have HE := Aside0.mk he
    generalize hkk : (ub y).1 = kk at hk0 K3 hd
    have HKK := Aside0.mk hkk
    clear K1 he hkk
    cases hr : isRef y with
    | false =>
      have K4 : Aside0 (haul_place.f 4 y = some (plN y, false)) := ⟨by rw [K2.out, hr]⟩
      have HR : Aside0 (rightB s y = true) := ⟨by unfold rightB; rw [hr, decide_eq_true HE.out]; rfl⟩
      clear K2 hr
      go_enter Try.func48, Try.ntmps48
      go_wp2_with fail
      refine (nanbox_Kind.calls 4 y kk _ K3.out).mono ?_
      rintro e w1 ⟨rfl, hb⟩
      have HB1 := Aside0.mk hb
      clear hb
      go_wp2_with fail
      refine (haul_place.calls 4 y (plN y) false _ K4.out).mono ?_
      rintro e w2 ⟨rfl, hb⟩
      have HB2 := Aside0.mk (below_step HB1.out hb)
      clear hb
      go_wp2
      go_ret
      rw [HR.out]
      exact ⟨rfl, HB2.out⟩
    | true =>
      have K4 : Aside0 (haul_place.f 4 y = some (plN y, true)) := ⟨by rw [K2.out, hr]⟩
      have HR : Aside0 (rightB s y = s (plN y)) := ⟨by unfold rightB; rw [hr, decide_eq_true HE.out]; rfl⟩
      have HI := Aside0.mk (plN_I64 HY.out)
      clear K2 hr
      generalize plN y = p at K4 HR HI
      go_enter Try.func48, Try.ntmps48
      go_wp2_with fail
      refine (nanbox_Kind.calls 4 y kk _ K3.out).mono ?_
      rintro e w1 ⟨rfl, hb⟩
      have HB1 := Aside0.mk hb
      clear hb
      go_wp2_with fail
      refine (haul_place.calls 4 y p true _ K4.out).mono ?_
      rintro e w2 ⟨rfl, hb⟩
      have HB2 := Aside0.mk (below_step HB1.out hb)
      have HS2 := Aside0.mk (HS.out.below HB2.out)
      clear hb
      go_wp2_with (at_lookup; refine look_set rfl _ _ rfl Try.underlying3 HU (zeroU _) HS2.out rfl p rfl HI.out ?_)
      go_ret
      rw [HR.out]
      exact ⟨rfl, below_alloc HB2.out _⟩
  · have K3 : Aside0 (nanbox_Kind.f 4 y = some (-1)) := ⟨by rw [K1.out, if_neg he]⟩
    have HR : Aside0 (rightB s y = false) := ⟨by unfold rightB; rw [decide_eq_false he]; rfl⟩
    clear K1 K2 he
    go_enter Try.func48, Try.ntmps48
    go_wp2_with fail
    refine (nanbox_Kind.calls 4 y (-1) _ K3.out).mono ?_
    rintro e w1 ⟨rfl, hb⟩
    have HB1 := Aside0.mk hb
    clear hb
    go_wp2
    go_ret
    rw [HR.out]
    exact ⟨rfl, HB1.out⟩
end Go.Proofs.Ytoleplbmkdhgeaa.Hal
