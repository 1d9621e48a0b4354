/- Package haul: small facts for the law functions. -/
import Derived.Test.YtoleplbmkdhgeaaHaulHd
import Derived.Test.YtoleplbmkdhgeaaPQ8
set_option linter.unusedVariables false
set_option linter.unusedSimpArgs false
namespace Go.Proofs.Ytoleplbmkdhgeaa.Hal
open Go.RowKit Go.Proofs.YtoleplbmkdhgeaaW.PrintWords Go.Proofs.YtoleplbmkdhgeaaW.PrintLast Go.Proofs.YtoleplbmkdhgeaaW.PrintMore Go.Proofs.Ytoleplbmkdhgeaa.PQ Go.Proofs.Ytoleplbmkdhgeaa.Hnd Go.Proofs.Ytoleplbmkdhgeaa.Nb

/-- A move that lies in a row. -/
theorem at_move {w : World} {A : Option Addr} {n : Nat} {xs : List (S56)} (h : Kd.C k56 w A n xs) (i : Nat) (hi : i < n) : ∃ ad, A = some ad ∧ w.cell? (ad.add (i * 2)) = some (.int .i64 (xs.getD i z56).f0) ∧ w.cell? ⟨(ad.add (i * 2)).block, (ad.add (i * 2)).off + 1, none⟩ = some (.int .i64 (xs.getD i z56).f1) := by
  obtain ⟨ad, e, h0, h1⟩ := at_T56 h (i : Int) (by omega) (by omega)
  exact ⟨ad, e, by simpa [rd_T56] using h0, by simpa [rd_T56] using h1⟩
theorem C_nothing {α : Type} (d : Kd α) (w : World) : d.C w none 0 [] := ⟨rfl, by simp, fun h => absurd h (by simp)⟩
theorem chk_sub {fr rs rs' objs : List Int} {is : Bool} (h : chkE fr rs objs is = 0) (hs : ∀ y ∈ rs', y ∈ rs) (hl : rs'.length ≤ 100) : chkE fr rs' objs is = 0 := by
  obtain ⟨h1, h2, h3, h4, h5⟩ := chk_ok h
  subst h3
  exact chk_of h1 hl h4 (fun y hy => h5 y (hs y hy))
theorem fin_from {fr rs objs outs : List Int} {c : Col} {fs : List Int} (F : Fin_ fr objs rs outs c fs) : c.mvs.map (fun m => m.f1) = fs := by
  rw [F.2.1.mvs, mv_f1]
theorem fin_move {fr rs objs outs : List Int} {c : Col} {fs : List Int} (F : Fin_ fr objs rs outs c fs) : c.mvs = mvOf fr 0 fs := F.2.1.mvs
/-- Is a place among those that were moved? -/
def fnd (ms : List (S56)) (p : Int) (n : Nat) : Bool := (ms.take n).any (fun y => p == y.f1)
theorem fnd_succ {ms : List (S56)} {p : Int} {n : Nat} (h : n < ms.length) : fnd ms p (n + 1) = (fnd ms p n || (p == ms[n].f1)) := by
  unfold fnd
  rw [List.take_succ_eq_append_getElem h, List.any_append]
  simp
theorem fnd_less {fr rs rs' objs outs outs' : List Int} {c c' : Col} {fs fs' : List Int} (H : Heap fr rs objs) (F : Fin_ fr objs rs outs c fs) (F' : Fin_ fr objs rs' outs' c' fs') (hs : ∀ y ∈ rs', y ∈ rs) : ∀ m ∈ c'.mvs, fnd c.mvs m.f1 c.mvs.length = true := by
  intro m hm
  have h1 : m.f1 ∈ fs' := by rw [← fin_from F']; exact List.mem_map.2 ⟨m, hm, rfl⟩
  have h2 := fin_less H F F' hs _ h1
  rw [← fin_from F] at h2
  obtain ⟨y, hy, e⟩ := List.mem_map.1 h2
  unfold fnd
  rw [List.take_length]
  exact List.any_eq_true.2 ⟨y, hy, by rw [← e]; simp⟩
theorem rest_n (a : Int) (m : Nat) (h0 : 0 < m) (h1 : m ≤ 1000000) : ∃ n : Nat, backstitchref3_Rest.f a (m : Int) = some (n : Int) ∧ n < m := by
  have hb := Int.tmod_lt_of_pos a (show (0 : Int) < m by omega)
  have hl := Int.lt_tmod_of_pos a (show (0 : Int) < m by omega)
  unfold backstitchref3_Rest.f
  rw [if_neg (by omega)]
  by_cases h : Int.tmod a m < 0
  · rw [if_pos h]
    have e : wrap64 (Int.tmod a m + m) = Int.tmod a m + m := by unfold wrap64; omega
    rw [e]
    exact ⟨(Int.tmod a m + m).toNat, by rw [Int.toNat_of_nonneg (by omega)], by omega⟩
  · rw [if_neg h]
    exact ⟨(Int.tmod a m).toNat, by rw [Int.toNat_of_nonneg (by omega)], by omega⟩
/-- What Collect tells of fewer roots. -/
def PartOk (w : World) (ms : List (S56)) (e : Ending) (w' : World) : Prop := ∃ ps vto vouts vold, e = .returned (.tuple #[.agg #[vto, vouts], vold, .int .i64 0]) ∧ (∃ A n c, vto = .slice A n c) ∧ (∃ A n c, vouts = .slice A n c) ∧ (∀ m ∈ ps, fnd ms m.f1 ms.length = true) ∧ ps.length ≤ 2000 ∧ Kd.R k56 56 w' w.heap.size (fun _ => True) vold ps ∧ Below w.heap.size w w'
theorem part_calls (w : World) (AW : Option Addr) (cW : Nat) (words : List Int) (AR : Option Addr) (cR : Nat) (roots outs : List Int) (c : Col) (fs : List Int) (n : Nat)
    (hW : Kd.C (Kd.int .u64) w AW words.length words) (hcW : words.length ≤ cW) (hR : Kd.C (Kd.int .u64) w AR roots.length roots) (hU : ∀ x ∈ words, U64 x) (hV : ∀ x ∈ roots, U64 x)
    (h0 : chkE words roots (objF words).1 (objF words).2 = 0) (F : Fin_ words (objF words).1 roots outs c fs) (hn : n ≤ roots.length) :
    Calls Try.prog 29 #[.agg #[.slice AW words.length cW, .slice AR n cR]] w (PartOk w c.mvs) := by
  have hh := (heap_of h0).2
  have htl : (roots.take n).length = n := by rw [List.length_take]; exact Nat.min_eq_left hn
  have hck : chkE words (roots.take n) (objF words).1 (objF words).2 = 0 := chk_sub h0 (fun y hy => List.mem_of_mem_take hy) (by rw [htl]; have h1_ := hh.rlen; omega)
  have hcall := collect_h w AW cW words AR cR (roots.take n) hW hcW (Kd.C_take hR hn) hU (fun x hx => hV x (List.mem_of_mem_take hx))
  rw [htl] at hcall
  refine hcall.mono ?_
  rintro e w7 (⟨h0, _⟩ | ⟨h0, hh2, cc, fs2, outs3, vto2, vouts2, vold2, rfl, hF2, hr1, hr2, hr3, hb⟩)
  · exact (h0 hck).elim
  have hl3 := (fin_len hh2 hF2).2.1
  have hl4 := (fin_len hh2 hF2).2.2.2.2
  have hl5 : (objF words).1.length ≤ words.length := objW_len _ _
  have hl6 := hh.len
  obtain ⟨A1, c1, rfl⟩ := Kd.R_slice hr1
  obtain ⟨A2, c2, rfl⟩ := Kd.R_slice hr2
  exact ⟨cc.mvs, _, _, _, rfl, ⟨_, _, _, rfl⟩, ⟨_, _, _, rfl⟩, fnd_less hh F hF2 (fun y hy => List.mem_of_mem_take hy), by omega, hr3, hb⟩
end Go.Proofs.Ytoleplbmkdhgeaa.Hal
