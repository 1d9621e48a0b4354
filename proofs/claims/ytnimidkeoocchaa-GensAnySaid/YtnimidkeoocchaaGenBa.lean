/- Package gens: Barrier walked. -/
import Derived.Test.YtnimidkeoocchaaGenPt
import Derived.Test.YtnimidkeoocchaaGenSo
set_option linter.unusedVariables false
set_option linter.unusedSimpArgs false
namespace Go.Proofs.Ytnimidkeoocchaa.Gen
open Go.RowKit Go.Proofs.YtnimidkeoocchaaW.PrintWords Go.Proofs.YtnimidkeoocchaaW.PrintLast Go.Proofs.YtnimidkeoocchaaW.PrintMore Go.Proofs.Ytnimidkeoocchaa.PG Go.Proofs.Ytnimidkeoocchaa.Hnd Go.Proofs.Ytnimidkeoocchaa.Fnb

def hasY (l : List Th) (x : Int) : Bool := (thAt l x.toNat).f0.any (youngB l)
def barL (l : List Th) (rm : Int → Bool) : List Int := ((List.range l.length).filter (fun n : Nat => rm (n : Int) && hasY l (n : Int))).map Int.ofNat
theorem barL_mem {l : List Th} {rm : Int → Bool} {x : Int} : x ∈ barL l rm ↔ (0 ≤ x ∧ x < (l.length : Int)) ∧ rm x = true ∧ hasY l x = true := by
  unfold barL
  constructor
  · intro h
    obtain ⟨n, hn, rfl⟩ := List.mem_map.1 h
    obtain ⟨h1, h2⟩ := List.mem_filter.1 hn
    rw [List.mem_range] at h1
    simp only [Bool.and_eq_true] at h2
    exact ⟨⟨Int.natCast_nonneg n, by show (n : Int) < _; omega⟩, h2⟩
  · rintro ⟨⟨h0, h1⟩, h2, h3⟩
    obtain ⟨n, rfl⟩ : ∃ n : Nat, x = n := ⟨x.toNat, by omega⟩
    exact List.mem_map.2 ⟨n, List.mem_filter.2 ⟨List.mem_range.2 (by omega), by simp [h2, h3]⟩, rfl⟩
theorem barL_rising (l : List Th) (rm : Int → Bool) : (barL l rm).Pairwise (· < ·) := by
  unfold barL
  rw [List.pairwise_map]
  exact (List.Pairwise.filter _ List.pairwise_lt_range).imp (fun {a b : Nat} (h : a < b) => by show (a : Int) < (b : Int); omega)
/-- What was told of a set, all but what is left. -/
structure Got (l : List Th) (rm left : Int → Bool) (xs : List Int) : Prop where
  nd : xs.Nodup
  mem : ∀ x, x ∈ xs ↔ I64 x ∧ rm x = true ∧ left x = false ∧ hasY l x = true
theorem Got.more {l : List Th} {rm left : Int → Bool} {xs : List Int} (h : Got l rm left xs) {x : Int} (hx : I64 x) (hl : left x = true) (hr : rm x = true) (hy : hasY l x = true) : Got l rm (fun z => left z && !(z == x)) (xs ++ [x]) := by
  refine ⟨?_, fun z => ?_⟩
  · rw [List.nodup_append]
    refine ⟨h.nd, by simp, fun a ha b hb e => ?_⟩
    simp at hb
    subst hb; subst e
    have := ((h.mem a).1 ha).2.2.1
    rw [hl] at this; cases this
  · rw [List.mem_append, h.mem]
    by_cases e : z = x
    · subst e; simp [hx, hr, hy]
    · simp [e]
theorem Got.less {l : List Th} {rm left : Int → Bool} {xs : List Int} (h : Got l rm left xs) {x : Int} (hl : left x = true) (hy : hasY l x = false) : Got l rm (fun z => left z && !(z == x)) xs := by
  refine ⟨h.nd, fun z => ?_⟩
  rw [h.mem]
  by_cases e : z = x
  · subst e; simp [hy]
  · simp [e]
set_option maxHeartbeats 16000000 in
set_option maxRecDepth 100000 in
theorem barrier_calls (w : World) {ok : Nat → Prop} {g : Nat} {nur : Int} {mb cn : Nat} {rm : Int → Bool} {v : Value} {ps : List Value} {l : List Th} (h : GS w ok g nur mb cn rm v ps l) (ho : OkL l) (hr : ∀ x, I64 x → rm x = true → 0 ≤ x ∧ x < (l.length : Int)) (hcn : cn ≤ 100000) :
    Calls Try.prog 23 #[.pointer (some ⟨g, 0, none⟩)] w fun e w' => ∃ v0, e = .returned v0 ∧ w'.ownsRow w.heap.size 3 1 v0 (barL l rm).length ((barL l rm).map (Value.int .i64)) ∧ Below w.heap.size w w' := by
  have HM := Aside0.mk h
  have HO := Aside0.mk ho
  have HR := Aside0.mk hr
  have HCN := Aside0.mk hcn
  have c1 := h.c1
  have c2 := h.c2
  have hmt := Try.underlying59
  have hki := Try.underlying3
  have HU := Try.underlying29
  have eg := Go.Proofs.enters_of Try.func45 (by kernel_rfl) rfl
  clear h ho hr hcn
  go_enter Try.func23, Try.ntmps23
  go_wp2_with (first | (at_range; refine range_set rfl _ rfl hki hmt HM.out.set rfl ?_; intro w0 cnt hcnt hrg0 hg0 hs0))
  go_frame
  have HRG0 := Aside0.mk hrg0
  have HC0 := Aside0.mk hcnt
  have HB0 : Aside0 (Below w.heap.size w w0) := ⟨⟨hg0.os, hg0.tape, hg0.output, hg0.size, fun k hk => hg0.block k hk (by simp)⟩⟩
  clear hcnt hrg0 hg0
  go_loopg [3] cnt (fun kq v3 W => ∃ (left : Int → Bool) (xs : List Int), Aside0 (SetR Try.prog 3 W mb w.heap.size cn rm left kq) ∧ Aside0 (Got l rm left xs ∧ xs.length + kq ≤ cn) ∧ Aside0 (Kd.R (Kd.int .i64) 3 W w.heap.size (fun _ => True) v3 xs) ∧ Aside0 (Below w.heap.size w W))
  case atStart => exact ⟨rm, [], HRG0, ⟨⟨List.nodup_nil, fun x => ⟨fun h => by simp at h, fun h => by rw [h.2.1] at h; exact absurd h.2.2.1 (by simp)⟩⟩, by have := HC0.out; simpa using this⟩, ⟨Kd.R_nil _ _ _ _ _⟩, HB0⟩
  case round =>
    clear c1 c2
    obtain ⟨left, xs, HSR, HG, HX, HB⟩ := hrel
    go_wp2_with (first | (at_next; refine next_set rfl _ rfl hki HSR.out rfl ?_ ?_))
    · intro hdone
      have hall : ∀ x, x ∈ xs ↔ x ∈ barL l rm := fun x => by
        rw [HG.out.1.mem, barL_mem]
        constructor
        · rintro ⟨h1, h2, _, h3⟩; exact ⟨HR.out x h1 h2, h2, h3⟩
        · rintro ⟨h1, h2, h3⟩
          have hi : I64 x := by have := HO.out.len; unfold I64; omega
          exact ⟨hi, h2, hdone x hi, h3⟩
      have HBL : Aside0 (sortL xs = barL l rm) := ⟨rising_eq (sort_rising HG.out.1.nd) (barL_rising l rm) (fun x => ((sort_spec xs).2.2 x).trans (hall x))⟩
      have HOW := Aside0.mk (Kd.own_of_R HX.out)
      obtain ⟨AX, cX, eX, hcX⟩ := own_shape HOW.out
      subst eX
      have HSO := Aside0.mk (sort_own wr w.heap.size (.slice AX xs.length cX) xs HOW.out (by have := HG.out.2; have := HCN.out; omega))
      have HLN : Aside0 (xs.length = (barL l rm).length) := ⟨by rw [← HBL.out]; exact (sort_spec xs).2.1.symm⟩
      clear hdone hall hcX
      go_wp2_with fail
      refine HSO.out.mono ?_
      rintro e w5 ⟨rfl, ho5, hg5⟩
      go_wp2_with fail
      go_ret
      rw [← HLN.out, ← HBL.out]
      refine ⟨_, rfl, ho5, HB.out.grown hg5 HB.out.size (fun k hk => (HOW.out.lt k hk).1)⟩
    · intro x w1 cnt1 hx hl hs hsr hlt hgr hsz hen
      have hin := HR.out x hx hs
      obtain ⟨m, rfl⟩ : ∃ m : Nat, x = m := ⟨x.toNat, by omega⟩
      have hm : m < l.length := by omega
      have HB1 : Aside0 (Below w.heap.size w w1) := ⟨HB.out.grown hgr HB.out.size (fun k hk => by injection hk with hk; omega)⟩
      have HM1 := Aside0.mk (HM.out.below HB1.out)
      have c1 := HM1.out.c1
      obtain ⟨q, cap, A, c, e1, hqo, x0, x1, x2, hpe, hpc, hpC⟩ := HM1.out.at_ m hm
      rw [e1] at c1
      have hi0 : (0 : Int) ≤ (m : Int) := by omega
      have hi1 : (m : Int) < (l.length : Int) := by omega
      have HPR : Aside0 (PrB 45 (.pointer (some ⟨g, 0, none⟩)) (youngB l) l[m].f0 (fun _ => False) w1) := ⟨fun W hWs hWk y hy => isYoung_calls W y (HM1.out.step (fun k hk _ => hWk k hk (fun h => h))) ((HO.out.pl _ (List.getElem_mem hm)).2 y hy)⟩
      have HCALL := Aside0.mk (any_calls 45 (.pointer (some ⟨g, 0, none⟩)) (youngB l) eg w1 A c l[m].f0 hpC HPR.out (by have := (HO.out.pl _ (List.getElem_mem hm)).1; omega))
      have HY : Aside0 (hasY l (m : Int) = l[m].f0.any (youngB l)) := ⟨by unfold hasY; rw [Int.toNat_natCast, thAt_eq hm]⟩
      have HX1 : Aside0 (Kd.R (Kd.int .i64) 3 w1 w.heap.size (fun _ => True) _ xs) := ⟨R_flat rfl HX.out (fun k hk => hgr.block k (Kd.R_lt HX.out k hk) (fun e => by
        obtain ⟨cs_, hcs⟩ := Kd.R_typed HX.out k hk
        exact HSR.out.ne hcs (Option.some.inj e).symm))⟩
      have HSR1 := Aside0.mk hsr
      have HI := Aside0.mk hx
      have HL := Aside0.mk hl
      have HS := Aside0.mk hs
      have HLT := Aside0.mk hlt
      obtain ⟨AX, cX, eX⟩ := Kd.R_slice HX1.out
      subst eX
      cases hq : l[m].f0.any (youngB l) with
      | false =>
        rw [hq] at HCALL HY
        have HG2 : Aside0 (Got l rm (fun z => left z && !(z == (m : Int))) xs) := ⟨HG.out.1.less HL.out HY.out⟩
        generalize l[m].f0 = fs at x0 HCALL
        clear hin hx hl hs hsr hlt hgr hpe hpc hpC x1 x2 hqo e1 hq HPR
        go_wp2_with fail
        refine HCALL.out.mono ?_
        rintro e w3 ⟨rfl, hb3⟩
        go_wp2_with fail
        go_roundg cnt1
        case measure => exact HLT.out
        case rel => exact ⟨_, xs, ⟨HSR1.out.below hb3⟩, ⟨HG2.out, by have := HG.out.2; have := HLT.out; omega⟩, ⟨Kd.R_below HX1.out hb3⟩, ⟨below_step HB1.out hb3⟩⟩
      | true =>
        rw [hq] at HCALL HY
        have HG2 : Aside0 (Got l rm (fun z => left z && !(z == (m : Int))) (xs ++ [(m : Int)])) := ⟨HG.out.1.more HI.out HL.out HS.out HY.out⟩
        generalize l[m].f0 = fs at x0 HCALL
        clear hin hx hl hs hsr hlt hgr hpe hpc hpC x1 x2 hqo e1 hq HPR
        go_wp2_with fail
        refine HCALL.out.mono ?_
        rintro e w3 ⟨rfl, hb3⟩
        have HX3 := Aside0.mk (Kd.R_below HX1.out hb3)
        have HB3 := Aside0.mk (below_step HB1.out hb3)
        have HSR3 := Aside0.mk (HSR1.out.below hb3)
        have HXL : Aside0 (xs.length ≤ 100000) := ⟨by have := HG.out.2; have := HCN.out; omega⟩
        clear hb3
        go_wp2_with (first | ((with_reducible refine gate_builtin (b := .append) (xs := #[.tmp 25, .tmp 27]) rfl ?_); refine Kd.R_append (Kd.int .i64) (w0 := w) w.heap.size rfl (.tmp 25) (.tmp 27) 29 3 (.int .i64 0) 8 rfl HU info_i rfl (by decide) (by decide) (.slice AX xs.length cX) xs (m : Int) [.int .i64 (m : Int)] (fun _ => True) (fun _ => False) rfl rfl rfl (fun _ hk => hk.elim) (fun _ _ => trivial) HX3.out HB3.out ?hbs ?hl ?_; (case hbs => exact HB3.out.size); (case hl => have h_ := HXL.out; omega); intro v4 w4 ho hb4 hg4 hat; have HR4 := Aside0.mk ho; have HB4 := Aside0.mk hb4; have HG4 := Aside0.mk hg4; clear ho hb4 hg4 hat))
        go_roundg cnt1
        case measure => exact HLT.out
        case rel =>
          refine ⟨_, xs ++ [(m : Int)], ⟨HSR3.out.kept HG4.out (fun e => ?_) (fun e => ?_)⟩, ⟨HG2.out, by have := HG.out.2; have := HLT.out; simp; omega⟩, HR4, HB4⟩
          · obtain ⟨cs_, hcs⟩ := Kd.R_typed HX3.out _ e.symm
            exact HSR3.out.isSet.ne hcs rfl
          · obtain ⟨cs_, hcs⟩ := Kd.R_typed HX3.out _ e.symm
            exact HSR3.out.ne hcs rfl
end Go.Proofs.Ytnimidkeoocchaa.Gen
