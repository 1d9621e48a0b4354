/- Package mark: Do walked. -/
import Derived.Test.YtnimidkeoocchaaMarkPt
set_option linter.unusedVariables false
set_option linter.unusedSimpArgs false
namespace Go.Proofs.Ytnimidkeoocchaa.Mrk
open Go.RowKit Go.Proofs.YtnimidkeoocchaaW.PrintWords Go.Proofs.YtnimidkeoocchaaW.PrintLast Go.Proofs.YtnimidkeoocchaaW.PrintMore Go.Proofs.Ytnimidkeoocchaa.PK Go.Proofs.Ytnimidkeoocchaa.Hnd Go.Proofs.Ytnimidkeoocchaa.Rch

/-- A marker's state, what a deed answers, and whether that went well. -/
structure Out where
  new ::
  mk : Bool
  l : List Th
  many : Int
  err : Int
def doL (kind : Int) (mk : Bool) (l : List Th) (d a b n : Int) : Out :=
  if d = 1 then ⟨mk, (makeL mk l n).1, (makeL mk l n).2.1, (makeL mk l n).2.2⟩
  else if d = 2 then ⟨mk, (setL kind mk l a b n).1, 0, (setL kind mk l a b n).2⟩
  else if d = 4 then ⟨mk, (holdL kind mk l a true).1, 0, (holdL kind mk l a true).2⟩
  else if d = 3 then ⟨mk, (holdL kind mk l a false).1, 0, (holdL kind mk l a false).2⟩
  else if d = 6 then (if mk = true then ⟨true, l, 0, 8⟩ else ⟨true, (beginL l).1, ((beginL l).2 : Int), 0⟩)
  else if d = 5 then (if mk = true then (if n < 0 then ⟨true, l, 0, 1⟩ else ⟨true, (runL true n (meas l + 1) 0 l).1, (runL true n (meas l + 1) 0 l).2, 0⟩) else ⟨false, l, 0, 8⟩)
  else if d = 7 then (if mk = true then ⟨false, (finL true (meas l + 1) l).map end1, (whites (finL true (meas l + 1) l) : Int), 0⟩ else ⟨false, l, 0, 8⟩)
  else ⟨mk, l, 0, 7⟩
def DoPost (w : World) (ok : Nat → Prop) (g : Nat) (kind : Int) (o : Out) (e : Ending) (w' : World) : Prop :=
  e = .returned (.tuple #[.int .i64 o.many, .int .i64 o.err]) ∧ (∃ v' ps', MS w' (fun k => ok k ∨ w.heap.size ≤ k) g kind o.mk v' ps' o.l) ∧ Fr ok w w'
set_option maxHeartbeats 16000000 in
set_option maxRecDepth 100000 in
theorem do_calls (w : World) {ok : Nat → Prop} {g : Nat} {kind : Int} {mk : Bool} {v : Value} {ps : List Value} {l : List Th} (h : MS w ok g kind mk v ps l) (ho : OkL l) (hok : ∀ k, ok k → k < w.heap.size) (d a b n : Int) (hn : n ≤ 9223372036854775807) :
    Calls Try.prog 29 #[.pointer (some ⟨g, 0, none⟩), .agg #[.int .i64 d, .int .i64 a, .int .i64 b, .int .i64 n]] w (DoPost w ok g kind (doL kind mk l d a b n)) := by
  have hbx := below_alloc (Below.refl w.heap.size w) (Obj.cells #[.int .i64 d, .int .i64 a, .int .i64 b, .int .i64 n] 31)
  have HBX := Aside0.mk hbx
  have HM := Aside0.mk h
  have HMX := Aside0.mk (h.below hbx)
  have HO := Aside0.mk ho
  have HN := Aside0.mk hn
  have HKX : Aside0 (∀ k, ok k → k < (w.alloc (Obj.cells #[.int .i64 d, .int .i64 a, .int .i64 b, .int .i64 n] 31)).heap.size) := ⟨fun k hk => by rw [blk_size]; have := hok k hk; omega⟩
  have HLE : Aside0 (∀ k, (ok k ∨ (w.alloc (Obj.cells #[.int .i64 d, .int .i64 a, .int .i64 b, .int .i64 n] 31)).heap.size ≤ k) → (ok k ∨ w.heap.size ≤ k)) := ⟨fun k hk => by rw [blk_size] at hk; rcases hk with hk | hk; exact .inl hk; exact .inr (by omega)⟩
  have HFX : Aside0 (Fr ok w (w.alloc (Obj.cells #[.int .i64 d, .int .i64 a, .int .i64 b, .int .i64 n] 31))) := ⟨Fr.of_below hbx⟩
  clear h ho hok hbx
  by_cases h1 : d = 1
  · have HE : Aside0 (doL kind mk l d a b n = ⟨mk, (makeL mk l n).1, (makeL mk l n).2.1, (makeL mk l n).2.2⟩) := ⟨by unfold doL; rw [if_pos h1]⟩
    have HC := Aside0.mk (make_calls _ HMX.out HKX.out n)
    have hb1 : (d == 1) = true := by simpa using h1
    clear h1
    go_enter Try.func29, Try.ntmps29
    go_wp2_with fail
    refine HC.out.mono ?_
    rintro e w2 ⟨rfl, ⟨v', ps', hm⟩, hf⟩
    have HM2 := Aside0.mk hm
    have HF2 := Aside0.mk hf
    clear hm hf
    go_wp2_with fail
    go_ret2
    rw [HE.out]
    exact ⟨rfl, ⟨v', ps', HM2.out.mono HLE.out⟩, HFX.out.trans HF2.out⟩
  have hb1 : (d == 1) = false := by simpa using h1
  by_cases h2 : d = 2
  · have HE : Aside0 (doL kind mk l d a b n = ⟨mk, (setL kind mk l a b n).1, 0, (setL kind mk l a b n).2⟩) := ⟨by unfold doL; rw [if_neg h1, if_pos h2]⟩
    have HC := Aside0.mk (set_calls _ HMX.out HO.out HKX.out d a b n)
    have hb2 : (d == 2) = true := by simpa using h2
    clear h1 h2
    go_enter Try.func29, Try.ntmps29
    go_wp2_with fail
    refine HC.out.mono ?_
    rintro e w2 ⟨rfl, hm, hf⟩
    have HM2 := Aside0.mk hm
    have HF2 := Aside0.mk hf
    clear hm hf
    go_wp2_with fail
    go_ret2
    rw [HE.out]
    exact ⟨rfl, ⟨_, _, HM2.out.mono (fun k hk => .inl hk)⟩, HFX.out.trans HF2.out⟩
  have hb2 : (d == 2) = false := by simpa using h2
  by_cases h4 : d = 4
  · have HE : Aside0 (doL kind mk l d a b n = ⟨mk, (holdL kind mk l a true).1, 0, (holdL kind mk l a true).2⟩) := ⟨by unfold doL; rw [if_neg h1, if_neg h2, if_pos h4]⟩
    have HC := Aside0.mk (hold_calls _ HMX.out HO.out a true)
    have hb4 : (d == 4) = true := by simpa using h4
    clear h1 h2 h4
    go_enter Try.func29, Try.ntmps29
    go_wp2_with fail
    refine HC.out.mono ?_
    rintro e w2 ⟨rfl, hm, hf⟩
    have HM2 := Aside0.mk hm
    have HF2 := Aside0.mk hf
    clear hm hf
    go_wp2_with fail
    go_ret2
    rw [HE.out]
    exact ⟨rfl, ⟨_, _, HM2.out.mono (fun k hk => .inl hk)⟩, HFX.out.trans HF2.out⟩
  have hb4 : (d == 4) = false := by simpa using h4
  by_cases h3 : d = 3
  · have HE : Aside0 (doL kind mk l d a b n = ⟨mk, (holdL kind mk l a false).1, 0, (holdL kind mk l a false).2⟩) := ⟨by unfold doL; rw [if_neg h1, if_neg h2, if_neg h4, if_pos h3]⟩
    have HC := Aside0.mk (hold_calls _ HMX.out HO.out a false)
    have hb3 : (d == 3) = true := by simpa using h3
    clear h1 h2 h4 h3
    go_enter Try.func29, Try.ntmps29
    go_wp2_with fail
    refine HC.out.mono ?_
    rintro e w2 ⟨rfl, hm, hf⟩
    have HM2 := Aside0.mk hm
    have HF2 := Aside0.mk hf
    clear hm hf
    go_wp2_with fail
    go_ret2
    rw [HE.out]
    exact ⟨rfl, ⟨_, _, HM2.out.mono (fun k hk => .inl hk)⟩, HFX.out.trans HF2.out⟩
  have hb3 : (d == 3) = false := by simpa using h3
  by_cases h6 : d = 6
  · have hb6 : (d == 6) = true := by simpa using h6
    cases mk with
    | true =>
      have HE : Aside0 (doL kind true l d a b n = ⟨true, l, 0, 8⟩) := ⟨by unfold doL; rw [if_neg h1, if_neg h2, if_neg h4, if_neg h3, if_pos h6, if_pos rfl]⟩
      have HC := Aside0.mk (begin_not _ HMX.out)
      clear h1 h2 h4 h3 h6
      go_enter Try.func29, Try.ntmps29
      go_wp2_with fail
      refine HC.out.mono ?_
      rintro e w2 ⟨rfl, hb⟩
      have HB2 := Aside0.mk hb
      clear hb
      go_wp2_with fail
      go_ret2
      rw [HE.out]
      exact ⟨rfl, ⟨_, _, (HMX.out.below HB2.out).mono (fun k hk => .inl hk)⟩, HFX.out.below HB2.out⟩
    | false =>
      have HE : Aside0 (doL kind false l d a b n = ⟨true, (beginL l).1, ((beginL l).2 : Int), 0⟩) := ⟨by unfold doL; rw [if_neg h1, if_neg h2, if_neg h4, if_neg h3, if_pos h6, if_neg (by decide)]⟩
      have HC := Aside0.mk (begin_calls _ HMX.out HO.out.len)
      clear h1 h2 h4 h3 h6
      go_enter Try.func29, Try.ntmps29
      go_wp2_with fail
      refine HC.out.mono ?_
      rintro e w2 ⟨rfl, hm, hf⟩
      have HM2 := Aside0.mk hm
      have HF2 := Aside0.mk hf
      clear hm hf
      go_wp2_with fail
      go_ret2
      rw [HE.out]
      exact ⟨rfl, ⟨_, _, HM2.out.mono (fun k hk => .inl hk)⟩, HFX.out.trans HF2.out⟩
  have hb6 : (d == 6) = false := by simpa using h6
  by_cases h5 : d = 5
  · have hb5 : (d == 5) = true := by simpa using h5
    cases mk with
    | false =>
      have HE : Aside0 (doL kind false l d a b n = ⟨false, l, 0, 8⟩) := ⟨by unfold doL; rw [if_neg h1, if_neg h2, if_neg h4, if_neg h3, if_neg h6, if_pos h5, if_neg (by decide)]⟩
      have HC := Aside0.mk (steps_not _ n HMX.out)
      clear h1 h2 h4 h3 h6 h5
      go_enter Try.func29, Try.ntmps29
      go_wp2_with fail
      refine HC.out.mono ?_
      rintro e w2 ⟨rfl, hb⟩
      have HB2 := Aside0.mk hb
      clear hb
      go_wp2_with fail
      go_ret2
      rw [HE.out]
      exact ⟨rfl, ⟨_, _, (HMX.out.below HB2.out).mono (fun k hk => .inl hk)⟩, HFX.out.below HB2.out⟩
    | true =>
      by_cases hneg : n < 0
      · have HE : Aside0 (doL kind true l d a b n = ⟨true, l, 0, 1⟩) := ⟨by unfold doL; rw [if_neg h1, if_neg h2, if_neg h4, if_neg h3, if_neg h6, if_pos h5, if_pos rfl, if_pos hneg]⟩
        have HC := Aside0.mk (steps_neg _ n hneg HMX.out)
        clear h1 h2 h4 h3 h6 h5
        go_enter Try.func29, Try.ntmps29
        go_wp2_with fail
        refine HC.out.mono ?_
        rintro e w2 ⟨rfl, hb⟩
        have HB2 := Aside0.mk hb
        clear hb
        go_wp2_with fail
        go_ret2
        rw [HE.out]
        exact ⟨rfl, ⟨_, _, (HMX.out.below HB2.out).mono (fun k hk => .inl hk)⟩, HFX.out.below HB2.out⟩
      · have HE : Aside0 (doL kind true l d a b n = ⟨true, (runL true n (meas l + 1) 0 l).1, (runL true n (meas l + 1) 0 l).2, 0⟩) := ⟨by unfold doL; rw [if_neg h1, if_neg h2, if_neg h4, if_neg h3, if_neg h6, if_pos h5, if_pos rfl, if_neg hneg]⟩
        have HC := Aside0.mk (steps_calls _ n (by omega) HN.out HMX.out HO.out)
        generalize runL true n (meas l + 1) 0 l = r at HE HC
        clear h1 h2 h4 h3 h6 h5
        go_enter Try.func29, Try.ntmps29
        go_wp2_with fail
        refine HC.out.mono ?_
        rintro e w2 ⟨rfl, hm, hf⟩
        have HM2 := Aside0.mk hm
        have HF2 := Aside0.mk hf
        clear hm hf
        go_wp2_with fail
        go_ret2
        rw [HE.out]
        exact ⟨rfl, ⟨_, _, HM2.out.mono (fun k hk => .inl hk)⟩, HFX.out.trans HF2.out⟩
  have hb5 : (d == 5) = false := by simpa using h5
  by_cases h7 : d = 7
  · have hb7 : (d == 7) = true := by simpa using h7
    cases mk with
    | false =>
      have HE : Aside0 (doL kind false l d a b n = ⟨false, l, 0, 8⟩) := ⟨by unfold doL; rw [if_neg h1, if_neg h2, if_neg h4, if_neg h3, if_neg h6, if_neg h5, if_pos h7, if_neg (by decide)]⟩
      have HC := Aside0.mk (end_not _ HMX.out)
      clear h1 h2 h4 h3 h6 h5 h7
      go_enter Try.func29, Try.ntmps29
      go_wp2_with fail
      refine HC.out.mono ?_
      rintro e w2 ⟨rfl, hb⟩
      have HB2 := Aside0.mk hb
      clear hb
      go_wp2_with fail
      go_ret2
      rw [HE.out]
      exact ⟨rfl, ⟨_, _, (HMX.out.below HB2.out).mono (fun k hk => .inl hk)⟩, HFX.out.below HB2.out⟩
    | true =>
      have HE : Aside0 (doL kind true l d a b n = ⟨false, (finL true (meas l + 1) l).map end1, (whites (finL true (meas l + 1) l) : Int), 0⟩) := ⟨by unfold doL; rw [if_neg h1, if_neg h2, if_neg h4, if_neg h3, if_neg h6, if_neg h5, if_pos h7, if_pos rfl]⟩
      have HC := Aside0.mk (end_calls _ HMX.out HO.out)
      generalize finL true (meas l + 1) l = r at HE HC
      clear h1 h2 h4 h3 h6 h5 h7
      go_enter Try.func29, Try.ntmps29
      go_wp2_with fail
      refine HC.out.mono ?_
      rintro e w2 ⟨rfl, ⟨ps', hm⟩, hf⟩
      have HM2 := Aside0.mk hm
      have HF2 := Aside0.mk hf
      clear hm hf
      go_wp2_with fail
      go_ret2
      rw [HE.out]
      exact ⟨rfl, ⟨_, _, HM2.out.mono (fun k hk => .inl hk)⟩, HFX.out.trans HF2.out⟩
  have hb7 : (d == 7) = false := by simpa using h7
  have HE : Aside0 (doL kind mk l d a b n = ⟨mk, l, 0, 7⟩) := ⟨by unfold doL; rw [if_neg h1, if_neg h2, if_neg h4, if_neg h3, if_neg h6, if_neg h5, if_neg h7]⟩
  clear h1 h2 h4 h3 h6 h5 h7
  go_enter Try.func29, Try.ntmps29
  go_wp2_with fail
  go_ret2
  rw [HE.out]
  exact ⟨rfl, ⟨_, _, HMX.out.mono (fun k hk => .inl hk)⟩, HFX.out⟩
end Go.Proofs.Ytnimidkeoocchaa.Mrk
