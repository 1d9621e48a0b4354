/- Package order walked: all. -/
import Derived.Test.YtecaemebamhamaaOrHs
set_option linter.unusedVariables false
set_option linter.unusedSimpArgs false
namespace Go.Proofs.Ytecaemebamhamaa.Lv
open Go.RowKit Go.Proofs.YtecaemebamhamaaW.PrintWords Go.Proofs.YtecaemebamhamaaW.PrintLast Go.Proofs.YtecaemebamhamaaW.PrintMore Go.Proofs.Ytecaemebamhamaa.PO Go.Proofs.Ytecaemebamhamaa.Hnd Go.Lib

set_option maxHeartbeats 8000000 in
set_option maxRecDepth 100000 in
theorem all1_calls (w : World) (b gS b2 : Nat) (regs slots : List Bool) (p : RP) (hw : WM w b gS regs slots) (h2 : w.heap[b2]? = some (.cells #[.pointer (some ⟨b, 0, none⟩)] 72 (0, 0))) :
    Calls Try.prog 65 #[.agg #[.int .i64 p.f0, .int .i64 p.f1], .pointer (some ⟨b2, 0, none⟩)] w fun e w' => e = .returned (.bool (!hasB regs slots p)) ∧ Below w.heap.size w w' := by
  obtain ⟨o1, ho1⟩ : ∃ ob, ob = Obj.cells #[.int .i64 p.f0, .int .i64 p.f1] 59 := ⟨_, rfl⟩
  have hal := below_alloc (Below.refl w.heap.size w) o1
  have HB := Aside0.mk hal
  have HW := Aside0.mk (hw.below hal)
  have hp : (w.alloc o1).heap[w.heap.size]? = some (.cells #[.int .i64 p.f0, .int .i64 p.f1] 59 (0, 0)) := by rw [ho1]; exact blk_new w _
  have p0 := (blk_cell hp 0).trans rfl
  have p1 := (blk_cell hp 1).trans rfl
  have q0 := (blk_cell (blk_below h2 hal) 0).trans rfl
  rw [ho1] at p0 p1 q0
  clear hal hw hp h2
  go_enter Try.func65, Try.ntmps65
  go_wp2_with fail
  rw [← ho1]
  refine (has_calls _ b gS regs slots p HW.out).mono ?_
  rintro e w2 ⟨rfl, hb2⟩
  have HB2 := Aside0.mk (below_step HB.out hb2)
  clear hb2 ho1 p0 p1 q0
  go_wp2_with fail
  go_ret
  exact ⟨rfl, HB2.out⟩
set_option maxHeartbeats 8000000 in
set_option maxRecDepth 100000 in
theorem allw_calls (w : World) (b gS : Nat) (regs slots : List Bool) (x : RX) (A2 : Option Addr) (c2 : Nat) (A3 : Option Addr) (c3 : Nat) (hw : WM w b gS regs slots) (h2 : Kd.C k126 w A2 x.f2.length x.f2) (hc2 : x.f2.length ≤ c2) (h3 : Kd.C k118 w A3 x.f3.length x.f3) (hc3 : x.f3.length ≤ c3) (hz : bigX x ≤ 2000000) :
    Calls Try.prog 32 #[.pointer (some ⟨b, 0, none⟩), .agg #[.int .i64 x.f0, .int .i64 x.f1, .slice A2 x.f2.length c2, .slice A3 x.f3.length c3]] w fun e w' => e = .returned (.bool (allW regs slots x)) ∧ Below w.heap.size w w' := by
  obtain ⟨o1, ho1⟩ : ∃ ob, ob = Obj.cells #[.pointer (some ⟨b, 0, none⟩)] 72 := ⟨_, rfl⟩
  obtain ⟨o2, ho2⟩ : ∃ ob, ob = Obj.cells #[.int .i64 x.f0, .int .i64 x.f1, .slice A2 x.f2.length c2, .slice A3 x.f3.length c3] 27 := ⟨_, rfl⟩
  have hsz : (w.alloc o1).heap.size = w.heap.size + 1 := Array.size_push _
  have hal := below_alloc (below_alloc (Below.refl w.heap.size w) o1) o2
  have HB := Aside0.mk hal
  have HW := Aside0.mk (hw.below hal)
  have HP : Aside0 (((w.alloc o1).alloc o2).heap[w.heap.size]? = some (.cells #[.pointer (some ⟨b, 0, none⟩)] 72 (0, 0))) := ⟨blk_alloc (by rw [ho1]; exact blk_new w _) _⟩
  have hx : ((w.alloc o1).alloc o2).heap[w.heap.size + 1]? = some (.cells #[.int .i64 x.f0, .int .i64 x.f1, .slice A2 x.f2.length c2, .slice A3 x.f3.length c3] 27 (0, 0)) := by
    have h_ := blk_new (w.alloc o1) o2
    rw [hsz] at h_
    rw [ho2] at h_ ⊢
    exact h_
  have x0 := (blk_cell hx 0).trans rfl
  have x1 := (blk_cell hx 1).trans rfl
  have x2 := (blk_cell hx 2).trans rfl
  have x3 := (blk_cell hx 3).trans rfl
  rw [ho1, ho2] at x0 x1 x2 x3
  have HK := Aside0.mk (And.intro (Kd.C_below h2 hal) (Kd.C_below h3 hal))
  have HC := Aside0.mk (And.intro hc2 hc3)
  obtain ⟨KP, hKP⟩ := places_f x hz
  have HKP := Aside0.mk hKP
  have HPL : Aside0 ((placesL x).length ≤ 2000000) := ⟨Nat.le_trans (placesL_len x) hz⟩
  obtain ⟨r, hr⟩ : ∃ r, r = (placesL x).any (fun p => !hasB regs slots p) := ⟨_, rfl⟩
  have hall : allW regs slots x = !r := by unfold allW; rw [hr]
  rw [hall]
  have HR := Aside0.mk hr
  clear hal hw hx h2 hc2 h3 hc3 hKP hz hall hr hsz
  go_enter Try.func32, Try.ntmps32
  go_wp2_with fail
  rw [← ho1, ← ho2]
  refine (order_Places.calls KP x.f0 x.f1 A2 c2 x.f2 A3 c3 x.f3 (placesL x) _ HK.out.1 HC.out.1 HK.out.2 HC.out.2 HKP.out).mono ?_
  rintro e w3 ⟨v, rfl, hRP, hb3⟩
  obtain ⟨AP, cp, rfl⟩ := Kd.R_slice hRP
  have HRC := Aside0.mk (Kd.R_reads' hRP).2.2
  have HB3 := Aside0.mk (below_step HB.out hb3)
  have HW3 := Aside0.mk (HW.out.below hb3)
  have HP3 := Aside0.mk (blk_below HP.out hb3)
  clear hRP hb3 HB HW HP ho1 ho2 x0 x1 x2 x3 HK
  go_wp2_with fail
  refine (anyP_calls 65 #[.pointer (some ⟨w.heap.size, 0, none⟩)] (fun p => !hasB regs slots p) (Go.Proofs.enters_of Try.func65 (by kernel_rfl) rfl) _ AP cp (placesL x) HRC.out (fun W hW p hp => all1_calls W b gS _ regs slots p (HW3.out.below hW) (blk_below HP3.out hW)) HPL.out).mono ?_
  rintro e w4 ⟨rfl, hb4⟩
  have HB4 := Aside0.mk (below_step HB3.out hb4)
  clear hb4
  rw [← HR.out]
  go_wp2_with fail
  go_ret
  exact ⟨rfl, HB4.out⟩
end Go.Proofs.Ytecaemebamhamaa.Lv
