/- Package order walked: Reads. -/
import Derived.Test.YtecaemebamhamaaOrAl
import Derived.Lib.OthersKept
set_option linter.unusedVariables false
set_option linter.unusedSimpArgs false
namespace Go.Proofs.Ytecaemebamhamaa.Lv
open Go.RowKit Go.Proofs.YtecaemebamhamaaW.PrintWords Go.Proofs.YtecaemebamhamaaW.PrintLast Go.Proofs.YtecaemebamhamaaW.PrintMore Go.Proofs.Ytecaemebamhamaa.PO Go.Proofs.Ytecaemebamhamaa.Hnd Go.Lib

theorem info_i : (Try.prog.info? 3).map (fun i => (i.zero, i.size, i.bytes)) = some (some (.int .i64 0), 1, 8) := by kernel_rfl
theorem und3 : Try.prog.underlying 82 = some (.array 3 3) := by kernel_rfl
theorem run_idx0 (W : World) (a b c : Int) (k : IntKind) : (Instr.index 82 (.agg #[.int .i64 a, .int .i64 b, .int .i64 c]) (.int k 0)).run Try.prog W = .ok (.int .i64 a) W := by
  simp [Instr.index, run_underlying und3, go_sem]
theorem run_idx1 (W : World) (a b c : Int) (k : IntKind) : (Instr.index 82 (.agg #[.int .i64 a, .int .i64 b, .int .i64 c]) (.int k 1)).run Try.prog W = .ok (.int .i64 b) W := by
  simp [Instr.index, run_underlying und3, go_sem]
theorem run_idx2 (W : World) (a b c : Int) (k : IntKind) : (Instr.index 82 (.agg #[.int .i64 a, .int .i64 b, .int .i64 c]) (.int k 2)).run Try.prog W = .ok (.int .i64 c) W := by
  simp [Instr.index, run_underlying und3, go_sem]
theorem okF_byte {r : Fo} (h : okF r = true) : r.1.data.toList.length ≤ 3 ∧ ∀ b ∈ r.1.data.toList, 65 ≤ b.toNat ∧ b.toNat ≤ 67 := by
  unfold okF at h
  simp only [Bool.and_eq_true, decide_eq_true_eq, List.all_eq_true] at h
  exact ⟨h.1.1.1, fun b hb => h.1.1.2 b hb⟩
set_option maxHeartbeats 16000000 in
set_option maxRecDepth 100000 in
theorem reads_calls (w : World) (x : RO) :
    Calls Try.prog 15 #[.agg #[.int .i64 x.f0, .int .i64 x.f1, .int .i64 x.f2, .int .i64 x.f3, .int .i64 x.f4, .int .i64 x.f5, .int .i64 x.f6.f0, .int .i64 x.f6.f1]] w fun e w' => ∃ v, e = .returned v ∧ Kd.R (Kd.int .i64) 3 w' w.heap.size (fun _ => True) v (readsL x) ∧ Below w.heap.size w w' := by
  obtain ⟨o1, ho1⟩ : ∃ ob, ob = Obj.cells #[.int .i64 x.f0, .int .i64 x.f1, .int .i64 x.f2, .int .i64 x.f3, .int .i64 x.f4, .int .i64 x.f5, .int .i64 x.f6.f0, .int .i64 x.f6.f1] 37 := ⟨_, rfl⟩
  have hal := below_alloc (Below.refl w.heap.size w) o1
  have HB := Aside0.mk hal
  have HX : Aside0 ((w.alloc o1).heap[w.heap.size]? = some (.cells #[.int .i64 x.f0, .int .i64 x.f1, .int .i64 x.f2, .int .i64 x.f3, .int .i64 x.f4, .int .i64 x.f5, .int .i64 x.f6.f0, .int .i64 x.f6.f1] 37 (0, 0))) := ⟨by rw [ho1]; exact blk_new w _⟩
  have k0 := (blk_cell HX.out 0).trans rfl
  rw [ho1] at k0
  obtain ⟨hf, hok⟩ := form_some x.f0
  obtain ⟨⟨s, r2, r3, r4, r5, r6, r7, r8⟩, hr⟩ : ∃ r, r = formO x.f0 := ⟨_, rfl⟩
  have hrl : readsL x = s.data.toList.map (fun b => fieldO x (b.toNat - 65)) := by unfold readsL; rw [← hr]
  rw [← hr] at hf hok
  have HBY := Aside0.mk (okF_byte hok)
  have HRL := Aside0.mk hrl
  have HF := Aside0.mk hf
  clear hal hf hok hrl hr
  go_enter Try.func15, Try.ntmps15
  go_wp2_with fail
  rw [← ho1]
  rw [← ho1] at k0
  refine (order_of.calls x.f0 s r2 r3 r4 r5 r6 r7 r8 _ HF.out).mono ?_
  rintro e w1 ⟨rfl, hb1⟩
  have hb1 : Below (w.alloc o1).heap.size (w.alloc o1) w1 := by first | exact hb1 | exact hb1.below
  have HB1 := Aside0.mk (below_step HB.out hb1)
  have HX1 := Aside0.mk (blk_below HX.out hb1)
  clear hb1 k0 HB HX ho1
  obtain ⟨o3, ho3⟩ : ∃ ob, ob = Obj.cells #[.string s, .bool r2, .int .i64 r3, .int .i64 r4, .bool r5, .bool r6, .int .i64 r7] 79 := ⟨_, rfl⟩
  have hal := below_alloc (Below.refl w1.heap.size w1) o3
  have HB3 := Aside0.mk (below_step HB1.out hal)
  have HX3 := Aside0.mk (blk_below HX1.out hal)
  have hf3 : (w1.alloc o3).heap[w1.heap.size]? = some (.cells #[.string s, .bool r2, .int .i64 r3, .int .i64 r4, .bool r5, .bool r6, .int .i64 r7] 79 (0, 0)) := by rw [ho3]; exact blk_new w1 _
  have f0 := (blk_cell hf3 0).trans rfl
  rw [ho3] at f0
  clear hal hf3 HB1 HX1
  go_wp2_with fail
  rw [← ho3]
  have hsz3 : (w1.alloc o3).heap.size = w1.heap.size + 1 := Array.size_push _
  have hki := World.iter_heap (w1.alloc o3) s 0
  rw [hsz3] at hki
  have hbi : Below (w1.alloc o3).heap.size (w1.alloc o3) ((w1.alloc o3).iter s 0) := below_alloc (Below.refl _ _) _
  have HX4 := Aside0.mk (blk_below HX3.out hbi)
  have HB4 := Aside0.mk (below_step HB3.out hbi)
  have HKI := Aside0.mk hki
  have HBKI : Aside0 (w.heap.size ≤ w1.heap.size + 1) := ⟨by rw [← hsz3]; exact HB3.out.size⟩
  have HNE : Aside0 (w.heap.size ≠ w1.heap.size + 1) := ⟨by have := blk_lt HX3.out; omega⟩
  clear ho3 f0 hki hbi HX3 HB3 hsz3
  generalize (w1.alloc o3).iter s 0 = w4 at HX4 HB4 HKI ⊢
  generalize w1.heap.size + 1 = ki at HKI HNE HBKI ⊢
  obtain ⟨bx, hbx⟩ : ∃ bx, bx = w.heap.size := ⟨_, rfl⟩
  have HX5 : Aside0 (w4.heap[bx]? = some (.cells #[.int .i64 x.f0, .int .i64 x.f1, .int .i64 x.f2, .int .i64 x.f3, .int .i64 x.f4, .int .i64 x.f5, .int .i64 x.f6.f0, .int .i64 x.f6.f1] 37 (0, 0))) := ⟨by rw [hbx]; exact HX4.out⟩
  rw [← hbx] at HNE
  have HBX := Aside0.mk hbx
  have HU := Try.underlying40
  have i0_ := fun W => run_idx0 W x.f1 x.f2 x.f3 .i32
  have i1_ := fun W => run_idx1 W x.f1 x.f2 x.f3 .i32
  have i2_ := fun W => run_idx2 W x.f1 x.f2 x.f3 .i32
  have w0_ : wrap32 0 = 0 := by unfold wrap32; omega
  have w1_ : wrap32 1 = 1 := by unfold wrap32; omega
  have w2_ : wrap32 2 = 2 := by unfold wrap32; omega
  clear HX4
  first | rw [← hbx] | skip
  clear hbx
  go_loopg [5] (s.size + 1) (fun kq v5 W => ∃ pos : Nat, Aside0 (pos ≤ s.size ∧ kq = s.size + 1 - pos) ∧ Aside0 (W.heap[ki]? = some (.stringIter s pos)) ∧ Aside0 (W.heap[bx]? = some (.cells #[.int .i64 x.f0, .int .i64 x.f1, .int .i64 x.f2, .int .i64 x.f3, .int .i64 x.f4, .int .i64 x.f5, .int .i64 x.f6.f0, .int .i64 x.f6.f1] 37 (0, 0))) ∧ Aside0 (Kd.R (Kd.int .i64) 3 W w.heap.size (fun k => k ≠ ki ∧ k ≠ bx) v5 ((s.data.toList.take pos).map (fun b => fieldO x (b.toNat - 65)))) ∧ Aside0 (Below w.heap.size w W))
  case atStart => exact ⟨0, ⟨Nat.zero_le _, by omega⟩, HKI, HX5, ⟨Kd.R_nil _ _ _ _ _⟩, HB4⟩
  case round =>
    obtain ⟨pos, HPQ, HK, HX, HR, HBW⟩ := hrel
    obtain ⟨A5, c5, e5⟩ := Kd.R_slice HR.out
    subst e5
    by_cases hlt : pos < s.size
    · have hb := HBY.out.2 (s[pos]) (by
        show s[pos] ∈ s.data.toList
        exact Array.mem_def.1 (Array.getElem_mem hlt))
      have hnext := run_next_ascii_at (P := Try.prog) wr ki s pos 0 HK.out hlt (by omega)
      have HTK : Aside0 ((s.data.toList.take (pos + 1)).map (fun b => fieldO x (b.toNat - 65)) = (s.data.toList.take pos).map (fun b => fieldO x (b.toNat - 65)) ++ [fieldO x ((s[pos]).toNat - 65)]) := ⟨by
        have hl2 : pos < s.data.toList.length := by rw [Array.length_toList]; exact hlt
        rw [List.take_succ_eq_append_getElem hl2, List.map_append]
        rfl⟩
      have HLT := Aside0.mk hlt
      have hlk : ki < wr.heap.size := blk_lt HK.out
      have hlx : bx < wr.heap.size := blk_lt HX.out
      have HKi : Aside0 ((wr.iterAt ki s (pos + 1)).heap[ki]? = some (.stringIter s (pos + 1))) := ⟨iterAt_heap wr ki s pos (pos + 1) HK.out⟩
      have HXi : Aside0 ((wr.iterAt ki s (pos + 1)).heap[bx]? = some (.cells #[.int .i64 x.f0, .int .i64 x.f1, .int .i64 x.f2, .int .i64 x.f3, .int .i64 x.f4, .int .i64 x.f5, .int .i64 x.f6.f0, .int .i64 x.f6.f1] 37 (0, 0))) := ⟨(iterAt_other wr ki bx s (pos + 1) HNE.out).trans HX.out⟩
      have HRi := Aside0.mk (Kd.R_step HR.out (fun k hk _ => iterAt_other wr ki k s (pos + 1) hk.1))
      have HBi : Aside0 (Below w.heap.size w (wr.iterAt ki s (pos + 1))) := ⟨below_iterAt HBW.out (by have := HBX.out; have := HBKI.out; omega) s (pos + 1)⟩
      have HLI : Aside0 (ki < (wr.iterAt ki s (pos + 1)).heap.size ∧ bx < (wr.iterAt ki s (pos + 1)).heap.size) := ⟨by rw [iterAt_size]; exact ⟨hlk, hlx⟩⟩
      generalize (s[pos]).toNat = bn at hb hnext HTK
      generalize hzs : (s.data.toList.take pos).map (fun b => fieldO x (b.toNat - 65)) = zs at HTK HRi ⊢
      have HZL : Aside0 (zs.length ≤ 3) := ⟨by rw [← hzs, List.length_map, List.length_take]; have := HBY.out.1; omega⟩
      clear hzs hlk hlx hlt HR HK HX HBW
      generalize hwi : wr.iterAt ki s (pos + 1) = wi at hnext HKi HXi HRi HBi HLI
      clear hwi
      have x1 := (blk_cell HXi.out 1).trans rfl
      have x2 := (blk_cell HXi.out 2).trans rfl
      have x3 := (blk_cell HXi.out 3).trans rfl
      have h3 : bn = 65 ∨ bn = 66 ∨ bn = 67 := by omega
      clear hb
      rcases h3 with rfl | rfl | rfl
      · go_wp2_with (first | ((with_reducible refine gate_builtin (b := .append) (xs := #[.tmp 20, .tmp 31]) rfl ?_); refine Kd.R_append (Kd.int .i64) (w0 := w) w.heap.size rfl (.tmp 20) (.tmp 31) 40 3 (.int .i64 0) 8 rfl HU info_i rfl (by decide) (by decide) (.slice A5 zs.length c5) zs (x.f1) [.int .i64 (x.f1)] (fun k => k ≠ ki ∧ k ≠ bx) (fun _ => False) rfl rfl rfl (fun _ hk => hk.elim) ?hfr HRi.out HBi.out ?hbs ?hl ?_; (case hfr => exact fun k hk => ⟨by have := HLI.out; omega, by have := HLI.out; omega⟩); (case hbs => exact HBi.out.size); (case hl => have h_ := HZL.out; omega); intro v6 w6 ho hb hg hat; have HR6 := Aside0.mk ho; have HB6 := Aside0.mk hb; have HG6 := Aside0.mk hg; clear ho hb hg hat))
        go_roundg (s.size + 1 - (pos + 1))
        case measure => have := HPQ.out; have := HLT.out; omega
        case rel => exact ⟨pos + 1, ⟨by have := HLT.out; omega, rfl⟩, ⟨blk_grown HKi.out HG6.out (by intro e_; exact (HRi.out.1 ki e_.symm).1 rfl)⟩, ⟨blk_grown HXi.out HG6.out (by intro e_; exact (HRi.out.1 bx e_.symm).2 rfl)⟩, ⟨by rw [HTK.out]; exact HR6.out⟩, HB6⟩
      · go_wp2_with (first | ((with_reducible refine gate_builtin (b := .append) (xs := #[.tmp 20, .tmp 31]) rfl ?_); refine Kd.R_append (Kd.int .i64) (w0 := w) w.heap.size rfl (.tmp 20) (.tmp 31) 40 3 (.int .i64 0) 8 rfl HU info_i rfl (by decide) (by decide) (.slice A5 zs.length c5) zs (x.f2) [.int .i64 (x.f2)] (fun k => k ≠ ki ∧ k ≠ bx) (fun _ => False) rfl rfl rfl (fun _ hk => hk.elim) ?hfr HRi.out HBi.out ?hbs ?hl ?_; (case hfr => exact fun k hk => ⟨by have := HLI.out; omega, by have := HLI.out; omega⟩); (case hbs => exact HBi.out.size); (case hl => have h_ := HZL.out; omega); intro v6 w6 ho hb hg hat; have HR6 := Aside0.mk ho; have HB6 := Aside0.mk hb; have HG6 := Aside0.mk hg; clear ho hb hg hat))
        go_roundg (s.size + 1 - (pos + 1))
        case measure => have := HPQ.out; have := HLT.out; omega
        case rel => exact ⟨pos + 1, ⟨by have := HLT.out; omega, rfl⟩, ⟨blk_grown HKi.out HG6.out (by intro e_; exact (HRi.out.1 ki e_.symm).1 rfl)⟩, ⟨blk_grown HXi.out HG6.out (by intro e_; exact (HRi.out.1 bx e_.symm).2 rfl)⟩, ⟨by rw [HTK.out]; exact HR6.out⟩, HB6⟩
      · go_wp2_with (first | ((with_reducible refine gate_builtin (b := .append) (xs := #[.tmp 20, .tmp 31]) rfl ?_); refine Kd.R_append (Kd.int .i64) (w0 := w) w.heap.size rfl (.tmp 20) (.tmp 31) 40 3 (.int .i64 0) 8 rfl HU info_i rfl (by decide) (by decide) (.slice A5 zs.length c5) zs (x.f3) [.int .i64 (x.f3)] (fun k => k ≠ ki ∧ k ≠ bx) (fun _ => False) rfl rfl rfl (fun _ hk => hk.elim) ?hfr HRi.out HBi.out ?hbs ?hl ?_; (case hfr => exact fun k hk => ⟨by have := HLI.out; omega, by have := HLI.out; omega⟩); (case hbs => exact HBi.out.size); (case hl => have h_ := HZL.out; omega); intro v6 w6 ho hb hg hat; have HR6 := Aside0.mk ho; have HB6 := Aside0.mk hb; have HG6 := Aside0.mk hg; clear ho hb hg hat))
        go_roundg (s.size + 1 - (pos + 1))
        case measure => have := HPQ.out; have := HLT.out; omega
        case rel => exact ⟨pos + 1, ⟨by have := HLT.out; omega, rfl⟩, ⟨blk_grown HKi.out HG6.out (by intro e_; exact (HRi.out.1 ki e_.symm).1 rfl)⟩, ⟨blk_grown HXi.out HG6.out (by intro e_; exact (HRi.out.1 bx e_.symm).2 rfl)⟩, ⟨by rw [HTK.out]; exact HR6.out⟩, HB6⟩
    · have e_ : pos = s.size := by have := HPQ.out; omega
      subst e_
      have hnext := run_next_end_at (P := Try.prog) wr ki s s.size 0 HK.out (by omega)
      clear hlt
      go_wp2_with fail
      go_ret
      have hl : readsL x = (s.data.toList.take s.size).map (fun b => fieldO x (b.toNat - 65)) := by rw [HRL.out, List.take_of_length_le (by rw [Array.length_toList]; exact Nat.le_refl _)]
      rw [hl]
      exact ⟨_, rfl, Kd.R_mono HR.out (fun _ _ => trivial), HBW.out⟩
end Go.Proofs.Ytecaemebamhamaa.Lv
