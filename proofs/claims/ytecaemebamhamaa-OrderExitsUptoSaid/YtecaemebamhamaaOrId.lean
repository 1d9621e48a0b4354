/- Package order walked: idle. -/
import Derived.Test.YtecaemebamhamaaOrRd
set_option linter.unusedVariables false
set_option linter.unusedSimpArgs false
namespace Go.Proofs.Ytecaemebamhamaa.Lv
open Go.RowKit Go.Proofs.YtecaemebamhamaaW.PrintWords Go.Proofs.YtecaemebamhamaaW.PrintLast Go.Proofs.YtecaemebamhamaaW.PrintMore Go.Proofs.Ytecaemebamhamaa.PO Go.Proofs.Ytecaemebamhamaa.Hnd Go.Lib

/-- Is a field used? -/
def readsB (s : ByteArray) (i : Nat) : Bool := s.data.toList.any (fun b => b.toNat - 65 == i)
def usedB (s : ByteArray) (wr nu : Bool) (i : Nat) : Bool := ((wr && i == 0) || (nu && i == 1)) || readsB s i
def idleTo (s : ByteArray) (wr nu : Bool) (x : RO) (i : Nat) : List Int := ((List.range i).filter (fun i => !usedB s wr nu i)).map (fieldO x)
theorem idleTo_succ (s : ByteArray) (wr nu : Bool) (x : RO) (i : Nat) : idleTo s wr nu x (i + 1) = idleTo s wr nu x i ++ (if usedB s wr nu i = true then [] else [fieldO x i]) := by
  unfold idleTo
  rw [List.range_succ, List.filter_append, List.map_append]
  congr 1
  cases h : usedB s wr nu i <;> simp [h]
theorem idleTo_len (s : ByteArray) (wr nu : Bool) (x : RO) (i : Nat) : (idleTo s wr nu x i).length ≤ i := by
  unfold idleTo
  rw [List.length_map]
  exact Nat.le_trans (List.length_filter_le _ _) (by simp)
set_option maxHeartbeats 32000000 in
set_option maxRecDepth 100000 in
theorem idle_calls (w : World) (x : RO) (s : ByteArray) (r2 : Bool) (r3 r4 : Int) (r5 r6 : Bool) (r7 : Int) (hby : s.data.toList.length ≤ 3 ∧ ∀ b ∈ s.data.toList, 65 ≤ b.toNat ∧ b.toNat ≤ 67) :
    Calls Try.prog 89 #[.agg #[.string s, .bool r2, .int .i64 r3, .int .i64 r4, .bool r5, .bool r6, .int .i64 r7], .agg #[.int .i64 x.f0, .int .i64 x.f1, .int .i64 x.f2, .int .i64 x.f3, .int .i64 x.f4, .int .i64 x.f5, .int .i64 x.f6.f0, .int .i64 x.f6.f1]] w fun e w' => ∃ v, e = .returned v ∧ Kd.R (Kd.int .i64) 3 w' w.heap.size (fun _ => True) v (idleTo s r2 r5 x 3) ∧ Below w.heap.size w w' := by
  obtain ⟨o1, ho1⟩ : ∃ ob, ob = Obj.cells #[.string s, .bool r2, .int .i64 r3, .int .i64 r4, .bool r5, .bool r6, .int .i64 r7] 79 := ⟨_, rfl⟩
  obtain ⟨o2, ho2⟩ : ∃ ob, ob = Obj.cells #[.int .i64 x.f0, .int .i64 x.f1, .int .i64 x.f2, .int .i64 x.f3, .int .i64 x.f4, .int .i64 x.f5, .int .i64 x.f6.f0, .int .i64 x.f6.f1] 37 := ⟨_, rfl⟩
  have hsz : (w.alloc o1).heap.size = w.heap.size + 1 := Array.size_push _
  have hal := below_alloc (below_alloc (Below.refl w.heap.size w) o1) o2
  have HB := Aside0.mk hal
  have HF : Aside0 (((w.alloc o1).alloc o2).heap[w.heap.size]? = some (.cells #[.string s, .bool r2, .int .i64 r3, .int .i64 r4, .bool r5, .bool r6, .int .i64 r7] 79 (0, 0))) := ⟨blk_alloc (by rw [ho1]; exact blk_new w _) _⟩
  have hx : ((w.alloc o1).alloc o2).heap[w.heap.size + 1]? = some (.cells #[.int .i64 x.f0, .int .i64 x.f1, .int .i64 x.f2, .int .i64 x.f3, .int .i64 x.f4, .int .i64 x.f5, .int .i64 x.f6.f0, .int .i64 x.f6.f1] 37 (0, 0)) := by
    have h_ := blk_new (w.alloc o1) o2
    rw [hsz] at h_
    rw [ho2] at h_ ⊢
    exact h_
  have x1 := (blk_cell hx 1).trans rfl
  have x2 := (blk_cell hx 2).trans rfl
  have x3 := (blk_cell hx 3).trans rfl
  rw [ho1, ho2] at x1 x2 x3
  have HBY := Aside0.mk hby
  have HU := Try.underlying40
  have w0_ : wrap32 0 = 0 := by unfold wrap32; omega
  have w1_ : wrap32 1 = 1 := by unfold wrap32; omega
  have w2_ : wrap32 2 = 2 := by unfold wrap32; omega
  have i0_ := fun W => run_idx0 W x.f1 x.f2 x.f3 .i64
  have i1_ := fun W => run_idx1 W x.f1 x.f2 x.f3 .i64
  have i2_ := fun W => run_idx2 W x.f1 x.f2 x.f3 .i64
  have v1_ : wrap64 (0 + 1) = 1 := by unfold wrap64; omega
  have v2_ : wrap64 (1 + 1) = 2 := by unfold wrap64; omega
  have v3_ : wrap64 (2 + 1) = 3 := by unfold wrap64; omega
  clear hal hx hby hsz
  go_enter Try.func89, Try.ntmps89
  go_wp2_with fail
  rw [← ho1, ← ho2]
  clear ho1 ho2 x1 x2 x3
  generalize (w.alloc o1).alloc o2 = wz at HB HF ⊢
  obtain ⟨bx, hbx⟩ : ∃ bx, bx = w.heap.size := ⟨_, rfl⟩
  have HF' : Aside0 (wz.heap[bx]? = some (.cells #[.string s, .bool r2, .int .i64 r3, .int .i64 r4, .bool r5, .bool r6, .int .i64 r7] 79 (0, 0))) := ⟨by rw [hbx]; exact HF.out⟩
  have HBX := Aside0.mk hbx
  clear HF
  first | rw [← hbx] | skip
  clear hbx
  go_loopg [5, 18] 3 (fun kq v5 v18 W => ∃ i : Nat, v18 = .int .i64 (i : Int) ∧ Aside0 (i ≤ 3 ∧ kq = 3 - i) ∧ Aside0 (Kd.R (Kd.int .i64) 3 W w.heap.size (fun k => k ≠ bx) v5 (idleTo s r2 r5 x i)) ∧ Aside0 (W.heap[bx]? = some (.cells #[.string s, .bool r2, .int .i64 r3, .int .i64 r4, .bool r5, .bool r6, .int .i64 r7] 79 (0, 0))) ∧ Aside0 (Below w.heap.size w W))
  case atStart => exact ⟨0, rfl, ⟨Nat.zero_le _, by omega⟩, ⟨Kd.R_nil _ _ _ _ _⟩, HF', HB⟩
  case round =>
    clear HF' HB
    obtain ⟨i, rfl, HIQ, HR, HF, HBW⟩ := hrel
    obtain ⟨A5, c5, e5⟩ := Kd.R_slice HR.out
    subst e5
    have f0 := (blk_cell HF.out 0).trans rfl
    have f1 := (blk_cell HF.out 1).trans rfl
    have f4 := (blk_cell HF.out 4).trans rfl
    have HZL := Aside0.mk (idleTo_len s r2 r5 x i)
    have h4 : i = 0 ∨ i = 1 ∨ i = 2 ∨ i = 3 := by have := HIQ.out; omega
    rcases h4 with rfl | rfl | rfl | rfl
    · have hdec : decide (((0 : Nat) : Int) < 3) = true := by decide
      have hdec2 : decide ((0 : Int) < 3) = true := by decide
      cases r2 with
      | true =>
        go_wp2_with fail
        have hki := World.iter_heap wr s 0
        have hbi : Below wr.heap.size wr (wr.iter s 0) := below_alloc (Below.refl _ _) _
        have HKI := Aside0.mk hki
        have HFI := Aside0.mk (blk_below HF.out hbi)
        have HBI := Aside0.mk (below_step HBW.out hbi)
        have HRI := Aside0.mk (Kd.R_below (Kd.R_mono (ok' := fun k => k ≠ bx ∧ k < wr.heap.size) (Kd.R_bound HR.out) (fun k hk => ⟨hk.1, hk.2.2.1⟩)) hbi)
        have HLX : Aside0 (bx < wr.heap.size ∧ w.heap.size ≤ wr.heap.size) := ⟨⟨blk_lt HF.out, HBW.out.size⟩⟩
        clear hki hbi HR HF HBW f0 f1 f4
        generalize wr.iter s 0 = wj at HKI HFI HBI HRI ⊢
        generalize wr.heap.size = ki at HKI HRI HLX ⊢
        go_loopg [8] (s.size + 1) (fun kq v8 W => ∃ pos : Nat, v8 = .bool (true || (s.data.toList.take pos).any (fun b => b.toNat - 65 == 0)) ∧ Aside0 (pos ≤ s.size ∧ kq = s.size + 1 - pos) ∧ Aside0 (W.heap[ki]? = some (.stringIter s pos)) ∧ Aside0 (Kd.R (Kd.int .i64) 3 W w.heap.size (fun k => k ≠ bx ∧ k < ki) (.slice A5 (idleTo s true r5 x 0).length c5) (idleTo s true r5 x 0)) ∧ Aside0 (W.heap[bx]? = some (.cells #[.string s, .bool true, .int .i64 r3, .int .i64 r4, .bool r5, .bool r6, .int .i64 r7] 79 (0, 0))) ∧ Aside0 (Below w.heap.size w W))
        case atStart => exact ⟨0, by first | rfl | simp, ⟨Nat.zero_le _, by omega⟩, HKI, HRI, HFI, HBI⟩
        case round =>
          clear HKI HFI HBI HRI
          obtain ⟨pos, rfl, HPQ, HK, HRJ, HFJ, HBJ⟩ := hrel
          by_cases hlt : pos < s.size
          · have hb := HBY.out.2 (s[pos]) (by
              show s[pos] ∈ s.data.toList
              exact Array.mem_def.1 (Array.getElem_mem hlt))
            have hnext := run_next_ascii_at (P := Try.prog) wr ki s pos 0 HK.out hlt (by omega)
            have HTK : Aside0 ((s.data.toList.take (pos + 1)).any (fun b => b.toNat - 65 == 0) = ((s.data.toList.take pos).any (fun b => b.toNat - 65 == 0) || ((s[pos]).toNat - 65 == 0))) := ⟨by
              have hl2 : pos < s.data.toList.length := by rw [Array.length_toList]; exact hlt
              rw [List.take_succ_eq_append_getElem hl2, List.any_append]
              simp
              rfl⟩
            have HLT := Aside0.mk hlt
            have HKi : Aside0 ((wr.iterAt ki s (pos + 1)).heap[ki]? = some (.stringIter s (pos + 1))) := ⟨iterAt_heap wr ki s pos (pos + 1) HK.out⟩
            have HFi := Aside0.mk ((iterAt_other wr ki bx s (pos + 1) (by have := HLX.out; omega)).trans HFJ.out)
            have HRi := Aside0.mk (Kd.R_step HRJ.out (fun k hk _ => iterAt_other wr ki k s (pos + 1) (by have := hk.2; omega)))
            have HBi : Aside0 (Below w.heap.size w (wr.iterAt ki s (pos + 1))) := ⟨below_iterAt HBJ.out HLX.out.2 s (pos + 1)⟩
            generalize (s[pos]).toNat = bn at hb hnext HTK
            generalize (s.data.toList.take pos).any (fun b => b.toNat - 65 == 0) = tk at HTK ⊢
            clear hlt HK HRJ HFJ HBJ
            generalize hwi : wr.iterAt ki s (pos + 1) = wi at hnext HKi HRi HFi HBi
            clear hwi
            have h3 : bn = 65 ∨ bn = 66 ∨ bn = 67 := by omega
            clear hb
            rcases h3 with rfl | rfl | rfl <;> cases tk
            · go_wp2_with fail
              go_roundg (s.size + 1 - (pos + 1))
              case measure => have := HPQ.out; have := HLT.out; omega
              case rel => exact ⟨pos + 1, by first | rfl | (rw [HTK.out]; rfl) | (rw [HTK.out]; simp) | simp [HTK.out], ⟨by have := HLT.out; omega, rfl⟩, HKi, HRi, HFi, HBi⟩
            · go_wp2_with fail
              go_roundg (s.size + 1 - (pos + 1))
              case measure => have := HPQ.out; have := HLT.out; omega
              case rel => exact ⟨pos + 1, by first | rfl | (rw [HTK.out]; rfl) | (rw [HTK.out]; simp) | simp [HTK.out], ⟨by have := HLT.out; omega, rfl⟩, HKi, HRi, HFi, HBi⟩
            · go_wp2_with fail
              go_roundg (s.size + 1 - (pos + 1))
              case measure => have := HPQ.out; have := HLT.out; omega
              case rel => exact ⟨pos + 1, by first | rfl | (rw [HTK.out]; rfl) | (rw [HTK.out]; simp) | simp [HTK.out], ⟨by have := HLT.out; omega, rfl⟩, HKi, HRi, HFi, HBi⟩
            · go_wp2_with fail
              go_roundg (s.size + 1 - (pos + 1))
              case measure => have := HPQ.out; have := HLT.out; omega
              case rel => exact ⟨pos + 1, by first | rfl | (rw [HTK.out]; rfl) | (rw [HTK.out]; simp) | simp [HTK.out], ⟨by have := HLT.out; omega, rfl⟩, HKi, HRi, HFi, HBi⟩
            · go_wp2_with fail
              go_roundg (s.size + 1 - (pos + 1))
              case measure => have := HPQ.out; have := HLT.out; omega
              case rel => exact ⟨pos + 1, by first | rfl | (rw [HTK.out]; rfl) | (rw [HTK.out]; simp) | simp [HTK.out], ⟨by have := HLT.out; omega, rfl⟩, HKi, HRi, HFi, HBi⟩
            · go_wp2_with fail
              go_roundg (s.size + 1 - (pos + 1))
              case measure => have := HPQ.out; have := HLT.out; omega
              case rel => exact ⟨pos + 1, by first | rfl | (rw [HTK.out]; rfl) | (rw [HTK.out]; simp) | simp [HTK.out], ⟨by have := HLT.out; omega, rfl⟩, HKi, HRi, HFi, HBi⟩
          · have e_ : pos = s.size := by have := HPQ.out; omega
            subst e_
            have hnext := run_next_end_at (P := Try.prog) wr ki s s.size 0 HK.out (by omega)
            have hus : usedB s true r5 0 = (true || (s.data.toList.take s.size).any (fun b => b.toNat - 65 == 0)) := by
              unfold usedB readsB
              rw [List.take_of_length_le (by rw [Array.length_toList]; exact Nat.le_refl _)]
              simp
            have HSU := Aside0.mk (idleTo_succ s true r5 x 0)
            rw [← hus]
            generalize usedB s true r5 0 = us at HSU ⊢
            clear hlt hus
            generalize hzs : idleTo s true r5 x 0 = zs at HSU HRJ HZL ⊢
            clear hzs
            have HRN := Aside0.mk (Kd.R_mono (ok' := fun k => k ≠ bx) HRJ.out (fun k hk => hk.1))
            have HLW : Aside0 (bx < wr.heap.size) := ⟨blk_lt HFJ.out⟩
            cases us with
            | true =>
              go_wp2_with fail
              go_roundg (3 - (0 + 1))
              case measure => have := HIQ.out; omega
              case rel => exact ⟨1, rfl, ⟨by omega, rfl⟩, ⟨by rw [HSU.out]; first | (rw [if_pos rfl, List.append_nil]; exact HRN.out) | (simp only [if_true, List.append_nil]; exact HRN.out)⟩, HFJ, HBJ⟩
            | false =>
              go_wp2_with (first | ((with_reducible refine gate_builtin (b := .append) (xs := #[.tmp 52, .tmp 54]) rfl ?_); refine Kd.R_append (Kd.int .i64) (w0 := w) w.heap.size rfl (.tmp 52) (.tmp 54) 40 3 (.int .i64 0) 8 rfl HU info_i rfl (by decide) (by decide) (.slice A5 zs.length c5) zs (x.f1) [.int .i64 (x.f1)] (fun k => k ≠ bx) (fun _ => False) rfl rfl rfl (fun _ hk => hk.elim) ?hfr HRN.out HBJ.out ?hbs ?hl ?_; (case hfr => exact fun k hk => by have := HLW.out; omega); (case hbs => exact HBJ.out.size); (case hl => have h_ := HZL.out; omega); intro v6 w6 ho hb hg hat; have HR6 := Aside0.mk ho; have HB6 := Aside0.mk hb; have HG6 := Aside0.mk hg; clear ho hb hg hat))
              go_roundg (3 - (0 + 1))
              case measure => have := HIQ.out; omega
              case rel => exact ⟨1, rfl, ⟨by omega, rfl⟩, ⟨by rw [HSU.out]; first | (rw [if_neg (by decide)]; exact HR6.out) | (simp only [if_false]; exact HR6.out) | (simp only [Bool.false_eq_true, if_false]; exact HR6.out)⟩, ⟨blk_grown HFJ.out HG6.out (by intro e_; exact (HRN.out.1 bx e_.symm) rfl)⟩, HB6⟩
      | false =>
        cases r5 with
        | true =>
          go_wp2_with fail
          have hki := World.iter_heap wr s 0
          have hbi : Below wr.heap.size wr (wr.iter s 0) := below_alloc (Below.refl _ _) _
          have HKI := Aside0.mk hki
          have HFI := Aside0.mk (blk_below HF.out hbi)
          have HBI := Aside0.mk (below_step HBW.out hbi)
          have HRI := Aside0.mk (Kd.R_below (Kd.R_mono (ok' := fun k => k ≠ bx ∧ k < wr.heap.size) (Kd.R_bound HR.out) (fun k hk => ⟨hk.1, hk.2.2.1⟩)) hbi)
          have HLX : Aside0 (bx < wr.heap.size ∧ w.heap.size ≤ wr.heap.size) := ⟨⟨blk_lt HF.out, HBW.out.size⟩⟩
          clear hki hbi HR HF HBW f0 f1 f4
          generalize wr.iter s 0 = wj at HKI HFI HBI HRI ⊢
          generalize wr.heap.size = ki at HKI HRI HLX ⊢
          go_loopg [8] (s.size + 1) (fun kq v8 W => ∃ pos : Nat, v8 = .bool (false || (s.data.toList.take pos).any (fun b => b.toNat - 65 == 0)) ∧ Aside0 (pos ≤ s.size ∧ kq = s.size + 1 - pos) ∧ Aside0 (W.heap[ki]? = some (.stringIter s pos)) ∧ Aside0 (Kd.R (Kd.int .i64) 3 W w.heap.size (fun k => k ≠ bx ∧ k < ki) (.slice A5 (idleTo s false true x 0).length c5) (idleTo s false true x 0)) ∧ Aside0 (W.heap[bx]? = some (.cells #[.string s, .bool false, .int .i64 r3, .int .i64 r4, .bool true, .bool r6, .int .i64 r7] 79 (0, 0))) ∧ Aside0 (Below w.heap.size w W))
          case atStart => exact ⟨0, by first | rfl | simp, ⟨Nat.zero_le _, by omega⟩, HKI, HRI, HFI, HBI⟩
          case round =>
            clear HKI HFI HBI HRI
            obtain ⟨pos, rfl, HPQ, HK, HRJ, HFJ, HBJ⟩ := hrel
            by_cases hlt : pos < s.size
            · have hb := HBY.out.2 (s[pos]) (by
                show s[pos] ∈ s.data.toList
                exact Array.mem_def.1 (Array.getElem_mem hlt))
              have hnext := run_next_ascii_at (P := Try.prog) wr ki s pos 0 HK.out hlt (by omega)
              have HTK : Aside0 ((s.data.toList.take (pos + 1)).any (fun b => b.toNat - 65 == 0) = ((s.data.toList.take pos).any (fun b => b.toNat - 65 == 0) || ((s[pos]).toNat - 65 == 0))) := ⟨by
                have hl2 : pos < s.data.toList.length := by rw [Array.length_toList]; exact hlt
                rw [List.take_succ_eq_append_getElem hl2, List.any_append]
                simp
                rfl⟩
              have HLT := Aside0.mk hlt
              have HKi : Aside0 ((wr.iterAt ki s (pos + 1)).heap[ki]? = some (.stringIter s (pos + 1))) := ⟨iterAt_heap wr ki s pos (pos + 1) HK.out⟩
              have HFi := Aside0.mk ((iterAt_other wr ki bx s (pos + 1) (by have := HLX.out; omega)).trans HFJ.out)
              have HRi := Aside0.mk (Kd.R_step HRJ.out (fun k hk _ => iterAt_other wr ki k s (pos + 1) (by have := hk.2; omega)))
              have HBi : Aside0 (Below w.heap.size w (wr.iterAt ki s (pos + 1))) := ⟨below_iterAt HBJ.out HLX.out.2 s (pos + 1)⟩
              generalize (s[pos]).toNat = bn at hb hnext HTK
              generalize (s.data.toList.take pos).any (fun b => b.toNat - 65 == 0) = tk at HTK ⊢
              clear hlt HK HRJ HFJ HBJ
              generalize hwi : wr.iterAt ki s (pos + 1) = wi at hnext HKi HRi HFi HBi
              clear hwi
              have h3 : bn = 65 ∨ bn = 66 ∨ bn = 67 := by omega
              clear hb
              rcases h3 with rfl | rfl | rfl <;> cases tk
              · go_wp2_with fail
                go_roundg (s.size + 1 - (pos + 1))
                case measure => have := HPQ.out; have := HLT.out; omega
                case rel => exact ⟨pos + 1, by first | rfl | (rw [HTK.out]; rfl) | (rw [HTK.out]; simp) | simp [HTK.out], ⟨by have := HLT.out; omega, rfl⟩, HKi, HRi, HFi, HBi⟩
              · go_wp2_with fail
                go_roundg (s.size + 1 - (pos + 1))
                case measure => have := HPQ.out; have := HLT.out; omega
                case rel => exact ⟨pos + 1, by first | rfl | (rw [HTK.out]; rfl) | (rw [HTK.out]; simp) | simp [HTK.out], ⟨by have := HLT.out; omega, rfl⟩, HKi, HRi, HFi, HBi⟩
              · go_wp2_with fail
                go_roundg (s.size + 1 - (pos + 1))
                case measure => have := HPQ.out; have := HLT.out; omega
                case rel => exact ⟨pos + 1, by first | rfl | (rw [HTK.out]; rfl) | (rw [HTK.out]; simp) | simp [HTK.out], ⟨by have := HLT.out; omega, rfl⟩, HKi, HRi, HFi, HBi⟩
              · go_wp2_with fail
                go_roundg (s.size + 1 - (pos + 1))
                case measure => have := HPQ.out; have := HLT.out; omega
                case rel => exact ⟨pos + 1, by first | rfl | (rw [HTK.out]; rfl) | (rw [HTK.out]; simp) | simp [HTK.out], ⟨by have := HLT.out; omega, rfl⟩, HKi, HRi, HFi, HBi⟩
              · go_wp2_with fail
                go_roundg (s.size + 1 - (pos + 1))
                case measure => have := HPQ.out; have := HLT.out; omega
                case rel => exact ⟨pos + 1, by first | rfl | (rw [HTK.out]; rfl) | (rw [HTK.out]; simp) | simp [HTK.out], ⟨by have := HLT.out; omega, rfl⟩, HKi, HRi, HFi, HBi⟩
              · go_wp2_with fail
                go_roundg (s.size + 1 - (pos + 1))
                case measure => have := HPQ.out; have := HLT.out; omega
                case rel => exact ⟨pos + 1, by first | rfl | (rw [HTK.out]; rfl) | (rw [HTK.out]; simp) | simp [HTK.out], ⟨by have := HLT.out; omega, rfl⟩, HKi, HRi, HFi, HBi⟩
            · have e_ : pos = s.size := by have := HPQ.out; omega
              subst e_
              have hnext := run_next_end_at (P := Try.prog) wr ki s s.size 0 HK.out (by omega)
              have hus : usedB s false true 0 = (false || (s.data.toList.take s.size).any (fun b => b.toNat - 65 == 0)) := by
                unfold usedB readsB
                rw [List.take_of_length_le (by rw [Array.length_toList]; exact Nat.le_refl _)]
                simp
              have HSU := Aside0.mk (idleTo_succ s false true x 0)
              rw [← hus]
              generalize usedB s false true 0 = us at HSU ⊢
              clear hlt hus
              generalize hzs : idleTo s false true x 0 = zs at HSU HRJ HZL ⊢
              clear hzs
              have HRN := Aside0.mk (Kd.R_mono (ok' := fun k => k ≠ bx) HRJ.out (fun k hk => hk.1))
              have HLW : Aside0 (bx < wr.heap.size) := ⟨blk_lt HFJ.out⟩
              cases us with
              | true =>
                go_wp2_with fail
                go_roundg (3 - (0 + 1))
                case measure => have := HIQ.out; omega
                case rel => exact ⟨1, rfl, ⟨by omega, rfl⟩, ⟨by rw [HSU.out]; first | (rw [if_pos rfl, List.append_nil]; exact HRN.out) | (simp only [if_true, List.append_nil]; exact HRN.out)⟩, HFJ, HBJ⟩
              | false =>
                go_wp2_with (first | ((with_reducible refine gate_builtin (b := .append) (xs := #[.tmp 52, .tmp 54]) rfl ?_); refine Kd.R_append (Kd.int .i64) (w0 := w) w.heap.size rfl (.tmp 52) (.tmp 54) 40 3 (.int .i64 0) 8 rfl HU info_i rfl (by decide) (by decide) (.slice A5 zs.length c5) zs (x.f1) [.int .i64 (x.f1)] (fun k => k ≠ bx) (fun _ => False) rfl rfl rfl (fun _ hk => hk.elim) ?hfr HRN.out HBJ.out ?hbs ?hl ?_; (case hfr => exact fun k hk => by have := HLW.out; omega); (case hbs => exact HBJ.out.size); (case hl => have h_ := HZL.out; omega); intro v6 w6 ho hb hg hat; have HR6 := Aside0.mk ho; have HB6 := Aside0.mk hb; have HG6 := Aside0.mk hg; clear ho hb hg hat))
                go_roundg (3 - (0 + 1))
                case measure => have := HIQ.out; omega
                case rel => exact ⟨1, rfl, ⟨by omega, rfl⟩, ⟨by rw [HSU.out]; first | (rw [if_neg (by decide)]; exact HR6.out) | (simp only [if_false]; exact HR6.out) | (simp only [Bool.false_eq_true, if_false]; exact HR6.out)⟩, ⟨blk_grown HFJ.out HG6.out (by intro e_; exact (HRN.out.1 bx e_.symm) rfl)⟩, HB6⟩
        | false =>
          go_wp2_with fail
          have hki := World.iter_heap wr s 0
          have hbi : Below wr.heap.size wr (wr.iter s 0) := below_alloc (Below.refl _ _) _
          have HKI := Aside0.mk hki
          have HFI := Aside0.mk (blk_below HF.out hbi)
          have HBI := Aside0.mk (below_step HBW.out hbi)
          have HRI := Aside0.mk (Kd.R_below (Kd.R_mono (ok' := fun k => k ≠ bx ∧ k < wr.heap.size) (Kd.R_bound HR.out) (fun k hk => ⟨hk.1, hk.2.2.1⟩)) hbi)
          have HLX : Aside0 (bx < wr.heap.size ∧ w.heap.size ≤ wr.heap.size) := ⟨⟨blk_lt HF.out, HBW.out.size⟩⟩
          clear hki hbi HR HF HBW f0 f1 f4
          generalize wr.iter s 0 = wj at HKI HFI HBI HRI ⊢
          generalize wr.heap.size = ki at HKI HRI HLX ⊢
          go_loopg [8] (s.size + 1) (fun kq v8 W => ∃ pos : Nat, v8 = .bool (false || (s.data.toList.take pos).any (fun b => b.toNat - 65 == 0)) ∧ Aside0 (pos ≤ s.size ∧ kq = s.size + 1 - pos) ∧ Aside0 (W.heap[ki]? = some (.stringIter s pos)) ∧ Aside0 (Kd.R (Kd.int .i64) 3 W w.heap.size (fun k => k ≠ bx ∧ k < ki) (.slice A5 (idleTo s false false x 0).length c5) (idleTo s false false x 0)) ∧ Aside0 (W.heap[bx]? = some (.cells #[.string s, .bool false, .int .i64 r3, .int .i64 r4, .bool false, .bool r6, .int .i64 r7] 79 (0, 0))) ∧ Aside0 (Below w.heap.size w W))
          case atStart => exact ⟨0, by first | rfl | simp, ⟨Nat.zero_le _, by omega⟩, HKI, HRI, HFI, HBI⟩
          case round =>
            clear HKI HFI HBI HRI
            obtain ⟨pos, rfl, HPQ, HK, HRJ, HFJ, HBJ⟩ := hrel
            by_cases hlt : pos < s.size
            · have hb := HBY.out.2 (s[pos]) (by
                show s[pos] ∈ s.data.toList
                exact Array.mem_def.1 (Array.getElem_mem hlt))
              have hnext := run_next_ascii_at (P := Try.prog) wr ki s pos 0 HK.out hlt (by omega)
              have HTK : Aside0 ((s.data.toList.take (pos + 1)).any (fun b => b.toNat - 65 == 0) = ((s.data.toList.take pos).any (fun b => b.toNat - 65 == 0) || ((s[pos]).toNat - 65 == 0))) := ⟨by
                have hl2 : pos < s.data.toList.length := by rw [Array.length_toList]; exact hlt
                rw [List.take_succ_eq_append_getElem hl2, List.any_append]
                simp
                rfl⟩
              have HLT := Aside0.mk hlt
              have HKi : Aside0 ((wr.iterAt ki s (pos + 1)).heap[ki]? = some (.stringIter s (pos + 1))) := ⟨iterAt_heap wr ki s pos (pos + 1) HK.out⟩
              have HFi := Aside0.mk ((iterAt_other wr ki bx s (pos + 1) (by have := HLX.out; omega)).trans HFJ.out)
              have HRi := Aside0.mk (Kd.R_step HRJ.out (fun k hk _ => iterAt_other wr ki k s (pos + 1) (by have := hk.2; omega)))
              have HBi : Aside0 (Below w.heap.size w (wr.iterAt ki s (pos + 1))) := ⟨below_iterAt HBJ.out HLX.out.2 s (pos + 1)⟩
              generalize (s[pos]).toNat = bn at hb hnext HTK
              generalize (s.data.toList.take pos).any (fun b => b.toNat - 65 == 0) = tk at HTK ⊢
              clear hlt HK HRJ HFJ HBJ
              generalize hwi : wr.iterAt ki s (pos + 1) = wi at hnext HKi HRi HFi HBi
              clear hwi
              have h3 : bn = 65 ∨ bn = 66 ∨ bn = 67 := by omega
              clear hb
              rcases h3 with rfl | rfl | rfl <;> cases tk
              · go_wp2_with fail
                go_roundg (s.size + 1 - (pos + 1))
                case measure => have := HPQ.out; have := HLT.out; omega
                case rel => exact ⟨pos + 1, by first | rfl | (rw [HTK.out]; rfl) | (rw [HTK.out]; simp) | simp [HTK.out], ⟨by have := HLT.out; omega, rfl⟩, HKi, HRi, HFi, HBi⟩
              · go_wp2_with fail
                go_roundg (s.size + 1 - (pos + 1))
                case measure => have := HPQ.out; have := HLT.out; omega
                case rel => exact ⟨pos + 1, by first | rfl | (rw [HTK.out]; rfl) | (rw [HTK.out]; simp) | simp [HTK.out], ⟨by have := HLT.out; omega, rfl⟩, HKi, HRi, HFi, HBi⟩
              · go_wp2_with fail
                go_roundg (s.size + 1 - (pos + 1))
                case measure => have := HPQ.out; have := HLT.out; omega
                case rel => exact ⟨pos + 1, by first | rfl | (rw [HTK.out]; rfl) | (rw [HTK.out]; simp) | simp [HTK.out], ⟨by have := HLT.out; omega, rfl⟩, HKi, HRi, HFi, HBi⟩
              · go_wp2_with fail
                go_roundg (s.size + 1 - (pos + 1))
                case measure => have := HPQ.out; have := HLT.out; omega
                case rel => exact ⟨pos + 1, by first | rfl | (rw [HTK.out]; rfl) | (rw [HTK.out]; simp) | simp [HTK.out], ⟨by have := HLT.out; omega, rfl⟩, HKi, HRi, HFi, HBi⟩
              · go_wp2_with fail
                go_roundg (s.size + 1 - (pos + 1))
                case measure => have := HPQ.out; have := HLT.out; omega
                case rel => exact ⟨pos + 1, by first | rfl | (rw [HTK.out]; rfl) | (rw [HTK.out]; simp) | simp [HTK.out], ⟨by have := HLT.out; omega, rfl⟩, HKi, HRi, HFi, HBi⟩
              · go_wp2_with fail
                go_roundg (s.size + 1 - (pos + 1))
                case measure => have := HPQ.out; have := HLT.out; omega
                case rel => exact ⟨pos + 1, by first | rfl | (rw [HTK.out]; rfl) | (rw [HTK.out]; simp) | simp [HTK.out], ⟨by have := HLT.out; omega, rfl⟩, HKi, HRi, HFi, HBi⟩
            · have e_ : pos = s.size := by have := HPQ.out; omega
              subst e_
              have hnext := run_next_end_at (P := Try.prog) wr ki s s.size 0 HK.out (by omega)
              have hus : usedB s false false 0 = (false || (s.data.toList.take s.size).any (fun b => b.toNat - 65 == 0)) := by
                unfold usedB readsB
                rw [List.take_of_length_le (by rw [Array.length_toList]; exact Nat.le_refl _)]
                simp
              have HSU := Aside0.mk (idleTo_succ s false false x 0)
              rw [← hus]
              generalize usedB s false false 0 = us at HSU ⊢
              clear hlt hus
              generalize hzs : idleTo s false false x 0 = zs at HSU HRJ HZL ⊢
              clear hzs
              have HRN := Aside0.mk (Kd.R_mono (ok' := fun k => k ≠ bx) HRJ.out (fun k hk => hk.1))
              have HLW : Aside0 (bx < wr.heap.size) := ⟨blk_lt HFJ.out⟩
              cases us with
              | true =>
                go_wp2_with fail
                go_roundg (3 - (0 + 1))
                case measure => have := HIQ.out; omega
                case rel => exact ⟨1, rfl, ⟨by omega, rfl⟩, ⟨by rw [HSU.out]; first | (rw [if_pos rfl, List.append_nil]; exact HRN.out) | (simp only [if_true, List.append_nil]; exact HRN.out)⟩, HFJ, HBJ⟩
              | false =>
                go_wp2_with (first | ((with_reducible refine gate_builtin (b := .append) (xs := #[.tmp 52, .tmp 54]) rfl ?_); refine Kd.R_append (Kd.int .i64) (w0 := w) w.heap.size rfl (.tmp 52) (.tmp 54) 40 3 (.int .i64 0) 8 rfl HU info_i rfl (by decide) (by decide) (.slice A5 zs.length c5) zs (x.f1) [.int .i64 (x.f1)] (fun k => k ≠ bx) (fun _ => False) rfl rfl rfl (fun _ hk => hk.elim) ?hfr HRN.out HBJ.out ?hbs ?hl ?_; (case hfr => exact fun k hk => by have := HLW.out; omega); (case hbs => exact HBJ.out.size); (case hl => have h_ := HZL.out; omega); intro v6 w6 ho hb hg hat; have HR6 := Aside0.mk ho; have HB6 := Aside0.mk hb; have HG6 := Aside0.mk hg; clear ho hb hg hat))
                go_roundg (3 - (0 + 1))
                case measure => have := HIQ.out; omega
                case rel => exact ⟨1, rfl, ⟨by omega, rfl⟩, ⟨by rw [HSU.out]; first | (rw [if_neg (by decide)]; exact HR6.out) | (simp only [if_false]; exact HR6.out) | (simp only [Bool.false_eq_true, if_false]; exact HR6.out)⟩, ⟨blk_grown HFJ.out HG6.out (by intro e_; exact (HRN.out.1 bx e_.symm) rfl)⟩, HB6⟩
    · have hdec : decide (((1 : Nat) : Int) < 3) = true := by decide
      have hdec2 : decide ((1 : Int) < 3) = true := by decide
      cases r2 with
      | true =>
        cases r5 with
        | true =>
          go_wp2_with fail
          have hki := World.iter_heap wr s 0
          have hbi : Below wr.heap.size wr (wr.iter s 0) := below_alloc (Below.refl _ _) _
          have HKI := Aside0.mk hki
          have HFI := Aside0.mk (blk_below HF.out hbi)
          have HBI := Aside0.mk (below_step HBW.out hbi)
          have HRI := Aside0.mk (Kd.R_below (Kd.R_mono (ok' := fun k => k ≠ bx ∧ k < wr.heap.size) (Kd.R_bound HR.out) (fun k hk => ⟨hk.1, hk.2.2.1⟩)) hbi)
          have HLX : Aside0 (bx < wr.heap.size ∧ w.heap.size ≤ wr.heap.size) := ⟨⟨blk_lt HF.out, HBW.out.size⟩⟩
          clear hki hbi HR HF HBW f0 f1 f4
          generalize wr.iter s 0 = wj at HKI HFI HBI HRI ⊢
          generalize wr.heap.size = ki at HKI HRI HLX ⊢
          go_loopg [8] (s.size + 1) (fun kq v8 W => ∃ pos : Nat, v8 = .bool (true || (s.data.toList.take pos).any (fun b => b.toNat - 65 == 1)) ∧ Aside0 (pos ≤ s.size ∧ kq = s.size + 1 - pos) ∧ Aside0 (W.heap[ki]? = some (.stringIter s pos)) ∧ Aside0 (Kd.R (Kd.int .i64) 3 W w.heap.size (fun k => k ≠ bx ∧ k < ki) (.slice A5 (idleTo s true true x 1).length c5) (idleTo s true true x 1)) ∧ Aside0 (W.heap[bx]? = some (.cells #[.string s, .bool true, .int .i64 r3, .int .i64 r4, .bool true, .bool r6, .int .i64 r7] 79 (0, 0))) ∧ Aside0 (Below w.heap.size w W))
          case atStart => exact ⟨0, by first | rfl | simp, ⟨Nat.zero_le _, by omega⟩, HKI, HRI, HFI, HBI⟩
          case round =>
            clear HKI HFI HBI HRI
            obtain ⟨pos, rfl, HPQ, HK, HRJ, HFJ, HBJ⟩ := hrel
            by_cases hlt : pos < s.size
            · have hb := HBY.out.2 (s[pos]) (by
                show s[pos] ∈ s.data.toList
                exact Array.mem_def.1 (Array.getElem_mem hlt))
              have hnext := run_next_ascii_at (P := Try.prog) wr ki s pos 0 HK.out hlt (by omega)
              have HTK : Aside0 ((s.data.toList.take (pos + 1)).any (fun b => b.toNat - 65 == 1) = ((s.data.toList.take pos).any (fun b => b.toNat - 65 == 1) || ((s[pos]).toNat - 65 == 1))) := ⟨by
                have hl2 : pos < s.data.toList.length := by rw [Array.length_toList]; exact hlt
                rw [List.take_succ_eq_append_getElem hl2, List.any_append]
                simp
                rfl⟩
              have HLT := Aside0.mk hlt
              have HKi : Aside0 ((wr.iterAt ki s (pos + 1)).heap[ki]? = some (.stringIter s (pos + 1))) := ⟨iterAt_heap wr ki s pos (pos + 1) HK.out⟩
              have HFi := Aside0.mk ((iterAt_other wr ki bx s (pos + 1) (by have := HLX.out; omega)).trans HFJ.out)
              have HRi := Aside0.mk (Kd.R_step HRJ.out (fun k hk _ => iterAt_other wr ki k s (pos + 1) (by have := hk.2; omega)))
              have HBi : Aside0 (Below w.heap.size w (wr.iterAt ki s (pos + 1))) := ⟨below_iterAt HBJ.out HLX.out.2 s (pos + 1)⟩
              generalize (s[pos]).toNat = bn at hb hnext HTK
              generalize (s.data.toList.take pos).any (fun b => b.toNat - 65 == 1) = tk at HTK ⊢
              clear hlt HK HRJ HFJ HBJ
              generalize hwi : wr.iterAt ki s (pos + 1) = wi at hnext HKi HRi HFi HBi
              clear hwi
              have h3 : bn = 65 ∨ bn = 66 ∨ bn = 67 := by omega
              clear hb
              rcases h3 with rfl | rfl | rfl <;> cases tk
              · go_wp2_with fail
                go_roundg (s.size + 1 - (pos + 1))
                case measure => have := HPQ.out; have := HLT.out; omega
                case rel => exact ⟨pos + 1, by first | rfl | (rw [HTK.out]; rfl) | (rw [HTK.out]; simp) | simp [HTK.out], ⟨by have := HLT.out; omega, rfl⟩, HKi, HRi, HFi, HBi⟩
              · go_wp2_with fail
                go_roundg (s.size + 1 - (pos + 1))
                case measure => have := HPQ.out; have := HLT.out; omega
                case rel => exact ⟨pos + 1, by first | rfl | (rw [HTK.out]; rfl) | (rw [HTK.out]; simp) | simp [HTK.out], ⟨by have := HLT.out; omega, rfl⟩, HKi, HRi, HFi, HBi⟩
              · go_wp2_with fail
                go_roundg (s.size + 1 - (pos + 1))
                case measure => have := HPQ.out; have := HLT.out; omega
                case rel => exact ⟨pos + 1, by first | rfl | (rw [HTK.out]; rfl) | (rw [HTK.out]; simp) | simp [HTK.out], ⟨by have := HLT.out; omega, rfl⟩, HKi, HRi, HFi, HBi⟩
              · go_wp2_with fail
                go_roundg (s.size + 1 - (pos + 1))
                case measure => have := HPQ.out; have := HLT.out; omega
                case rel => exact ⟨pos + 1, by first | rfl | (rw [HTK.out]; rfl) | (rw [HTK.out]; simp) | simp [HTK.out], ⟨by have := HLT.out; omega, rfl⟩, HKi, HRi, HFi, HBi⟩
              · go_wp2_with fail
                go_roundg (s.size + 1 - (pos + 1))
                case measure => have := HPQ.out; have := HLT.out; omega
                case rel => exact ⟨pos + 1, by first | rfl | (rw [HTK.out]; rfl) | (rw [HTK.out]; simp) | simp [HTK.out], ⟨by have := HLT.out; omega, rfl⟩, HKi, HRi, HFi, HBi⟩
              · go_wp2_with fail
                go_roundg (s.size + 1 - (pos + 1))
                case measure => have := HPQ.out; have := HLT.out; omega
                case rel => exact ⟨pos + 1, by first | rfl | (rw [HTK.out]; rfl) | (rw [HTK.out]; simp) | simp [HTK.out], ⟨by have := HLT.out; omega, rfl⟩, HKi, HRi, HFi, HBi⟩
            · have e_ : pos = s.size := by have := HPQ.out; omega
              subst e_
              have hnext := run_next_end_at (P := Try.prog) wr ki s s.size 0 HK.out (by omega)
              have hus : usedB s true true 1 = (true || (s.data.toList.take s.size).any (fun b => b.toNat - 65 == 1)) := by
                unfold usedB readsB
                rw [List.take_of_length_le (by rw [Array.length_toList]; exact Nat.le_refl _)]
                simp
              have HSU := Aside0.mk (idleTo_succ s true true x 1)
              rw [← hus]
              generalize usedB s true true 1 = us at HSU ⊢
              clear hlt hus
              generalize hzs : idleTo s true true x 1 = zs at HSU HRJ HZL ⊢
              clear hzs
              have HRN := Aside0.mk (Kd.R_mono (ok' := fun k => k ≠ bx) HRJ.out (fun k hk => hk.1))
              have HLW : Aside0 (bx < wr.heap.size) := ⟨blk_lt HFJ.out⟩
              cases us with
              | true =>
                go_wp2_with fail
                go_roundg (3 - (1 + 1))
                case measure => have := HIQ.out; omega
                case rel => exact ⟨2, rfl, ⟨by omega, rfl⟩, ⟨by rw [HSU.out]; first | (rw [if_pos rfl, List.append_nil]; exact HRN.out) | (simp only [if_true, List.append_nil]; exact HRN.out)⟩, HFJ, HBJ⟩
              | false =>
                go_wp2_with (first | ((with_reducible refine gate_builtin (b := .append) (xs := #[.tmp 52, .tmp 54]) rfl ?_); refine Kd.R_append (Kd.int .i64) (w0 := w) w.heap.size rfl (.tmp 52) (.tmp 54) 40 3 (.int .i64 0) 8 rfl HU info_i rfl (by decide) (by decide) (.slice A5 zs.length c5) zs (x.f2) [.int .i64 (x.f2)] (fun k => k ≠ bx) (fun _ => False) rfl rfl rfl (fun _ hk => hk.elim) ?hfr HRN.out HBJ.out ?hbs ?hl ?_; (case hfr => exact fun k hk => by have := HLW.out; omega); (case hbs => exact HBJ.out.size); (case hl => have h_ := HZL.out; omega); intro v6 w6 ho hb hg hat; have HR6 := Aside0.mk ho; have HB6 := Aside0.mk hb; have HG6 := Aside0.mk hg; clear ho hb hg hat))
                go_roundg (3 - (1 + 1))
                case measure => have := HIQ.out; omega
                case rel => exact ⟨2, rfl, ⟨by omega, rfl⟩, ⟨by rw [HSU.out]; first | (rw [if_neg (by decide)]; exact HR6.out) | (simp only [if_false]; exact HR6.out) | (simp only [Bool.false_eq_true, if_false]; exact HR6.out)⟩, ⟨blk_grown HFJ.out HG6.out (by intro e_; exact (HRN.out.1 bx e_.symm) rfl)⟩, HB6⟩
        | false =>
          go_wp2_with fail
          have hki := World.iter_heap wr s 0
          have hbi : Below wr.heap.size wr (wr.iter s 0) := below_alloc (Below.refl _ _) _
          have HKI := Aside0.mk hki
          have HFI := Aside0.mk (blk_below HF.out hbi)
          have HBI := Aside0.mk (below_step HBW.out hbi)
          have HRI := Aside0.mk (Kd.R_below (Kd.R_mono (ok' := fun k => k ≠ bx ∧ k < wr.heap.size) (Kd.R_bound HR.out) (fun k hk => ⟨hk.1, hk.2.2.1⟩)) hbi)
          have HLX : Aside0 (bx < wr.heap.size ∧ w.heap.size ≤ wr.heap.size) := ⟨⟨blk_lt HF.out, HBW.out.size⟩⟩
          clear hki hbi HR HF HBW f0 f1 f4
          generalize wr.iter s 0 = wj at HKI HFI HBI HRI ⊢
          generalize wr.heap.size = ki at HKI HRI HLX ⊢
          go_loopg [8] (s.size + 1) (fun kq v8 W => ∃ pos : Nat, v8 = .bool (false || (s.data.toList.take pos).any (fun b => b.toNat - 65 == 1)) ∧ Aside0 (pos ≤ s.size ∧ kq = s.size + 1 - pos) ∧ Aside0 (W.heap[ki]? = some (.stringIter s pos)) ∧ Aside0 (Kd.R (Kd.int .i64) 3 W w.heap.size (fun k => k ≠ bx ∧ k < ki) (.slice A5 (idleTo s true false x 1).length c5) (idleTo s true false x 1)) ∧ Aside0 (W.heap[bx]? = some (.cells #[.string s, .bool true, .int .i64 r3, .int .i64 r4, .bool false, .bool r6, .int .i64 r7] 79 (0, 0))) ∧ Aside0 (Below w.heap.size w W))
          case atStart => exact ⟨0, by first | rfl | simp, ⟨Nat.zero_le _, by omega⟩, HKI, HRI, HFI, HBI⟩
          case round =>
            clear HKI HFI HBI HRI
            obtain ⟨pos, rfl, HPQ, HK, HRJ, HFJ, HBJ⟩ := hrel
            by_cases hlt : pos < s.size
            · have hb := HBY.out.2 (s[pos]) (by
                show s[pos] ∈ s.data.toList
                exact Array.mem_def.1 (Array.getElem_mem hlt))
              have hnext := run_next_ascii_at (P := Try.prog) wr ki s pos 0 HK.out hlt (by omega)
              have HTK : Aside0 ((s.data.toList.take (pos + 1)).any (fun b => b.toNat - 65 == 1) = ((s.data.toList.take pos).any (fun b => b.toNat - 65 == 1) || ((s[pos]).toNat - 65 == 1))) := ⟨by
                have hl2 : pos < s.data.toList.length := by rw [Array.length_toList]; exact hlt
                rw [List.take_succ_eq_append_getElem hl2, List.any_append]
                simp
                rfl⟩
              have HLT := Aside0.mk hlt
              have HKi : Aside0 ((wr.iterAt ki s (pos + 1)).heap[ki]? = some (.stringIter s (pos + 1))) := ⟨iterAt_heap wr ki s pos (pos + 1) HK.out⟩
              have HFi := Aside0.mk ((iterAt_other wr ki bx s (pos + 1) (by have := HLX.out; omega)).trans HFJ.out)
              have HRi := Aside0.mk (Kd.R_step HRJ.out (fun k hk _ => iterAt_other wr ki k s (pos + 1) (by have := hk.2; omega)))
              have HBi : Aside0 (Below w.heap.size w (wr.iterAt ki s (pos + 1))) := ⟨below_iterAt HBJ.out HLX.out.2 s (pos + 1)⟩
              generalize (s[pos]).toNat = bn at hb hnext HTK
              generalize (s.data.toList.take pos).any (fun b => b.toNat - 65 == 1) = tk at HTK ⊢
              clear hlt HK HRJ HFJ HBJ
              generalize hwi : wr.iterAt ki s (pos + 1) = wi at hnext HKi HRi HFi HBi
              clear hwi
              have h3 : bn = 65 ∨ bn = 66 ∨ bn = 67 := by omega
              clear hb
              rcases h3 with rfl | rfl | rfl <;> cases tk
              · go_wp2_with fail
                go_roundg (s.size + 1 - (pos + 1))
                case measure => have := HPQ.out; have := HLT.out; omega
                case rel => exact ⟨pos + 1, by first | rfl | (rw [HTK.out]; rfl) | (rw [HTK.out]; simp) | simp [HTK.out], ⟨by have := HLT.out; omega, rfl⟩, HKi, HRi, HFi, HBi⟩
              · go_wp2_with fail
                go_roundg (s.size + 1 - (pos + 1))
                case measure => have := HPQ.out; have := HLT.out; omega
                case rel => exact ⟨pos + 1, by first | rfl | (rw [HTK.out]; rfl) | (rw [HTK.out]; simp) | simp [HTK.out], ⟨by have := HLT.out; omega, rfl⟩, HKi, HRi, HFi, HBi⟩
              · go_wp2_with fail
                go_roundg (s.size + 1 - (pos + 1))
                case measure => have := HPQ.out; have := HLT.out; omega
                case rel => exact ⟨pos + 1, by first | rfl | (rw [HTK.out]; rfl) | (rw [HTK.out]; simp) | simp [HTK.out], ⟨by have := HLT.out; omega, rfl⟩, HKi, HRi, HFi, HBi⟩
              · go_wp2_with fail
                go_roundg (s.size + 1 - (pos + 1))
                case measure => have := HPQ.out; have := HLT.out; omega
                case rel => exact ⟨pos + 1, by first | rfl | (rw [HTK.out]; rfl) | (rw [HTK.out]; simp) | simp [HTK.out], ⟨by have := HLT.out; omega, rfl⟩, HKi, HRi, HFi, HBi⟩
              · go_wp2_with fail
                go_roundg (s.size + 1 - (pos + 1))
                case measure => have := HPQ.out; have := HLT.out; omega
                case rel => exact ⟨pos + 1, by first | rfl | (rw [HTK.out]; rfl) | (rw [HTK.out]; simp) | simp [HTK.out], ⟨by have := HLT.out; omega, rfl⟩, HKi, HRi, HFi, HBi⟩
              · go_wp2_with fail
                go_roundg (s.size + 1 - (pos + 1))
                case measure => have := HPQ.out; have := HLT.out; omega
                case rel => exact ⟨pos + 1, by first | rfl | (rw [HTK.out]; rfl) | (rw [HTK.out]; simp) | simp [HTK.out], ⟨by have := HLT.out; omega, rfl⟩, HKi, HRi, HFi, HBi⟩
            · have e_ : pos = s.size := by have := HPQ.out; omega
              subst e_
              have hnext := run_next_end_at (P := Try.prog) wr ki s s.size 0 HK.out (by omega)
              have hus : usedB s true false 1 = (false || (s.data.toList.take s.size).any (fun b => b.toNat - 65 == 1)) := by
                unfold usedB readsB
                rw [List.take_of_length_le (by rw [Array.length_toList]; exact Nat.le_refl _)]
                simp
              have HSU := Aside0.mk (idleTo_succ s true false x 1)
              rw [← hus]
              generalize usedB s true false 1 = us at HSU ⊢
              clear hlt hus
              generalize hzs : idleTo s true false x 1 = zs at HSU HRJ HZL ⊢
              clear hzs
              have HRN := Aside0.mk (Kd.R_mono (ok' := fun k => k ≠ bx) HRJ.out (fun k hk => hk.1))
              have HLW : Aside0 (bx < wr.heap.size) := ⟨blk_lt HFJ.out⟩
              cases us with
              | true =>
                go_wp2_with fail
                go_roundg (3 - (1 + 1))
                case measure => have := HIQ.out; omega
                case rel => exact ⟨2, rfl, ⟨by omega, rfl⟩, ⟨by rw [HSU.out]; first | (rw [if_pos rfl, List.append_nil]; exact HRN.out) | (simp only [if_true, List.append_nil]; exact HRN.out)⟩, HFJ, HBJ⟩
              | false =>
                go_wp2_with (first | ((with_reducible refine gate_builtin (b := .append) (xs := #[.tmp 52, .tmp 54]) rfl ?_); refine Kd.R_append (Kd.int .i64) (w0 := w) w.heap.size rfl (.tmp 52) (.tmp 54) 40 3 (.int .i64 0) 8 rfl HU info_i rfl (by decide) (by decide) (.slice A5 zs.length c5) zs (x.f2) [.int .i64 (x.f2)] (fun k => k ≠ bx) (fun _ => False) rfl rfl rfl (fun _ hk => hk.elim) ?hfr HRN.out HBJ.out ?hbs ?hl ?_; (case hfr => exact fun k hk => by have := HLW.out; omega); (case hbs => exact HBJ.out.size); (case hl => have h_ := HZL.out; omega); intro v6 w6 ho hb hg hat; have HR6 := Aside0.mk ho; have HB6 := Aside0.mk hb; have HG6 := Aside0.mk hg; clear ho hb hg hat))
                go_roundg (3 - (1 + 1))
                case measure => have := HIQ.out; omega
                case rel => exact ⟨2, rfl, ⟨by omega, rfl⟩, ⟨by rw [HSU.out]; first | (rw [if_neg (by decide)]; exact HR6.out) | (simp only [if_false]; exact HR6.out) | (simp only [Bool.false_eq_true, if_false]; exact HR6.out)⟩, ⟨blk_grown HFJ.out HG6.out (by intro e_; exact (HRN.out.1 bx e_.symm) rfl)⟩, HB6⟩
      | false =>
        cases r5 with
        | true =>
          go_wp2_with fail
          have hki := World.iter_heap wr s 0
          have hbi : Below wr.heap.size wr (wr.iter s 0) := below_alloc (Below.refl _ _) _
          have HKI := Aside0.mk hki
          have HFI := Aside0.mk (blk_below HF.out hbi)
          have HBI := Aside0.mk (below_step HBW.out hbi)
          have HRI := Aside0.mk (Kd.R_below (Kd.R_mono (ok' := fun k => k ≠ bx ∧ k < wr.heap.size) (Kd.R_bound HR.out) (fun k hk => ⟨hk.1, hk.2.2.1⟩)) hbi)
          have HLX : Aside0 (bx < wr.heap.size ∧ w.heap.size ≤ wr.heap.size) := ⟨⟨blk_lt HF.out, HBW.out.size⟩⟩
          clear hki hbi HR HF HBW f0 f1 f4
          generalize wr.iter s 0 = wj at HKI HFI HBI HRI ⊢
          generalize wr.heap.size = ki at HKI HRI HLX ⊢
          go_loopg [8] (s.size + 1) (fun kq v8 W => ∃ pos : Nat, v8 = .bool (true || (s.data.toList.take pos).any (fun b => b.toNat - 65 == 1)) ∧ Aside0 (pos ≤ s.size ∧ kq = s.size + 1 - pos) ∧ Aside0 (W.heap[ki]? = some (.stringIter s pos)) ∧ Aside0 (Kd.R (Kd.int .i64) 3 W w.heap.size (fun k => k ≠ bx ∧ k < ki) (.slice A5 (idleTo s false true x 1).length c5) (idleTo s false true x 1)) ∧ Aside0 (W.heap[bx]? = some (.cells #[.string s, .bool false, .int .i64 r3, .int .i64 r4, .bool true, .bool r6, .int .i64 r7] 79 (0, 0))) ∧ Aside0 (Below w.heap.size w W))
          case atStart => exact ⟨0, by first | rfl | simp, ⟨Nat.zero_le _, by omega⟩, HKI, HRI, HFI, HBI⟩
          case round =>
            clear HKI HFI HBI HRI
            obtain ⟨pos, rfl, HPQ, HK, HRJ, HFJ, HBJ⟩ := hrel
            by_cases hlt : pos < s.size
            · have hb := HBY.out.2 (s[pos]) (by
                show s[pos] ∈ s.data.toList
                exact Array.mem_def.1 (Array.getElem_mem hlt))
              have hnext := run_next_ascii_at (P := Try.prog) wr ki s pos 0 HK.out hlt (by omega)
              have HTK : Aside0 ((s.data.toList.take (pos + 1)).any (fun b => b.toNat - 65 == 1) = ((s.data.toList.take pos).any (fun b => b.toNat - 65 == 1) || ((s[pos]).toNat - 65 == 1))) := ⟨by
                have hl2 : pos < s.data.toList.length := by rw [Array.length_toList]; exact hlt
                rw [List.take_succ_eq_append_getElem hl2, List.any_append]
                simp
                rfl⟩
              have HLT := Aside0.mk hlt
              have HKi : Aside0 ((wr.iterAt ki s (pos + 1)).heap[ki]? = some (.stringIter s (pos + 1))) := ⟨iterAt_heap wr ki s pos (pos + 1) HK.out⟩
              have HFi := Aside0.mk ((iterAt_other wr ki bx s (pos + 1) (by have := HLX.out; omega)).trans HFJ.out)
              have HRi := Aside0.mk (Kd.R_step HRJ.out (fun k hk _ => iterAt_other wr ki k s (pos + 1) (by have := hk.2; omega)))
              have HBi : Aside0 (Below w.heap.size w (wr.iterAt ki s (pos + 1))) := ⟨below_iterAt HBJ.out HLX.out.2 s (pos + 1)⟩
              generalize (s[pos]).toNat = bn at hb hnext HTK
              generalize (s.data.toList.take pos).any (fun b => b.toNat - 65 == 1) = tk at HTK ⊢
              clear hlt HK HRJ HFJ HBJ
              generalize hwi : wr.iterAt ki s (pos + 1) = wi at hnext HKi HRi HFi HBi
              clear hwi
              have h3 : bn = 65 ∨ bn = 66 ∨ bn = 67 := by omega
              clear hb
              rcases h3 with rfl | rfl | rfl <;> cases tk
              · go_wp2_with fail
                go_roundg (s.size + 1 - (pos + 1))
                case measure => have := HPQ.out; have := HLT.out; omega
                case rel => exact ⟨pos + 1, by first | rfl | (rw [HTK.out]; rfl) | (rw [HTK.out]; simp) | simp [HTK.out], ⟨by have := HLT.out; omega, rfl⟩, HKi, HRi, HFi, HBi⟩
              · go_wp2_with fail
                go_roundg (s.size + 1 - (pos + 1))
                case measure => have := HPQ.out; have := HLT.out; omega
                case rel => exact ⟨pos + 1, by first | rfl | (rw [HTK.out]; rfl) | (rw [HTK.out]; simp) | simp [HTK.out], ⟨by have := HLT.out; omega, rfl⟩, HKi, HRi, HFi, HBi⟩
              · go_wp2_with fail
                go_roundg (s.size + 1 - (pos + 1))
                case measure => have := HPQ.out; have := HLT.out; omega
                case rel => exact ⟨pos + 1, by first | rfl | (rw [HTK.out]; rfl) | (rw [HTK.out]; simp) | simp [HTK.out], ⟨by have := HLT.out; omega, rfl⟩, HKi, HRi, HFi, HBi⟩
              · go_wp2_with fail
                go_roundg (s.size + 1 - (pos + 1))
                case measure => have := HPQ.out; have := HLT.out; omega
                case rel => exact ⟨pos + 1, by first | rfl | (rw [HTK.out]; rfl) | (rw [HTK.out]; simp) | simp [HTK.out], ⟨by have := HLT.out; omega, rfl⟩, HKi, HRi, HFi, HBi⟩
              · go_wp2_with fail
                go_roundg (s.size + 1 - (pos + 1))
                case measure => have := HPQ.out; have := HLT.out; omega
                case rel => exact ⟨pos + 1, by first | rfl | (rw [HTK.out]; rfl) | (rw [HTK.out]; simp) | simp [HTK.out], ⟨by have := HLT.out; omega, rfl⟩, HKi, HRi, HFi, HBi⟩
              · go_wp2_with fail
                go_roundg (s.size + 1 - (pos + 1))
                case measure => have := HPQ.out; have := HLT.out; omega
                case rel => exact ⟨pos + 1, by first | rfl | (rw [HTK.out]; rfl) | (rw [HTK.out]; simp) | simp [HTK.out], ⟨by have := HLT.out; omega, rfl⟩, HKi, HRi, HFi, HBi⟩
            · have e_ : pos = s.size := by have := HPQ.out; omega
              subst e_
              have hnext := run_next_end_at (P := Try.prog) wr ki s s.size 0 HK.out (by omega)
              have hus : usedB s false true 1 = (true || (s.data.toList.take s.size).any (fun b => b.toNat - 65 == 1)) := by
                unfold usedB readsB
                rw [List.take_of_length_le (by rw [Array.length_toList]; exact Nat.le_refl _)]
                simp
              have HSU := Aside0.mk (idleTo_succ s false true x 1)
              rw [← hus]
              generalize usedB s false true 1 = us at HSU ⊢
              clear hlt hus
              generalize hzs : idleTo s false true x 1 = zs at HSU HRJ HZL ⊢
              clear hzs
              have HRN := Aside0.mk (Kd.R_mono (ok' := fun k => k ≠ bx) HRJ.out (fun k hk => hk.1))
              have HLW : Aside0 (bx < wr.heap.size) := ⟨blk_lt HFJ.out⟩
              cases us with
              | true =>
                go_wp2_with fail
                go_roundg (3 - (1 + 1))
                case measure => have := HIQ.out; omega
                case rel => exact ⟨2, rfl, ⟨by omega, rfl⟩, ⟨by rw [HSU.out]; first | (rw [if_pos rfl, List.append_nil]; exact HRN.out) | (simp only [if_true, List.append_nil]; exact HRN.out)⟩, HFJ, HBJ⟩
              | false =>
                go_wp2_with (first | ((with_reducible refine gate_builtin (b := .append) (xs := #[.tmp 52, .tmp 54]) rfl ?_); refine Kd.R_append (Kd.int .i64) (w0 := w) w.heap.size rfl (.tmp 52) (.tmp 54) 40 3 (.int .i64 0) 8 rfl HU info_i rfl (by decide) (by decide) (.slice A5 zs.length c5) zs (x.f2) [.int .i64 (x.f2)] (fun k => k ≠ bx) (fun _ => False) rfl rfl rfl (fun _ hk => hk.elim) ?hfr HRN.out HBJ.out ?hbs ?hl ?_; (case hfr => exact fun k hk => by have := HLW.out; omega); (case hbs => exact HBJ.out.size); (case hl => have h_ := HZL.out; omega); intro v6 w6 ho hb hg hat; have HR6 := Aside0.mk ho; have HB6 := Aside0.mk hb; have HG6 := Aside0.mk hg; clear ho hb hg hat))
                go_roundg (3 - (1 + 1))
                case measure => have := HIQ.out; omega
                case rel => exact ⟨2, rfl, ⟨by omega, rfl⟩, ⟨by rw [HSU.out]; first | (rw [if_neg (by decide)]; exact HR6.out) | (simp only [if_false]; exact HR6.out) | (simp only [Bool.false_eq_true, if_false]; exact HR6.out)⟩, ⟨blk_grown HFJ.out HG6.out (by intro e_; exact (HRN.out.1 bx e_.symm) rfl)⟩, HB6⟩
        | false =>
          go_wp2_with fail
          have hki := World.iter_heap wr s 0
          have hbi : Below wr.heap.size wr (wr.iter s 0) := below_alloc (Below.refl _ _) _
          have HKI := Aside0.mk hki
          have HFI := Aside0.mk (blk_below HF.out hbi)
          have HBI := Aside0.mk (below_step HBW.out hbi)
          have HRI := Aside0.mk (Kd.R_below (Kd.R_mono (ok' := fun k => k ≠ bx ∧ k < wr.heap.size) (Kd.R_bound HR.out) (fun k hk => ⟨hk.1, hk.2.2.1⟩)) hbi)
          have HLX : Aside0 (bx < wr.heap.size ∧ w.heap.size ≤ wr.heap.size) := ⟨⟨blk_lt HF.out, HBW.out.size⟩⟩
          clear hki hbi HR HF HBW f0 f1 f4
          generalize wr.iter s 0 = wj at HKI HFI HBI HRI ⊢
          generalize wr.heap.size = ki at HKI HRI HLX ⊢
          go_loopg [8] (s.size + 1) (fun kq v8 W => ∃ pos : Nat, v8 = .bool (false || (s.data.toList.take pos).any (fun b => b.toNat - 65 == 1)) ∧ Aside0 (pos ≤ s.size ∧ kq = s.size + 1 - pos) ∧ Aside0 (W.heap[ki]? = some (.stringIter s pos)) ∧ Aside0 (Kd.R (Kd.int .i64) 3 W w.heap.size (fun k => k ≠ bx ∧ k < ki) (.slice A5 (idleTo s false false x 1).length c5) (idleTo s false false x 1)) ∧ Aside0 (W.heap[bx]? = some (.cells #[.string s, .bool false, .int .i64 r3, .int .i64 r4, .bool false, .bool r6, .int .i64 r7] 79 (0, 0))) ∧ Aside0 (Below w.heap.size w W))
          case atStart => exact ⟨0, by first | rfl | simp, ⟨Nat.zero_le _, by omega⟩, HKI, HRI, HFI, HBI⟩
          case round =>
            clear HKI HFI HBI HRI
            obtain ⟨pos, rfl, HPQ, HK, HRJ, HFJ, HBJ⟩ := hrel
            by_cases hlt : pos < s.size
            · have hb := HBY.out.2 (s[pos]) (by
                show s[pos] ∈ s.data.toList
                exact Array.mem_def.1 (Array.getElem_mem hlt))
              have hnext := run_next_ascii_at (P := Try.prog) wr ki s pos 0 HK.out hlt (by omega)
              have HTK : Aside0 ((s.data.toList.take (pos + 1)).any (fun b => b.toNat - 65 == 1) = ((s.data.toList.take pos).any (fun b => b.toNat - 65 == 1) || ((s[pos]).toNat - 65 == 1))) := ⟨by
                have hl2 : pos < s.data.toList.length := by rw [Array.length_toList]; exact hlt
                rw [List.take_succ_eq_append_getElem hl2, List.any_append]
                simp
                rfl⟩
              have HLT := Aside0.mk hlt
              have HKi : Aside0 ((wr.iterAt ki s (pos + 1)).heap[ki]? = some (.stringIter s (pos + 1))) := ⟨iterAt_heap wr ki s pos (pos + 1) HK.out⟩
              have HFi := Aside0.mk ((iterAt_other wr ki bx s (pos + 1) (by have := HLX.out; omega)).trans HFJ.out)
              have HRi := Aside0.mk (Kd.R_step HRJ.out (fun k hk _ => iterAt_other wr ki k s (pos + 1) (by have := hk.2; omega)))
              have HBi : Aside0 (Below w.heap.size w (wr.iterAt ki s (pos + 1))) := ⟨below_iterAt HBJ.out HLX.out.2 s (pos + 1)⟩
              generalize (s[pos]).toNat = bn at hb hnext HTK
              generalize (s.data.toList.take pos).any (fun b => b.toNat - 65 == 1) = tk at HTK ⊢
              clear hlt HK HRJ HFJ HBJ
              generalize hwi : wr.iterAt ki s (pos + 1) = wi at hnext HKi HRi HFi HBi
              clear hwi
              have h3 : bn = 65 ∨ bn = 66 ∨ bn = 67 := by omega
              clear hb
              rcases h3 with rfl | rfl | rfl <;> cases tk
              · go_wp2_with fail
                go_roundg (s.size + 1 - (pos + 1))
                case measure => have := HPQ.out; have := HLT.out; omega
                case rel => exact ⟨pos + 1, by first | rfl | (rw [HTK.out]; rfl) | (rw [HTK.out]; simp) | simp [HTK.out], ⟨by have := HLT.out; omega, rfl⟩, HKi, HRi, HFi, HBi⟩
              · go_wp2_with fail
                go_roundg (s.size + 1 - (pos + 1))
                case measure => have := HPQ.out; have := HLT.out; omega
                case rel => exact ⟨pos + 1, by first | rfl | (rw [HTK.out]; rfl) | (rw [HTK.out]; simp) | simp [HTK.out], ⟨by have := HLT.out; omega, rfl⟩, HKi, HRi, HFi, HBi⟩
              · go_wp2_with fail
                go_roundg (s.size + 1 - (pos + 1))
                case measure => have := HPQ.out; have := HLT.out; omega
                case rel => exact ⟨pos + 1, by first | rfl | (rw [HTK.out]; rfl) | (rw [HTK.out]; simp) | simp [HTK.out], ⟨by have := HLT.out; omega, rfl⟩, HKi, HRi, HFi, HBi⟩
              · go_wp2_with fail
                go_roundg (s.size + 1 - (pos + 1))
                case measure => have := HPQ.out; have := HLT.out; omega
                case rel => exact ⟨pos + 1, by first | rfl | (rw [HTK.out]; rfl) | (rw [HTK.out]; simp) | simp [HTK.out], ⟨by have := HLT.out; omega, rfl⟩, HKi, HRi, HFi, HBi⟩
              · go_wp2_with fail
                go_roundg (s.size + 1 - (pos + 1))
                case measure => have := HPQ.out; have := HLT.out; omega
                case rel => exact ⟨pos + 1, by first | rfl | (rw [HTK.out]; rfl) | (rw [HTK.out]; simp) | simp [HTK.out], ⟨by have := HLT.out; omega, rfl⟩, HKi, HRi, HFi, HBi⟩
              · go_wp2_with fail
                go_roundg (s.size + 1 - (pos + 1))
                case measure => have := HPQ.out; have := HLT.out; omega
                case rel => exact ⟨pos + 1, by first | rfl | (rw [HTK.out]; rfl) | (rw [HTK.out]; simp) | simp [HTK.out], ⟨by have := HLT.out; omega, rfl⟩, HKi, HRi, HFi, HBi⟩
            · have e_ : pos = s.size := by have := HPQ.out; omega
              subst e_
              have hnext := run_next_end_at (P := Try.prog) wr ki s s.size 0 HK.out (by omega)
              have hus : usedB s false false 1 = (false || (s.data.toList.take s.size).any (fun b => b.toNat - 65 == 1)) := by
                unfold usedB readsB
                rw [List.take_of_length_le (by rw [Array.length_toList]; exact Nat.le_refl _)]
                simp
              have HSU := Aside0.mk (idleTo_succ s false false x 1)
              rw [← hus]
              generalize usedB s false false 1 = us at HSU ⊢
              clear hlt hus
              generalize hzs : idleTo s false false x 1 = zs at HSU HRJ HZL ⊢
              clear hzs
              have HRN := Aside0.mk (Kd.R_mono (ok' := fun k => k ≠ bx) HRJ.out (fun k hk => hk.1))
              have HLW : Aside0 (bx < wr.heap.size) := ⟨blk_lt HFJ.out⟩
              cases us with
              | true =>
                go_wp2_with fail
                go_roundg (3 - (1 + 1))
                case measure => have := HIQ.out; omega
                case rel => exact ⟨2, rfl, ⟨by omega, rfl⟩, ⟨by rw [HSU.out]; first | (rw [if_pos rfl, List.append_nil]; exact HRN.out) | (simp only [if_true, List.append_nil]; exact HRN.out)⟩, HFJ, HBJ⟩
              | false =>
                go_wp2_with (first | ((with_reducible refine gate_builtin (b := .append) (xs := #[.tmp 52, .tmp 54]) rfl ?_); refine Kd.R_append (Kd.int .i64) (w0 := w) w.heap.size rfl (.tmp 52) (.tmp 54) 40 3 (.int .i64 0) 8 rfl HU info_i rfl (by decide) (by decide) (.slice A5 zs.length c5) zs (x.f2) [.int .i64 (x.f2)] (fun k => k ≠ bx) (fun _ => False) rfl rfl rfl (fun _ hk => hk.elim) ?hfr HRN.out HBJ.out ?hbs ?hl ?_; (case hfr => exact fun k hk => by have := HLW.out; omega); (case hbs => exact HBJ.out.size); (case hl => have h_ := HZL.out; omega); intro v6 w6 ho hb hg hat; have HR6 := Aside0.mk ho; have HB6 := Aside0.mk hb; have HG6 := Aside0.mk hg; clear ho hb hg hat))
                go_roundg (3 - (1 + 1))
                case measure => have := HIQ.out; omega
                case rel => exact ⟨2, rfl, ⟨by omega, rfl⟩, ⟨by rw [HSU.out]; first | (rw [if_neg (by decide)]; exact HR6.out) | (simp only [if_false]; exact HR6.out) | (simp only [Bool.false_eq_true, if_false]; exact HR6.out)⟩, ⟨blk_grown HFJ.out HG6.out (by intro e_; exact (HRN.out.1 bx e_.symm) rfl)⟩, HB6⟩
    · have hdec : decide (((2 : Nat) : Int) < 3) = true := by decide
      have hdec2 : decide ((2 : Int) < 3) = true := by decide
      cases r2 with
      | true =>
        cases r5 with
        | true =>
          go_wp2_with fail
          have hki := World.iter_heap wr s 0
          have hbi : Below wr.heap.size wr (wr.iter s 0) := below_alloc (Below.refl _ _) _
          have HKI := Aside0.mk hki
          have HFI := Aside0.mk (blk_below HF.out hbi)
          have HBI := Aside0.mk (below_step HBW.out hbi)
          have HRI := Aside0.mk (Kd.R_below (Kd.R_mono (ok' := fun k => k ≠ bx ∧ k < wr.heap.size) (Kd.R_bound HR.out) (fun k hk => ⟨hk.1, hk.2.2.1⟩)) hbi)
          have HLX : Aside0 (bx < wr.heap.size ∧ w.heap.size ≤ wr.heap.size) := ⟨⟨blk_lt HF.out, HBW.out.size⟩⟩
          clear hki hbi HR HF HBW f0 f1 f4
          generalize wr.iter s 0 = wj at HKI HFI HBI HRI ⊢
          generalize wr.heap.size = ki at HKI HRI HLX ⊢
          go_loopg [8] (s.size + 1) (fun kq v8 W => ∃ pos : Nat, v8 = .bool (false || (s.data.toList.take pos).any (fun b => b.toNat - 65 == 2)) ∧ Aside0 (pos ≤ s.size ∧ kq = s.size + 1 - pos) ∧ Aside0 (W.heap[ki]? = some (.stringIter s pos)) ∧ Aside0 (Kd.R (Kd.int .i64) 3 W w.heap.size (fun k => k ≠ bx ∧ k < ki) (.slice A5 (idleTo s true true x 2).length c5) (idleTo s true true x 2)) ∧ Aside0 (W.heap[bx]? = some (.cells #[.string s, .bool true, .int .i64 r3, .int .i64 r4, .bool true, .bool r6, .int .i64 r7] 79 (0, 0))) ∧ Aside0 (Below w.heap.size w W))
          case atStart => exact ⟨0, by first | rfl | simp, ⟨Nat.zero_le _, by omega⟩, HKI, HRI, HFI, HBI⟩
          case round =>
            clear HKI HFI HBI HRI
            obtain ⟨pos, rfl, HPQ, HK, HRJ, HFJ, HBJ⟩ := hrel
            by_cases hlt : pos < s.size
            · have hb := HBY.out.2 (s[pos]) (by
                show s[pos] ∈ s.data.toList
                exact Array.mem_def.1 (Array.getElem_mem hlt))
              have hnext := run_next_ascii_at (P := Try.prog) wr ki s pos 0 HK.out hlt (by omega)
              have HTK : Aside0 ((s.data.toList.take (pos + 1)).any (fun b => b.toNat - 65 == 2) = ((s.data.toList.take pos).any (fun b => b.toNat - 65 == 2) || ((s[pos]).toNat - 65 == 2))) := ⟨by
                have hl2 : pos < s.data.toList.length := by rw [Array.length_toList]; exact hlt
                rw [List.take_succ_eq_append_getElem hl2, List.any_append]
                simp
                rfl⟩
              have HLT := Aside0.mk hlt
              have HKi : Aside0 ((wr.iterAt ki s (pos + 1)).heap[ki]? = some (.stringIter s (pos + 1))) := ⟨iterAt_heap wr ki s pos (pos + 1) HK.out⟩
              have HFi := Aside0.mk ((iterAt_other wr ki bx s (pos + 1) (by have := HLX.out; omega)).trans HFJ.out)
              have HRi := Aside0.mk (Kd.R_step HRJ.out (fun k hk _ => iterAt_other wr ki k s (pos + 1) (by have := hk.2; omega)))
              have HBi : Aside0 (Below w.heap.size w (wr.iterAt ki s (pos + 1))) := ⟨below_iterAt HBJ.out HLX.out.2 s (pos + 1)⟩
              generalize (s[pos]).toNat = bn at hb hnext HTK
              generalize (s.data.toList.take pos).any (fun b => b.toNat - 65 == 2) = tk at HTK ⊢
              clear hlt HK HRJ HFJ HBJ
              generalize hwi : wr.iterAt ki s (pos + 1) = wi at hnext HKi HRi HFi HBi
              clear hwi
              have h3 : bn = 65 ∨ bn = 66 ∨ bn = 67 := by omega
              clear hb
              rcases h3 with rfl | rfl | rfl <;> cases tk
              · go_wp2_with fail
                go_roundg (s.size + 1 - (pos + 1))
                case measure => have := HPQ.out; have := HLT.out; omega
                case rel => exact ⟨pos + 1, by first | rfl | (rw [HTK.out]; rfl) | (rw [HTK.out]; simp) | simp [HTK.out], ⟨by have := HLT.out; omega, rfl⟩, HKi, HRi, HFi, HBi⟩
              · go_wp2_with fail
                go_roundg (s.size + 1 - (pos + 1))
                case measure => have := HPQ.out; have := HLT.out; omega
                case rel => exact ⟨pos + 1, by first | rfl | (rw [HTK.out]; rfl) | (rw [HTK.out]; simp) | simp [HTK.out], ⟨by have := HLT.out; omega, rfl⟩, HKi, HRi, HFi, HBi⟩
              · go_wp2_with fail
                go_roundg (s.size + 1 - (pos + 1))
                case measure => have := HPQ.out; have := HLT.out; omega
                case rel => exact ⟨pos + 1, by first | rfl | (rw [HTK.out]; rfl) | (rw [HTK.out]; simp) | simp [HTK.out], ⟨by have := HLT.out; omega, rfl⟩, HKi, HRi, HFi, HBi⟩
              · go_wp2_with fail
                go_roundg (s.size + 1 - (pos + 1))
                case measure => have := HPQ.out; have := HLT.out; omega
                case rel => exact ⟨pos + 1, by first | rfl | (rw [HTK.out]; rfl) | (rw [HTK.out]; simp) | simp [HTK.out], ⟨by have := HLT.out; omega, rfl⟩, HKi, HRi, HFi, HBi⟩
              · go_wp2_with fail
                go_roundg (s.size + 1 - (pos + 1))
                case measure => have := HPQ.out; have := HLT.out; omega
                case rel => exact ⟨pos + 1, by first | rfl | (rw [HTK.out]; rfl) | (rw [HTK.out]; simp) | simp [HTK.out], ⟨by have := HLT.out; omega, rfl⟩, HKi, HRi, HFi, HBi⟩
              · go_wp2_with fail
                go_roundg (s.size + 1 - (pos + 1))
                case measure => have := HPQ.out; have := HLT.out; omega
                case rel => exact ⟨pos + 1, by first | rfl | (rw [HTK.out]; rfl) | (rw [HTK.out]; simp) | simp [HTK.out], ⟨by have := HLT.out; omega, rfl⟩, HKi, HRi, HFi, HBi⟩
            · have e_ : pos = s.size := by have := HPQ.out; omega
              subst e_
              have hnext := run_next_end_at (P := Try.prog) wr ki s s.size 0 HK.out (by omega)
              have hus : usedB s true true 2 = (false || (s.data.toList.take s.size).any (fun b => b.toNat - 65 == 2)) := by
                unfold usedB readsB
                rw [List.take_of_length_le (by rw [Array.length_toList]; exact Nat.le_refl _)]
                simp
              have HSU := Aside0.mk (idleTo_succ s true true x 2)
              rw [← hus]
              generalize usedB s true true 2 = us at HSU ⊢
              clear hlt hus
              generalize hzs : idleTo s true true x 2 = zs at HSU HRJ HZL ⊢
              clear hzs
              have HRN := Aside0.mk (Kd.R_mono (ok' := fun k => k ≠ bx) HRJ.out (fun k hk => hk.1))
              have HLW : Aside0 (bx < wr.heap.size) := ⟨blk_lt HFJ.out⟩
              cases us with
              | true =>
                go_wp2_with fail
                go_roundg (3 - (2 + 1))
                case measure => have := HIQ.out; omega
                case rel => exact ⟨3, rfl, ⟨by omega, rfl⟩, ⟨by rw [HSU.out]; first | (rw [if_pos rfl, List.append_nil]; exact HRN.out) | (simp only [if_true, List.append_nil]; exact HRN.out)⟩, HFJ, HBJ⟩
              | false =>
                go_wp2_with (first | ((with_reducible refine gate_builtin (b := .append) (xs := #[.tmp 52, .tmp 54]) rfl ?_); refine Kd.R_append (Kd.int .i64) (w0 := w) w.heap.size rfl (.tmp 52) (.tmp 54) 40 3 (.int .i64 0) 8 rfl HU info_i rfl (by decide) (by decide) (.slice A5 zs.length c5) zs (x.f3) [.int .i64 (x.f3)] (fun k => k ≠ bx) (fun _ => False) rfl rfl rfl (fun _ hk => hk.elim) ?hfr HRN.out HBJ.out ?hbs ?hl ?_; (case hfr => exact fun k hk => by have := HLW.out; omega); (case hbs => exact HBJ.out.size); (case hl => have h_ := HZL.out; omega); intro v6 w6 ho hb hg hat; have HR6 := Aside0.mk ho; have HB6 := Aside0.mk hb; have HG6 := Aside0.mk hg; clear ho hb hg hat))
                go_roundg (3 - (2 + 1))
                case measure => have := HIQ.out; omega
                case rel => exact ⟨3, rfl, ⟨by omega, rfl⟩, ⟨by rw [HSU.out]; first | (rw [if_neg (by decide)]; exact HR6.out) | (simp only [if_false]; exact HR6.out) | (simp only [Bool.false_eq_true, if_false]; exact HR6.out)⟩, ⟨blk_grown HFJ.out HG6.out (by intro e_; exact (HRN.out.1 bx e_.symm) rfl)⟩, HB6⟩
        | false =>
          go_wp2_with fail
          have hki := World.iter_heap wr s 0
          have hbi : Below wr.heap.size wr (wr.iter s 0) := below_alloc (Below.refl _ _) _
          have HKI := Aside0.mk hki
          have HFI := Aside0.mk (blk_below HF.out hbi)
          have HBI := Aside0.mk (below_step HBW.out hbi)
          have HRI := Aside0.mk (Kd.R_below (Kd.R_mono (ok' := fun k => k ≠ bx ∧ k < wr.heap.size) (Kd.R_bound HR.out) (fun k hk => ⟨hk.1, hk.2.2.1⟩)) hbi)
          have HLX : Aside0 (bx < wr.heap.size ∧ w.heap.size ≤ wr.heap.size) := ⟨⟨blk_lt HF.out, HBW.out.size⟩⟩
          clear hki hbi HR HF HBW f0 f1 f4
          generalize wr.iter s 0 = wj at HKI HFI HBI HRI ⊢
          generalize wr.heap.size = ki at HKI HRI HLX ⊢
          go_loopg [8] (s.size + 1) (fun kq v8 W => ∃ pos : Nat, v8 = .bool (false || (s.data.toList.take pos).any (fun b => b.toNat - 65 == 2)) ∧ Aside0 (pos ≤ s.size ∧ kq = s.size + 1 - pos) ∧ Aside0 (W.heap[ki]? = some (.stringIter s pos)) ∧ Aside0 (Kd.R (Kd.int .i64) 3 W w.heap.size (fun k => k ≠ bx ∧ k < ki) (.slice A5 (idleTo s true false x 2).length c5) (idleTo s true false x 2)) ∧ Aside0 (W.heap[bx]? = some (.cells #[.string s, .bool true, .int .i64 r3, .int .i64 r4, .bool false, .bool r6, .int .i64 r7] 79 (0, 0))) ∧ Aside0 (Below w.heap.size w W))
          case atStart => exact ⟨0, by first | rfl | simp, ⟨Nat.zero_le _, by omega⟩, HKI, HRI, HFI, HBI⟩
          case round =>
            clear HKI HFI HBI HRI
            obtain ⟨pos, rfl, HPQ, HK, HRJ, HFJ, HBJ⟩ := hrel
            by_cases hlt : pos < s.size
            · have hb := HBY.out.2 (s[pos]) (by
                show s[pos] ∈ s.data.toList
                exact Array.mem_def.1 (Array.getElem_mem hlt))
              have hnext := run_next_ascii_at (P := Try.prog) wr ki s pos 0 HK.out hlt (by omega)
              have HTK : Aside0 ((s.data.toList.take (pos + 1)).any (fun b => b.toNat - 65 == 2) = ((s.data.toList.take pos).any (fun b => b.toNat - 65 == 2) || ((s[pos]).toNat - 65 == 2))) := ⟨by
                have hl2 : pos < s.data.toList.length := by rw [Array.length_toList]; exact hlt
                rw [List.take_succ_eq_append_getElem hl2, List.any_append]
                simp
                rfl⟩
              have HLT := Aside0.mk hlt
              have HKi : Aside0 ((wr.iterAt ki s (pos + 1)).heap[ki]? = some (.stringIter s (pos + 1))) := ⟨iterAt_heap wr ki s pos (pos + 1) HK.out⟩
              have HFi := Aside0.mk ((iterAt_other wr ki bx s (pos + 1) (by have := HLX.out; omega)).trans HFJ.out)
              have HRi := Aside0.mk (Kd.R_step HRJ.out (fun k hk _ => iterAt_other wr ki k s (pos + 1) (by have := hk.2; omega)))
              have HBi : Aside0 (Below w.heap.size w (wr.iterAt ki s (pos + 1))) := ⟨below_iterAt HBJ.out HLX.out.2 s (pos + 1)⟩
              generalize (s[pos]).toNat = bn at hb hnext HTK
              generalize (s.data.toList.take pos).any (fun b => b.toNat - 65 == 2) = tk at HTK ⊢
              clear hlt HK HRJ HFJ HBJ
              generalize hwi : wr.iterAt ki s (pos + 1) = wi at hnext HKi HRi HFi HBi
              clear hwi
              have h3 : bn = 65 ∨ bn = 66 ∨ bn = 67 := by omega
              clear hb
              rcases h3 with rfl | rfl | rfl <;> cases tk
              · go_wp2_with fail
                go_roundg (s.size + 1 - (pos + 1))
                case measure => have := HPQ.out; have := HLT.out; omega
                case rel => exact ⟨pos + 1, by first | rfl | (rw [HTK.out]; rfl) | (rw [HTK.out]; simp) | simp [HTK.out], ⟨by have := HLT.out; omega, rfl⟩, HKi, HRi, HFi, HBi⟩
              · go_wp2_with fail
                go_roundg (s.size + 1 - (pos + 1))
                case measure => have := HPQ.out; have := HLT.out; omega
                case rel => exact ⟨pos + 1, by first | rfl | (rw [HTK.out]; rfl) | (rw [HTK.out]; simp) | simp [HTK.out], ⟨by have := HLT.out; omega, rfl⟩, HKi, HRi, HFi, HBi⟩
              · go_wp2_with fail
                go_roundg (s.size + 1 - (pos + 1))
                case measure => have := HPQ.out; have := HLT.out; omega
                case rel => exact ⟨pos + 1, by first | rfl | (rw [HTK.out]; rfl) | (rw [HTK.out]; simp) | simp [HTK.out], ⟨by have := HLT.out; omega, rfl⟩, HKi, HRi, HFi, HBi⟩
              · go_wp2_with fail
                go_roundg (s.size + 1 - (pos + 1))
                case measure => have := HPQ.out; have := HLT.out; omega
                case rel => exact ⟨pos + 1, by first | rfl | (rw [HTK.out]; rfl) | (rw [HTK.out]; simp) | simp [HTK.out], ⟨by have := HLT.out; omega, rfl⟩, HKi, HRi, HFi, HBi⟩
              · go_wp2_with fail
                go_roundg (s.size + 1 - (pos + 1))
                case measure => have := HPQ.out; have := HLT.out; omega
                case rel => exact ⟨pos + 1, by first | rfl | (rw [HTK.out]; rfl) | (rw [HTK.out]; simp) | simp [HTK.out], ⟨by have := HLT.out; omega, rfl⟩, HKi, HRi, HFi, HBi⟩
              · go_wp2_with fail
                go_roundg (s.size + 1 - (pos + 1))
                case measure => have := HPQ.out; have := HLT.out; omega
                case rel => exact ⟨pos + 1, by first | rfl | (rw [HTK.out]; rfl) | (rw [HTK.out]; simp) | simp [HTK.out], ⟨by have := HLT.out; omega, rfl⟩, HKi, HRi, HFi, HBi⟩
            · have e_ : pos = s.size := by have := HPQ.out; omega
              subst e_
              have hnext := run_next_end_at (P := Try.prog) wr ki s s.size 0 HK.out (by omega)
              have hus : usedB s true false 2 = (false || (s.data.toList.take s.size).any (fun b => b.toNat - 65 == 2)) := by
                unfold usedB readsB
                rw [List.take_of_length_le (by rw [Array.length_toList]; exact Nat.le_refl _)]
                simp
              have HSU := Aside0.mk (idleTo_succ s true false x 2)
              rw [← hus]
              generalize usedB s true false 2 = us at HSU ⊢
              clear hlt hus
              generalize hzs : idleTo s true false x 2 = zs at HSU HRJ HZL ⊢
              clear hzs
              have HRN := Aside0.mk (Kd.R_mono (ok' := fun k => k ≠ bx) HRJ.out (fun k hk => hk.1))
              have HLW : Aside0 (bx < wr.heap.size) := ⟨blk_lt HFJ.out⟩
              cases us with
              | true =>
                go_wp2_with fail
                go_roundg (3 - (2 + 1))
                case measure => have := HIQ.out; omega
                case rel => exact ⟨3, rfl, ⟨by omega, rfl⟩, ⟨by rw [HSU.out]; first | (rw [if_pos rfl, List.append_nil]; exact HRN.out) | (simp only [if_true, List.append_nil]; exact HRN.out)⟩, HFJ, HBJ⟩
              | false =>
                go_wp2_with (first | ((with_reducible refine gate_builtin (b := .append) (xs := #[.tmp 52, .tmp 54]) rfl ?_); refine Kd.R_append (Kd.int .i64) (w0 := w) w.heap.size rfl (.tmp 52) (.tmp 54) 40 3 (.int .i64 0) 8 rfl HU info_i rfl (by decide) (by decide) (.slice A5 zs.length c5) zs (x.f3) [.int .i64 (x.f3)] (fun k => k ≠ bx) (fun _ => False) rfl rfl rfl (fun _ hk => hk.elim) ?hfr HRN.out HBJ.out ?hbs ?hl ?_; (case hfr => exact fun k hk => by have := HLW.out; omega); (case hbs => exact HBJ.out.size); (case hl => have h_ := HZL.out; omega); intro v6 w6 ho hb hg hat; have HR6 := Aside0.mk ho; have HB6 := Aside0.mk hb; have HG6 := Aside0.mk hg; clear ho hb hg hat))
                go_roundg (3 - (2 + 1))
                case measure => have := HIQ.out; omega
                case rel => exact ⟨3, rfl, ⟨by omega, rfl⟩, ⟨by rw [HSU.out]; first | (rw [if_neg (by decide)]; exact HR6.out) | (simp only [if_false]; exact HR6.out) | (simp only [Bool.false_eq_true, if_false]; exact HR6.out)⟩, ⟨blk_grown HFJ.out HG6.out (by intro e_; exact (HRN.out.1 bx e_.symm) rfl)⟩, HB6⟩
      | false =>
        cases r5 with
        | true =>
          go_wp2_with fail
          have hki := World.iter_heap wr s 0
          have hbi : Below wr.heap.size wr (wr.iter s 0) := below_alloc (Below.refl _ _) _
          have HKI := Aside0.mk hki
          have HFI := Aside0.mk (blk_below HF.out hbi)
          have HBI := Aside0.mk (below_step HBW.out hbi)
          have HRI := Aside0.mk (Kd.R_below (Kd.R_mono (ok' := fun k => k ≠ bx ∧ k < wr.heap.size) (Kd.R_bound HR.out) (fun k hk => ⟨hk.1, hk.2.2.1⟩)) hbi)
          have HLX : Aside0 (bx < wr.heap.size ∧ w.heap.size ≤ wr.heap.size) := ⟨⟨blk_lt HF.out, HBW.out.size⟩⟩
          clear hki hbi HR HF HBW f0 f1 f4
          generalize wr.iter s 0 = wj at HKI HFI HBI HRI ⊢
          generalize wr.heap.size = ki at HKI HRI HLX ⊢
          go_loopg [8] (s.size + 1) (fun kq v8 W => ∃ pos : Nat, v8 = .bool (false || (s.data.toList.take pos).any (fun b => b.toNat - 65 == 2)) ∧ Aside0 (pos ≤ s.size ∧ kq = s.size + 1 - pos) ∧ Aside0 (W.heap[ki]? = some (.stringIter s pos)) ∧ Aside0 (Kd.R (Kd.int .i64) 3 W w.heap.size (fun k => k ≠ bx ∧ k < ki) (.slice A5 (idleTo s false true x 2).length c5) (idleTo s false true x 2)) ∧ Aside0 (W.heap[bx]? = some (.cells #[.string s, .bool false, .int .i64 r3, .int .i64 r4, .bool true, .bool r6, .int .i64 r7] 79 (0, 0))) ∧ Aside0 (Below w.heap.size w W))
          case atStart => exact ⟨0, by first | rfl | simp, ⟨Nat.zero_le _, by omega⟩, HKI, HRI, HFI, HBI⟩
          case round =>
            clear HKI HFI HBI HRI
            obtain ⟨pos, rfl, HPQ, HK, HRJ, HFJ, HBJ⟩ := hrel
            by_cases hlt : pos < s.size
            · have hb := HBY.out.2 (s[pos]) (by
                show s[pos] ∈ s.data.toList
                exact Array.mem_def.1 (Array.getElem_mem hlt))
              have hnext := run_next_ascii_at (P := Try.prog) wr ki s pos 0 HK.out hlt (by omega)
              have HTK : Aside0 ((s.data.toList.take (pos + 1)).any (fun b => b.toNat - 65 == 2) = ((s.data.toList.take pos).any (fun b => b.toNat - 65 == 2) || ((s[pos]).toNat - 65 == 2))) := ⟨by
                have hl2 : pos < s.data.toList.length := by rw [Array.length_toList]; exact hlt
                rw [List.take_succ_eq_append_getElem hl2, List.any_append]
                simp
                rfl⟩
              have HLT := Aside0.mk hlt
              have HKi : Aside0 ((wr.iterAt ki s (pos + 1)).heap[ki]? = some (.stringIter s (pos + 1))) := ⟨iterAt_heap wr ki s pos (pos + 1) HK.out⟩
              have HFi := Aside0.mk ((iterAt_other wr ki bx s (pos + 1) (by have := HLX.out; omega)).trans HFJ.out)
              have HRi := Aside0.mk (Kd.R_step HRJ.out (fun k hk _ => iterAt_other wr ki k s (pos + 1) (by have := hk.2; omega)))
              have HBi : Aside0 (Below w.heap.size w (wr.iterAt ki s (pos + 1))) := ⟨below_iterAt HBJ.out HLX.out.2 s (pos + 1)⟩
              generalize (s[pos]).toNat = bn at hb hnext HTK
              generalize (s.data.toList.take pos).any (fun b => b.toNat - 65 == 2) = tk at HTK ⊢
              clear hlt HK HRJ HFJ HBJ
              generalize hwi : wr.iterAt ki s (pos + 1) = wi at hnext HKi HRi HFi HBi
              clear hwi
              have h3 : bn = 65 ∨ bn = 66 ∨ bn = 67 := by omega
              clear hb
              rcases h3 with rfl | rfl | rfl <;> cases tk
              · go_wp2_with fail
                go_roundg (s.size + 1 - (pos + 1))
                case measure => have := HPQ.out; have := HLT.out; omega
                case rel => exact ⟨pos + 1, by first | rfl | (rw [HTK.out]; rfl) | (rw [HTK.out]; simp) | simp [HTK.out], ⟨by have := HLT.out; omega, rfl⟩, HKi, HRi, HFi, HBi⟩
              · go_wp2_with fail
                go_roundg (s.size + 1 - (pos + 1))
                case measure => have := HPQ.out; have := HLT.out; omega
                case rel => exact ⟨pos + 1, by first | rfl | (rw [HTK.out]; rfl) | (rw [HTK.out]; simp) | simp [HTK.out], ⟨by have := HLT.out; omega, rfl⟩, HKi, HRi, HFi, HBi⟩
              · go_wp2_with fail
                go_roundg (s.size + 1 - (pos + 1))
                case measure => have := HPQ.out; have := HLT.out; omega
                case rel => exact ⟨pos + 1, by first | rfl | (rw [HTK.out]; rfl) | (rw [HTK.out]; simp) | simp [HTK.out], ⟨by have := HLT.out; omega, rfl⟩, HKi, HRi, HFi, HBi⟩
              · go_wp2_with fail
                go_roundg (s.size + 1 - (pos + 1))
                case measure => have := HPQ.out; have := HLT.out; omega
                case rel => exact ⟨pos + 1, by first | rfl | (rw [HTK.out]; rfl) | (rw [HTK.out]; simp) | simp [HTK.out], ⟨by have := HLT.out; omega, rfl⟩, HKi, HRi, HFi, HBi⟩
              · go_wp2_with fail
                go_roundg (s.size + 1 - (pos + 1))
                case measure => have := HPQ.out; have := HLT.out; omega
                case rel => exact ⟨pos + 1, by first | rfl | (rw [HTK.out]; rfl) | (rw [HTK.out]; simp) | simp [HTK.out], ⟨by have := HLT.out; omega, rfl⟩, HKi, HRi, HFi, HBi⟩
              · go_wp2_with fail
                go_roundg (s.size + 1 - (pos + 1))
                case measure => have := HPQ.out; have := HLT.out; omega
                case rel => exact ⟨pos + 1, by first | rfl | (rw [HTK.out]; rfl) | (rw [HTK.out]; simp) | simp [HTK.out], ⟨by have := HLT.out; omega, rfl⟩, HKi, HRi, HFi, HBi⟩
            · have e_ : pos = s.size := by have := HPQ.out; omega
              subst e_
              have hnext := run_next_end_at (P := Try.prog) wr ki s s.size 0 HK.out (by omega)
              have hus : usedB s false true 2 = (false || (s.data.toList.take s.size).any (fun b => b.toNat - 65 == 2)) := by
                unfold usedB readsB
                rw [List.take_of_length_le (by rw [Array.length_toList]; exact Nat.le_refl _)]
                simp
              have HSU := Aside0.mk (idleTo_succ s false true x 2)
              rw [← hus]
              generalize usedB s false true 2 = us at HSU ⊢
              clear hlt hus
              generalize hzs : idleTo s false true x 2 = zs at HSU HRJ HZL ⊢
              clear hzs
              have HRN := Aside0.mk (Kd.R_mono (ok' := fun k => k ≠ bx) HRJ.out (fun k hk => hk.1))
              have HLW : Aside0 (bx < wr.heap.size) := ⟨blk_lt HFJ.out⟩
              cases us with
              | true =>
                go_wp2_with fail
                go_roundg (3 - (2 + 1))
                case measure => have := HIQ.out; omega
                case rel => exact ⟨3, rfl, ⟨by omega, rfl⟩, ⟨by rw [HSU.out]; first | (rw [if_pos rfl, List.append_nil]; exact HRN.out) | (simp only [if_true, List.append_nil]; exact HRN.out)⟩, HFJ, HBJ⟩
              | false =>
                go_wp2_with (first | ((with_reducible refine gate_builtin (b := .append) (xs := #[.tmp 52, .tmp 54]) rfl ?_); refine Kd.R_append (Kd.int .i64) (w0 := w) w.heap.size rfl (.tmp 52) (.tmp 54) 40 3 (.int .i64 0) 8 rfl HU info_i rfl (by decide) (by decide) (.slice A5 zs.length c5) zs (x.f3) [.int .i64 (x.f3)] (fun k => k ≠ bx) (fun _ => False) rfl rfl rfl (fun _ hk => hk.elim) ?hfr HRN.out HBJ.out ?hbs ?hl ?_; (case hfr => exact fun k hk => by have := HLW.out; omega); (case hbs => exact HBJ.out.size); (case hl => have h_ := HZL.out; omega); intro v6 w6 ho hb hg hat; have HR6 := Aside0.mk ho; have HB6 := Aside0.mk hb; have HG6 := Aside0.mk hg; clear ho hb hg hat))
                go_roundg (3 - (2 + 1))
                case measure => have := HIQ.out; omega
                case rel => exact ⟨3, rfl, ⟨by omega, rfl⟩, ⟨by rw [HSU.out]; first | (rw [if_neg (by decide)]; exact HR6.out) | (simp only [if_false]; exact HR6.out) | (simp only [Bool.false_eq_true, if_false]; exact HR6.out)⟩, ⟨blk_grown HFJ.out HG6.out (by intro e_; exact (HRN.out.1 bx e_.symm) rfl)⟩, HB6⟩
        | false =>
          go_wp2_with fail
          have hki := World.iter_heap wr s 0
          have hbi : Below wr.heap.size wr (wr.iter s 0) := below_alloc (Below.refl _ _) _
          have HKI := Aside0.mk hki
          have HFI := Aside0.mk (blk_below HF.out hbi)
          have HBI := Aside0.mk (below_step HBW.out hbi)
          have HRI := Aside0.mk (Kd.R_below (Kd.R_mono (ok' := fun k => k ≠ bx ∧ k < wr.heap.size) (Kd.R_bound HR.out) (fun k hk => ⟨hk.1, hk.2.2.1⟩)) hbi)
          have HLX : Aside0 (bx < wr.heap.size ∧ w.heap.size ≤ wr.heap.size) := ⟨⟨blk_lt HF.out, HBW.out.size⟩⟩
          clear hki hbi HR HF HBW f0 f1 f4
          generalize wr.iter s 0 = wj at HKI HFI HBI HRI ⊢
          generalize wr.heap.size = ki at HKI HRI HLX ⊢
          go_loopg [8] (s.size + 1) (fun kq v8 W => ∃ pos : Nat, v8 = .bool (false || (s.data.toList.take pos).any (fun b => b.toNat - 65 == 2)) ∧ Aside0 (pos ≤ s.size ∧ kq = s.size + 1 - pos) ∧ Aside0 (W.heap[ki]? = some (.stringIter s pos)) ∧ Aside0 (Kd.R (Kd.int .i64) 3 W w.heap.size (fun k => k ≠ bx ∧ k < ki) (.slice A5 (idleTo s false false x 2).length c5) (idleTo s false false x 2)) ∧ Aside0 (W.heap[bx]? = some (.cells #[.string s, .bool false, .int .i64 r3, .int .i64 r4, .bool false, .bool r6, .int .i64 r7] 79 (0, 0))) ∧ Aside0 (Below w.heap.size w W))
          case atStart => exact ⟨0, by first | rfl | simp, ⟨Nat.zero_le _, by omega⟩, HKI, HRI, HFI, HBI⟩
          case round =>
            clear HKI HFI HBI HRI
            obtain ⟨pos, rfl, HPQ, HK, HRJ, HFJ, HBJ⟩ := hrel
            by_cases hlt : pos < s.size
            · have hb := HBY.out.2 (s[pos]) (by
                show s[pos] ∈ s.data.toList
                exact Array.mem_def.1 (Array.getElem_mem hlt))
              have hnext := run_next_ascii_at (P := Try.prog) wr ki s pos 0 HK.out hlt (by omega)
              have HTK : Aside0 ((s.data.toList.take (pos + 1)).any (fun b => b.toNat - 65 == 2) = ((s.data.toList.take pos).any (fun b => b.toNat - 65 == 2) || ((s[pos]).toNat - 65 == 2))) := ⟨by
                have hl2 : pos < s.data.toList.length := by rw [Array.length_toList]; exact hlt
                rw [List.take_succ_eq_append_getElem hl2, List.any_append]
                simp
                rfl⟩
              have HLT := Aside0.mk hlt
              have HKi : Aside0 ((wr.iterAt ki s (pos + 1)).heap[ki]? = some (.stringIter s (pos + 1))) := ⟨iterAt_heap wr ki s pos (pos + 1) HK.out⟩
              have HFi := Aside0.mk ((iterAt_other wr ki bx s (pos + 1) (by have := HLX.out; omega)).trans HFJ.out)
              have HRi := Aside0.mk (Kd.R_step HRJ.out (fun k hk _ => iterAt_other wr ki k s (pos + 1) (by have := hk.2; omega)))
              have HBi : Aside0 (Below w.heap.size w (wr.iterAt ki s (pos + 1))) := ⟨below_iterAt HBJ.out HLX.out.2 s (pos + 1)⟩
              generalize (s[pos]).toNat = bn at hb hnext HTK
              generalize (s.data.toList.take pos).any (fun b => b.toNat - 65 == 2) = tk at HTK ⊢
              clear hlt HK HRJ HFJ HBJ
              generalize hwi : wr.iterAt ki s (pos + 1) = wi at hnext HKi HRi HFi HBi
              clear hwi
              have h3 : bn = 65 ∨ bn = 66 ∨ bn = 67 := by omega
              clear hb
              rcases h3 with rfl | rfl | rfl <;> cases tk
              · go_wp2_with fail
                go_roundg (s.size + 1 - (pos + 1))
                case measure => have := HPQ.out; have := HLT.out; omega
                case rel => exact ⟨pos + 1, by first | rfl | (rw [HTK.out]; rfl) | (rw [HTK.out]; simp) | simp [HTK.out], ⟨by have := HLT.out; omega, rfl⟩, HKi, HRi, HFi, HBi⟩
              · go_wp2_with fail
                go_roundg (s.size + 1 - (pos + 1))
                case measure => have := HPQ.out; have := HLT.out; omega
                case rel => exact ⟨pos + 1, by first | rfl | (rw [HTK.out]; rfl) | (rw [HTK.out]; simp) | simp [HTK.out], ⟨by have := HLT.out; omega, rfl⟩, HKi, HRi, HFi, HBi⟩
              · go_wp2_with fail
                go_roundg (s.size + 1 - (pos + 1))
                case measure => have := HPQ.out; have := HLT.out; omega
                case rel => exact ⟨pos + 1, by first | rfl | (rw [HTK.out]; rfl) | (rw [HTK.out]; simp) | simp [HTK.out], ⟨by have := HLT.out; omega, rfl⟩, HKi, HRi, HFi, HBi⟩
              · go_wp2_with fail
                go_roundg (s.size + 1 - (pos + 1))
                case measure => have := HPQ.out; have := HLT.out; omega
                case rel => exact ⟨pos + 1, by first | rfl | (rw [HTK.out]; rfl) | (rw [HTK.out]; simp) | simp [HTK.out], ⟨by have := HLT.out; omega, rfl⟩, HKi, HRi, HFi, HBi⟩
              · go_wp2_with fail
                go_roundg (s.size + 1 - (pos + 1))
                case measure => have := HPQ.out; have := HLT.out; omega
                case rel => exact ⟨pos + 1, by first | rfl | (rw [HTK.out]; rfl) | (rw [HTK.out]; simp) | simp [HTK.out], ⟨by have := HLT.out; omega, rfl⟩, HKi, HRi, HFi, HBi⟩
              · go_wp2_with fail
                go_roundg (s.size + 1 - (pos + 1))
                case measure => have := HPQ.out; have := HLT.out; omega
                case rel => exact ⟨pos + 1, by first | rfl | (rw [HTK.out]; rfl) | (rw [HTK.out]; simp) | simp [HTK.out], ⟨by have := HLT.out; omega, rfl⟩, HKi, HRi, HFi, HBi⟩
            · have e_ : pos = s.size := by have := HPQ.out; omega
              subst e_
              have hnext := run_next_end_at (P := Try.prog) wr ki s s.size 0 HK.out (by omega)
              have hus : usedB s false false 2 = (false || (s.data.toList.take s.size).any (fun b => b.toNat - 65 == 2)) := by
                unfold usedB readsB
                rw [List.take_of_length_le (by rw [Array.length_toList]; exact Nat.le_refl _)]
                simp
              have HSU := Aside0.mk (idleTo_succ s false false x 2)
              rw [← hus]
              generalize usedB s false false 2 = us at HSU ⊢
              clear hlt hus
              generalize hzs : idleTo s false false x 2 = zs at HSU HRJ HZL ⊢
              clear hzs
              have HRN := Aside0.mk (Kd.R_mono (ok' := fun k => k ≠ bx) HRJ.out (fun k hk => hk.1))
              have HLW : Aside0 (bx < wr.heap.size) := ⟨blk_lt HFJ.out⟩
              cases us with
              | true =>
                go_wp2_with fail
                go_roundg (3 - (2 + 1))
                case measure => have := HIQ.out; omega
                case rel => exact ⟨3, rfl, ⟨by omega, rfl⟩, ⟨by rw [HSU.out]; first | (rw [if_pos rfl, List.append_nil]; exact HRN.out) | (simp only [if_true, List.append_nil]; exact HRN.out)⟩, HFJ, HBJ⟩
              | false =>
                go_wp2_with (first | ((with_reducible refine gate_builtin (b := .append) (xs := #[.tmp 52, .tmp 54]) rfl ?_); refine Kd.R_append (Kd.int .i64) (w0 := w) w.heap.size rfl (.tmp 52) (.tmp 54) 40 3 (.int .i64 0) 8 rfl HU info_i rfl (by decide) (by decide) (.slice A5 zs.length c5) zs (x.f3) [.int .i64 (x.f3)] (fun k => k ≠ bx) (fun _ => False) rfl rfl rfl (fun _ hk => hk.elim) ?hfr HRN.out HBJ.out ?hbs ?hl ?_; (case hfr => exact fun k hk => by have := HLW.out; omega); (case hbs => exact HBJ.out.size); (case hl => have h_ := HZL.out; omega); intro v6 w6 ho hb hg hat; have HR6 := Aside0.mk ho; have HB6 := Aside0.mk hb; have HG6 := Aside0.mk hg; clear ho hb hg hat))
                go_roundg (3 - (2 + 1))
                case measure => have := HIQ.out; omega
                case rel => exact ⟨3, rfl, ⟨by omega, rfl⟩, ⟨by rw [HSU.out]; first | (rw [if_neg (by decide)]; exact HR6.out) | (simp only [if_false]; exact HR6.out) | (simp only [Bool.false_eq_true, if_false]; exact HR6.out)⟩, ⟨blk_grown HFJ.out HG6.out (by intro e_; exact (HRN.out.1 bx e_.symm) rfl)⟩, HB6⟩
    · have hdec : decide (((3 : Nat) : Int) < 3) = false := by decide
      have hdec2 : decide ((3 : Int) < 3) = false := by decide
      clear f0 f1 f4
      go_wp2_with fail
      go_ret
      exact ⟨_, rfl, Kd.R_mono HR.out (fun _ _ => trivial), HBW.out⟩
end Go.Proofs.Ytecaemebamhamaa.Lv
