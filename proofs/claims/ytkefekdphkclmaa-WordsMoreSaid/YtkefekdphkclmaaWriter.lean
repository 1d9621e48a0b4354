/- Package words' writer: what its methods do to its block and its row. -/
import Derived.Test.YtkefekdphkclmaaPC3
import Derived.Test.YtkefekdphkclmaaPC3
import Derived.RegionTactic
import Derived.ChangeAlike
set_option linter.unusedVariables false
set_option linter.unusedSimpArgs false
namespace Go.Proofs.Ytkefekdphkclmaa.Wrt
open Go.RowKit Go.Proofs.YtkefekdphkclmaaW.PrintWords Go.Proofs.YtkefekdphkclmaaW.PrintLast Go.Proofs.YtkefekdphkclmaaW.PrintMore Go.Proofs.Ytkefekdphkclmaa.PC

/-- The writer at block g: its row of words, which is the call's own from block B on, and its error. -/
def Wr (B : Nat) (W : World) (g : Nat) (vt : Value) (out : List Int) (e : Int) : Prop :=
  W.heap[g]? = some (.cells #[vt, .int .i64 e] 79 (0, 0)) ∧ W.ownsRow B 43 1 vt out.length (nums .u64 out) ∧ B ≤ g
theorem infoU : (Try.prog.info? 43).map (fun i => (i.zero, i.size, i.bytes)) = some (some (.int .u64 0), 1, 8) := by kernel_rfl
/-- What a call on it may write. -/
def wr_ (g : Nat) (vt : Value) (k : Nat) : Prop := k = g ∨ some k = vt.ownBlock
/-- Where the row lies behind: where it lay, or in a block that is new since. -/
def moved_ (w : World) (vt vt' : Value) : Prop := vt'.ownBlock = vt.ownBlock ∨ ∃ b, vt'.ownBlock = some b ∧ w.heap.size ≤ b
theorem rdn (l : List Int) (i : Nat) (h : i < l.length) : rd l (i : Int) = l[i] := by
  unfold rd
  simp [List.getD_eq_getElem?_getD, h]
def u64 (n : Int) : Int := IntKind.u64.wrap n
set_option maxHeartbeats 4000000 in
set_option maxRecDepth 100000 in
theorem numbers_calls (B : Nat) (w : World) (g : Nat) (vt : Value) (out : List Int) (e : Int) (A : Option Addr) (c : Nat) (l : List Int)
    (hI : Wr B w g vt out e) (hl : Kd.C (Kd.int .i64) w A l.length l)
    (hfar : ∀ ad, A = some ad → 0 < l.length → ¬ wr_ g vt ad.block) (hbd : out.length + l.length ≤ 1000000000) :
    Calls Try.prog 55 #[.pointer (some ⟨g, 0, none⟩), .slice A l.length c] w fun r w' => r = .returned (.tuple #[]) ∧ ∃ vt', Wr B w' g vt' (out ++ l.map u64) e ∧ Kept w w' (wr_ g vt) ∧ moved_ w vt vt' ∧ Below B w w' := by
  have HI := Aside0.mk hI
  have HL := Aside0.mk hl
  have HF := Aside0.mk hfar
  have HD := Aside0.mk hbd
  have HU := Try.underlying32
  clear hI hl hfar hbd
  go_enter Try.func55, Try.ntmps55
  go_wp2
  go_loopg [8] l.length (fun kq v8 W => ∃ (i : Nat) (vt' : Value), v8 = .int .i64 (i : Int) ∧ Aside0 (i ≤ l.length ∧ kq = l.length - i) ∧ Aside0 (Wr B W g vt' (out ++ (l.take i).map u64) e) ∧ Aside0 (Kept w W (wr_ g vt)) ∧ Aside0 (moved_ w vt vt') ∧ Aside0 (Below B w W))
  case atStart => exact ⟨0, vt, rfl, ⟨Nat.zero_le _, by omega⟩, ⟨by simpa using HI.out⟩, ⟨Kept.refl _ _⟩, ⟨.inl rfl⟩, ⟨Below.refl _ _⟩⟩
  case round =>
    obtain ⟨i, vt', rfl, HIQ, HR, HK, HM, HB⟩ := hrel
    by_cases hlt : i < l.length
    · have hlt' : ((i : Int) < (l.length : Int)) = True := by simp; omega
      have hi0 : (0 ≤ (i : Int)) = True := by simp
      have hdec : decide ((i : Int) < (l.length : Int)) = true := by simp; omega
      have hdec2 : decide (i < l.length) = true := by simp; omega
      obtain ⟨hg, ht, hBg⟩ := HR.out
      obtain ⟨ad, e0, hx⟩ := Kd.at_int HL.out (i : Int) (by omega) (by omega)
      have hf := HF.out ad e0 (by omega)
      subst e0
      have hx' : wr.cell? (ad.add (i : Int).toNat) = some (.int .i64 (rd l i)) := cell_kept hx HK.out (by rw [add_block]; exact hf)
      rw [Int.toNat_natCast] at hx'
      clear hx
      have hsnoc : l.take (i + 1) = l.take i ++ [rd l i] := by rw [List.take_succ_eq_append_getElem hlt]; unfold rd; simp [List.getD_eq_getElem?_getD, hlt]
      have HS := Aside0.mk hsnoc
      clear hsnoc
      have hln : (out ++ (l.take i).map u64).length = out.length + i := by simp; omega
      generalize rd l i = n at hx' HS
      obtain ⟨s', es⟩ : ∃ s', s' = out ++ (l.take i).map u64 := ⟨_, rfl⟩
      rw [← es] at ht HR hln
      have HE := Aside0.mk es
      clear es
      have hc0 : wr.cell? ⟨g, 0, none⟩ = some vt' := (blk_cell hg 0).trans rfl
      have hc1 : wr.cell? ⟨g, 1, none⟩ = some (.int .i64 e) := (blk_cell hg 1).trans rfl
      have hne : some g ≠ vt'.ownBlock := own_ne ht hg (by decide)
      have HNE := Aside0.mk hne
      have HG := Aside0.mk hg
      have HT := Aside0.mk ht
      have HBG := Aside0.mk hBg
      have HLN := Aside0.mk hln
      have HLT := Aside0.mk hlt
      clear hg ht hBg hln hlt hne
      go_wp2_with (first | ((with_reducible refine gate_builtin (b := .append) (xs := #[.tmp 16, .tmp 19]) rfl ?_); refine print_append_num (w0 := w) B rfl (.tmp 16) (.tmp 19) 32 43 .u64 8 rfl HU infoU (by decide) vt' s' (u64 n) rfl ?hx HT.out HB.out ?hbase ?hl ?_; (case hx => rfl); (case hbase => have h_ := HBG.out; have h2_ := blk_lt HG.out; omega); (case hl => have h_ := HLN.out; have h2_ := HD.out; have h3_ := HLT.out; omega); intro v1 w1 ho hb hg2 hat; obtain ⟨A1, c1, e1⟩ := own_slice ho; subst e1; have HO := Aside0.mk ho; have HB2 := Aside0.mk hb; have HGR := Aside0.mk hg2; have HAT := Aside0.mk hat; have HG2 := Aside0.mk (blk_grown HG.out hg2 HNE.out); have hd3 : w1.cell? ⟨g, 0, none⟩ = some vt' := (blk_cell HG2.out 0).trans rfl; have hd4 : w1.frozen? ⟨g, 0, none⟩ = false := blk_frozen HG2.out 0; clear ho hb hg2 hat))
      go_roundg (l.length - (i + 1))
      case measure => have := HIQ.out; have := HLT.out; omega
      case rel =>
        refine ⟨i + 1, .slice A1 (s' ++ [u64 n]).length c1, by first | rfl | (have := HLT.out; rw [show wrap64 ((i : Int) + 1) = ((i + 1 : Nat) : Int) from by have h_ := HD.out; unfold wrap64; omega]), ⟨by have := HLT.out; omega, rfl⟩, ⟨?_⟩, ⟨?_⟩, ⟨?_⟩, ⟨?_⟩⟩
        · rw [HS.out, List.map_append, ← List.append_assoc, ← HE.out]
          have hgv1 := own_ne HO.out HG2.out (by decide)
          refine ⟨?_, own_setCell HO.out (p := ⟨g, 0, none⟩) hgv1 _, HBG.out⟩
          have h_ := blk_set HG2.out 0 (.slice A1 (s' ++ [u64 n]).length c1)
          simpa using h_
        · refine Kept.setCell (Kept.of_grown HGR.out HK.out ?_) (.inl (.inl rfl)) _
          intro k hk
          rcases HM.out with hm | ⟨b, hm, hb⟩
          · exact .inl (.inr (by rw [← hk, hm]))
          · rw [hm] at hk; injection hk with hk; subst hk; exact .inr hb
        · have hsz : w.heap.size ≤ wr.heap.size := HK.out.1
          rcases HAT.out with ha | ⟨b, ha, hb⟩
          · rcases HM.out with hm | ⟨b, hm, hb⟩
            · exact .inl (ha.trans hm)
            · exact .inr ⟨b, ha.trans hm, hb⟩
          · exact .inr ⟨b, ha, by omega⟩
        · exact HB2.out.setCell HBG.out _
    · have hdec : decide ((i : Int) < (l.length : Int)) = false := by simp; omega
      have hdec2 : decide (i < l.length) = false := by simp; omega
      have HLT := Aside0.mk hlt
      clear hlt
      go_wp2
      go_end0
      have hi : i = l.length := by have := HIQ.out; have := HLT.out; omega
      subst hi
      rw [List.take_length] at HR
      exact ⟨rfl, vt', HR.out, HK.out, HM.out, HB.out⟩
end Go.Proofs.Ytkefekdphkclmaa.Wrt
