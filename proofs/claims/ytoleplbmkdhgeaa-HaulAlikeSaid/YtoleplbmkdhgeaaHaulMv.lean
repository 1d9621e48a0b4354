/- Package haul: the collector's moved: what it answers, and what it leaves. -/
import Derived.Test.YtoleplbmkdhgeaaHaulCk
import Derived.Test.YtoleplbmkdhgeaaPQ10
import Derived.Test.YtoleplbmkdhgeaaPQ10
import Derived.Deep.DeepCutAuto
set_option linter.unusedVariables false
set_option linter.unusedSimpArgs false
namespace Go.Proofs.Ytoleplbmkdhgeaa.Hal
open Go.RowKit Go.Proofs.YtoleplbmkdhgeaaW.PrintWords Go.Proofs.YtoleplbmkdhgeaaW.PrintLast Go.Proofs.YtoleplbmkdhgeaaW.PrintMore Go.Proofs.Ytoleplbmkdhgeaa.PQ Go.Proofs.Ytoleplbmkdhgeaa.Hnd Go.Proofs.Ytoleplbmkdhgeaa.Nb

abbrev Mv := S56
/-- What a collector has done so far. -/
structure Col where
  dst : List Int
  fn : Int → Option Int
  mvs : List Mv
def longN (y : Int) : Nat := (y % 4294967296).toNat
def refW (t : Int) : Int := (bx 5 t).1
def takeL (fr : List Int) (at_ : Nat) : List Int := (fr.drop at_).take (1 + longN (fr.getD at_ 0))
def addC (fr : List Int) (c : Col) (p : Int) : Col := ⟨c.dst ++ takeL fr p.toNat, fun q => if q = p then some (c.dst.length : Int) else c.fn q, c.mvs ++ [⟨(c.dst.length : Int), p⟩]⟩
def moveL (fr : List Int) (c : Col) (y : Int) : Col × Int :=
  if isRef y = true then (match c.fn (plN y) with
    | some t => (c, refW t)
    | none => (addC fr c (plN y), refW (c.dst.length : Int))) else (c, y)
/-- The collector at block g, its map at bm, its rows vto and vtold: the call's own from block B on. -/
def IsCol (B : Nat) (W : World) (g bm : Nat) (fv vto vtold : Value) (n : Nat) (c : Col) : Prop :=
  W.heap[g]? = some (.cells #[fv, vto, .map (some bm), vtold] 83 (0, 0)) ∧ Kd.R (Kd.int .u64) 57 W B (fun _ => True) vto c.dst ∧ Kd.R k56 56 W B (fun _ => True) vtold c.mvs ∧ IsMap_ Try.prog 3 3 W bm n c.fn ∧ B ≤ g ∧ B ≤ bm
def colFoot (g bm : Nat) (vto vtold : Value) (k : Nat) : Prop := k = g ∨ k = bm ∨ some k = vto.ownBlock ∨ some k = vtold.ownBlock
/-- A row stays where it lay, or lies in a new block. -/
def Stays (W : World) (v v' : Value) : Prop := v'.ownBlock = v.ownBlock ∨ ∃ b, v'.ownBlock = some b ∧ W.heap.size ≤ b
theorem zeroI (w : World) : (zeroValue 3).run Try.prog w = .ok (.int .i64 0) w := by kernel_rfl
theorem info_mv : (Try.prog.info? 56).map (fun i => (i.zero, i.size, i.bytes)) = some (some (.agg #[.int .i64 0, .int .i64 0]), 2, 16) := by kernel_rfl
theorem info_u64 : (Try.prog.info? 57).map (fun i => (i.zero, i.size, i.bytes)) = some (some (.int .u64 0), 1, 8) := by kernel_rfl
theorem IsCol.below {B : Nat} {W W1 : World} {g bm : Nat} {fv vto vtold : Value} {n : Nat} {c : Col} (h : IsCol B W g bm fv vto vtold n c) (hb : Below W.heap.size W W1) : IsCol B W1 g bm fv vto vtold n c :=
  ⟨blk_below h.1 hb, Kd.R_below h.2.1 hb, Kd.R_below h.2.2.1 hb, h.2.2.2.1.below hb, h.2.2.2.2⟩
theorem R_flat {α : Type} {d : Kd α} {e B : Nat} {W W1 : World} {v : Value} {xs : List α} (hE : d.E = []) (h : d.R e W B (fun _ => True) v xs) (hm : ∀ k, v.ownBlock = some k → W1.heap[k]? = W.heap[k]?) : d.R e W1 B (fun _ => True) v xs :=
  Kd.R_mono (Kd.R_step (Kd.R_tight hE h) (fun k hk _ => hm k hk.symm)) (fun _ _ => trivial)
theorem R_apart2 {α β : Type} {d : Kd α} {d' : Kd β} {e e' B B' : Nat} {ok ok' : Nat → Prop} {W : World} {v v' : Value} {xs : List α} {ys : List β} (h : d.R e W B ok v xs) (h' : d'.R e' W B' ok' v' ys) (hne : e ≠ e') : ∀ k, v.ownBlock = some k → some k ≠ v'.ownBlock := by
  intro k hk hk'
  obtain ⟨c1, h1⟩ := Kd.R_typed h k hk
  exact Kd.R_ne h' h1 (Ne.symm hne) hk'
theorem C_int_kept {ki : IntKind} {W W2 : World} {S : Nat → Prop} {A : Option Addr} {n : Nat} {xs : List Int} (h : (Kd.int ki).C W A n xs) (hk : Kept W W2 S) (hne : 0 < n → ∀ ad, A = some ad → ¬ S ad.block) : (Kd.int ki).C W2 A n xs :=
  ⟨h.1, h.2.1, fun hp => by
    obtain ⟨ad, e, hc⟩ := h.2.2 hp
    refine ⟨ad, e, fun j p hj => ?_⟩
    obtain ⟨c, h1, h2, h3⟩ := hc j p hj
    exact ⟨c, h1, h2, fun i u hu => cell_kept (h3 i u hu) hk (by rw [add_block]; exact hne hp ad e)⟩⟩
/-- What a move asks: the object that is copied lies within the words. -/
def MvOk (fr : List Int) (c : Col) (y : Int) : Prop := isRef y = true → c.fn (plN y) = none → 0 ≤ plN y ∧ (plN y).toNat < fr.length ∧ (plN y).toNat + 1 + longN (fr.getD (plN y).toNat 0) ≤ fr.length
set_option maxHeartbeats 16000000 in
set_option maxRecDepth 100000 in
theorem moved_calls (B : Nat) (w0 W : World) (g bm : Nat) (AF : Option Addr) (cF : Nat) (fr : List Int) (vto vtold : Value) (n : Nat) (c : Col) (y : Int)
    (hI : IsCol B W g bm (.slice AF fr.length cF) vto vtold n c) (hB : Below B w0 W) (hF : Kd.C (Kd.int .u64) W AF fr.length fr) (hcF : fr.length ≤ cF) (hU : ∀ x ∈ fr, U64 x) (hy : U64 y) (hok : MvOk fr c y)
    (hz : c.dst.length ≤ 1000000 ∧ fr.length ≤ 1000000 ∧ c.mvs.length ≤ 1000000 ∧ n ≤ 1000000) (hfar : 0 < fr.length → ∀ ad, AF = some ad → ¬ colFoot g bm vto vtold ad.block) :
    Calls Try.prog 44 #[.pointer (some ⟨g, 0, none⟩), .int .u64 y] W fun e W' => e = .returned (.int .u64 (moveL fr c y).2) ∧ ∃ vto' vtold', IsCol B W' g bm (.slice AF fr.length cF) vto' vtold' (n + 1) (moveL fr c y).1 ∧ Kept W W' (colFoot g bm vto vtold) ∧ Stays W vto vto' ∧ Stays W vtold vtold' ∧ Below B w0 W' := by
  have HI := Aside0.mk hI
  have HB := Aside0.mk hB
  have HF := Aside0.mk hF
  have HC := Aside0.mk hcF
  have HU := Aside0.mk hU
  have HY := Aside0.mk hy
  have HZ := Aside0.mk hz
  have HFAR := Aside0.mk hfar
  have HOK := Aside0.mk hok
  have K2 := Aside0.mk (place_f 4 (Nat.le_refl _) hy)
  have HMU := Try.underlying81
  have HU52 := Try.underlying52
  have HU49 := Try.underlying49
  clear hI hB hF hcF hU hy hz hfar hok
  cases hr : isRef y with
  | false =>
    have HM : Aside0 (moveL fr c y = (c, y)) := ⟨by unfold moveL; rw [hr, if_neg (by decide)]⟩
    have K3 : Aside0 (haul_place.f 4 y = some (plN y, false)) := ⟨by rw [K2.out, hr]⟩
    clear K2 hr
    go_enter Try.func44, Try.ntmps44
    go_wp2_with fail
    refine (haul_place.calls 4 y (plN y) false _ K3.out).mono ?_
    rintro e w1 ⟨rfl, hb⟩
    have HB1 := Aside0.mk hb
    clear hb
    go_wp2
    go_ret
    rw [HM.out]
    refine ⟨rfl, vto, vtold, ?_, ?_, .inl rfl, .inl rfl, ?_⟩
    · have h_ := HI.out.below HB1.out
      exact ⟨h_.1, h_.2.1, h_.2.2.1, h_.2.2.2.1.more, h_.2.2.2.2⟩
    · exact ⟨HB1.out.size, fun i hi _ => HB1.out.block i hi⟩
    · exact HB.out.trans (below_cut HB1.out (Nat.le_trans HI.out.2.2.2.2.1 (Nat.le_of_lt (blk_lt HI.out.1))))
  | true =>
    have K3 : Aside0 (haul_place.f 4 y = some (plN y, true)) := ⟨by rw [K2.out, hr]⟩
    have HP := Aside0.mk (plN_I64 HY.out)
    have HOK2 := Aside0.mk (HOK.out hr)
    have HM : Aside0 (moveL fr c y = match c.fn (plN y) with
      | some t => (c, refW t)
      | none => (addC fr c (plN y), refW (c.dst.length : Int))) := ⟨by unfold moveL; rw [hr, if_pos rfl]⟩
    clear K2 hr HOK
    generalize plN y = p at K3 HP HOK2 HM
    obtain ⟨AT, cT, rfl⟩ := Kd.R_slice HI.out.2.1
    obtain ⟨AL, cL, rfl⟩ := Kd.R_slice HI.out.2.2.1
    go_enter Try.func44, Try.ntmps44
    go_wp2_with fail
    refine (haul_place.calls 4 y p true _ K3.out).mono ?_
    rintro e w1 ⟨rfl, hb⟩
    have HB1 : Aside0 (Below B w0 w1) := ⟨HB.out.trans (below_cut hb (Nat.le_trans HI.out.2.2.2.2.1 (Nat.le_of_lt (blk_lt HI.out.1))))⟩
    have HI1 := Aside0.mk (HI.out.below hb)
    have HF1 := Aside0.mk (Kd.C_below HF.out hb)
    have HBW := Aside0.mk hb
    have hc2 : w1.cell? ⟨g, 1 + 1, none⟩ = some (.map (some bm)) := (blk_cell HI1.out.1 2).trans rfl
    have hc1 : w1.cell? ⟨g, 1, none⟩ = some (.slice AT c.dst.length cT) := (blk_cell HI1.out.1 1).trans rfl
    have HKP : Aside0 (Kept W w1 (colFoot g bm (.slice AT c.dst.length cT) (.slice AL c.mvs.length cL))) := ⟨⟨hb.size, fun i hi _ => hb.block i hi⟩⟩
    clear hb
    cases hn : c.fn p with
    | some t =>
      have HM2 : Aside0 (moveL fr c y = (c, refW t)) := ⟨by rw [HM.out, hn]⟩
      have HN := Aside0.mk hn
      clear HM hn hc1
      go_wp2_with (at_lookup; refine look_map rfl _ _ rfl Try.underlying3 Try.underlying3 HMU (zeroI _) HI1.out.2.2.2.1 rfl p rfl HP.out ?_; intro c_ hd_ hn_; obtain rfl := hd_ t HN.out; clear hd_ hn_; rw [HN.out])
      refine (nanbox_Box.calls 2 5 c_ (bx 5 c_).1 (bx 5 c_).2 _ (box_f 2 5 c_ (Nat.le_refl _))).mono ?_
      rintro e w2 ⟨rfl, hb⟩
      have HB2 : Aside0 (Below B w0 w2) := ⟨HB1.out.trans (below_cut hb (Nat.le_trans HI1.out.2.2.2.2.1 (Nat.le_of_lt (blk_lt HI1.out.1))))⟩
      have HI2 := Aside0.mk (HI1.out.below hb)
      have HKP2 := Aside0.mk (HKP.out.below hb)
      clear hb
      go_wp2
      go_ret
      rw [HM2.out]
      exact ⟨rfl, _, _, ⟨HI2.out.1, HI2.out.2.1, HI2.out.2.2.1, HI2.out.2.2.2.1.more, HI2.out.2.2.2.2⟩, HKP2.out, .inl rfl, .inl rfl, HB2.out⟩
    | none =>
      have HM2 : Aside0 (moveL fr c y = (addC fr c p, refW (c.dst.length : Int))) := ⟨by rw [HM.out, hn]⟩
      have HN := Aside0.mk hn
      obtain ⟨ok1, ok2, ok3⟩ := HOK2.out hn
      have HLI : Aside0 (I64 (c.dst.length : Int)) := ⟨by have h_ := HZ.out.1; unfold I64; omega⟩
      clear HM hn HOK2
      go_wp2_with (first | (at_lookup; refine look_map rfl _ _ rfl Try.underlying3 Try.underlying3 HMU (zeroI _) HI1.out.2.2.2.1 rfl p rfl HP.out ?_; intro c_ hd_ hn_; obtain rfl := hn_ HN.out; clear hd_ hn_; rw [HN.out]) | (at_mapUpdate; refine put_map rfl _ _ _ rfl Try.underlying3 Try.underlying3 HMU HI1.out.2.2.2.1 (by have h_ := HZ.out.2.2.2; unfold maxLen; omega) rfl p rfl HP.out (c.dst.length : Int) rfl HLI.out ?_; intro w2 hm2 hg2; have HM3 := Aside0.mk hm2; have HG2 := Aside0.mk hg2; have hnb := IsMap_.ne HI1.out.2.2.2.1 HI1.out.1; have HD2 := Aside0.mk (blk_grown HI1.out.1 hg2 (by intro e_; injection e_ with e_; exact hnb e_.symm)); have hc3 : w2.cell? ⟨g, 2 + 1, none⟩ = some (.slice AL c.mvs.length cL) := (blk_cell HD2.out 3).trans rfl; have HR2 := Aside0.mk (R_flat rfl HI1.out.2.1 (fun k_ hk => by obtain ⟨cs_, hcs⟩ := Kd.R_typed HI1.out.2.1 k_ hk; exact hg2.block k_ (blk_lt hcs) (by intro e_; injection e_ with e_; exact (IsMap_.ne HI1.out.2.2.2.1 hcs) e_.symm))); have HT2 := Aside0.mk (R_flat rfl HI1.out.2.2.1 (fun k_ hk => by obtain ⟨cs_, hcs⟩ := Kd.R_typed HI1.out.2.2.1 k_ hk; exact hg2.block k_ (blk_lt hcs) (by intro e_; injection e_ with e_; exact (IsMap_.ne HI1.out.2.2.2.1 hcs) e_.symm))); have HB2 := Aside0.mk (HB1.out.grown hg2 (Nat.le_trans HI1.out.2.2.2.2.1 (Nat.le_of_lt (blk_lt HI1.out.1))) (fun _ hk => by injection hk with hk; subst hk; exact HI1.out.2.2.2.2.2)); have HKP2 := Aside0.mk (Kept.of_grown hg2 HKP.out (fun k_ hk => by injection hk with hk; subst hk; exact .inl (.inr (.inl rfl)))); clear hm2 hg2 hnb) | ((with_reducible refine gate_builtin (b := .append) (xs := #[.tmp 45, .tmp 49]) rfl ?_); refine Kd.R_append k56 (w0 := w0) B rfl (.tmp 45) (.tmp 49) 52 56 (.agg #[.int .i64 0, .int .i64 0]) 16 rfl HU52 info_mv rfl (by decide) (by decide) (.slice AL c.mvs.length cL) c.mvs ⟨(c.dst.length : Int), p⟩ [.int .i64 (c.dst.length : Int), .int .i64 p] (fun _ => True) (fun _ => False) rfl rfl (k56_mkM _ _ _ ⟨(c.dst.length : Int), p⟩) (fun _ hk => hk.elim) (fun _ _ => trivial) HT2.out HB2.out ?hbs ?hl ?_; (case hbs => exact Nat.le_trans HI1.out.2.2.2.2.1 (Nat.le_of_lt (blk_lt HD2.out))); (case hl => have h_ := HZ.out.2.2.1; omega); intro v3 w3 ho hb hg3 hat; obtain ⟨A3, c3, e3⟩ := Kd.R_slice ho; subst e3; have HT3 := Aside0.mk ho; have HB3 := Aside0.mk hb; have HG3 := Aside0.mk hg3; have HAT3 := Aside0.mk hat; clear ho hb hg3 hat; have HD3 := Aside0.mk (blk_grown HD2.out HG3.out (Kd.R_ne HT2.out HD2.out (by decide))); have hf3 : w3.frozen? ⟨g, 2 + 1, none⟩ = false := blk_frozen HD3.out 3; have hd3 : w3.cell? ⟨g, 2 + 1, none⟩ = some (.slice AL c.mvs.length cL) := (blk_cell HD3.out 3).trans rfl))
      generalize hw4 : World.setCell w3 _ _ = w4
      have HD4 : Aside0 (w4.heap[g]? = some (.cells #[.slice AF fr.length cF, .slice AT c.dst.length cT, .map (some bm), .slice A3 (c.mvs.length + 1) c3] 83 (0, 0))) := ⟨by rw [← hw4]; simpa using blk_set HD3.out 3 (.slice A3 (c.mvs.length + 1) c3)⟩
      have hRT := R_apart2 HR2.out HT2.out (by decide)
      have HR4 : Aside0 (Kd.R (Kd.int .u64) 57 w4 B (fun _ => True) (.slice AT c.dst.length cT) c.dst) := ⟨by
        refine R_flat rfl HR2.out (fun k_ hk => ?_)
        obtain ⟨cs_, hcs⟩ := Kd.R_typed HR2.out k_ hk
        have hg_ : k_ ≠ g := fun e_ => by subst e_; exact Kd.R_ne HR2.out HD2.out (by decide) hk.symm
        rw [← hw4, Below.heap_setCell _ _ _ _ hg_, HG3.out.block k_ (blk_lt hcs) (hRT k_ hk)]⟩
      have HT4 : Aside0 (Kd.R k56 56 w4 B (fun _ => True) (.slice A3 (c.mvs ++ [(⟨(c.dst.length : Int), p⟩ : Mv)]).length c3) (c.mvs ++ [⟨(c.dst.length : Int), p⟩])) := ⟨by
        refine R_flat rfl HT3.out (fun k_ hk => ?_)
        have hg_ : k_ ≠ g := fun e_ => by subst e_; exact Kd.R_ne HT3.out HD3.out (by decide) hk.symm
        rw [← hw4, Below.heap_setCell _ _ _ _ hg_]⟩
      have HM4 : Aside0 (IsMap_ Try.prog 3 3 w4 bm (n + 1) (addC fr c p).fn) := ⟨by
        have hx_ := HM3.out.kept HG3.out (by
          intro e_
          obtain ⟨cs_, hcs⟩ := Kd.R_typed HT2.out bm e_.symm
          exact HM3.out.ne hcs rfl)
        rw [← hw4]
        exact hx_.set_ (by exact hx_.ne HD3.out) _⟩
      have HB4 : Aside0 (Below B w0 w4) := ⟨by rw [← hw4]; exact HB3.out.setCell HI1.out.2.2.2.2.1 _⟩
      have HKP4 : Aside0 (Kept W w4 (colFoot g bm (.slice AT c.dst.length cT) (.slice AL c.mvs.length cL))) := ⟨by
        rw [← hw4]
        exact Kept.setCell (Kept.of_grown HG3.out HKP2.out (fun k_ hk => .inl (.inr (.inr (.inr hk.symm))))) (.inl (.inl rfl)) _⟩
      have HF4 := Aside0.mk (C_int_kept HF.out HKP4.out HFAR.out)
      have HST : Aside0 (Stays W (.slice AL c.mvs.length cL) (.slice A3 (c.mvs.length + 1) c3)) := ⟨by
        rcases HAT3.out with h_ | ⟨b_, h_, h2_⟩
        · exact .inl (by simpa [Value.ownBlock] using h_)
        · exact .inr ⟨b_, by simpa [Value.ownBlock] using h_, Nat.le_trans HKP2.out.1 h2_⟩⟩
      clear hw4 hRT hc3 hd3 hf3 hc1 hc2
      obtain ⟨at_, rfl⟩ : ∃ at_ : Nat, p = (at_ : Int) := ⟨p.toNat, by omega⟩
      simp only [Int.toNat_natCast] at ok1 ok2 ok3
      obtain ⟨ad, rfl, hx⟩ := Kd.at_int HF4.out (at_ : Int) ok1 (by omega)
      rw [Int.toNat_natCast, rdg _ _ ok2] at hx
      have hxg : fr.getD at_ 0 = fr[at_] := by rw [List.getD_eq_getElem?_getD, List.getElem?_eq_getElem ok2]; rfl
      have hxu := HU.out _ (List.getElem_mem ok2)
      rw [hxg] at ok3
      have HTK : Aside0 (takeL fr at_ = (fr.take (at_ + 1 + longN fr[at_])).drop at_) := ⟨by
        unfold takeL
        rw [hxg, List.drop_take]
        congr 1
        omega⟩
      generalize fr[at_] = x at hx ok3 HTK hxu
      have HLG : Aside0 (haul_long.f x = some ((longN x : Nat) : Int)) := ⟨by
        unfold haul_long.f longN
        rw [Int.toNat_of_nonneg (by obtain ⟨h_, _⟩ := hxu; omega)]⟩
      generalize longN x = lg at ok3 HTK HLG
      have hcf : fr.length ≤ cF := HC.out
      have HMID : Aside0 (Kd.C (Kd.int .u64) w4 (some (ad.add at_)) (takeL fr at_).length (takeL fr at_)) := ⟨by
        have h_ := Kd.C_mid (lo := at_) (hi := at_ + 1 + lg) (c := cF) HF4.out (by omega) (by omega) hcf
        rw [HTK.out]
        rw [if_neg (by omega)] at h_
        have e_ : (Kd.int IntKind.u64).sz = 1 := rfl
        rw [e_, Nat.mul_one] at h_
        exact h_⟩
      have HTL : Aside0 ((takeL fr at_).length = 1 + lg) := ⟨by rw [HTK.out, List.length_drop, List.length_take]; omega⟩
      have hz : fr.length ≤ 1000000 := HZ.out.2.1
      have hl1 : (at_ : Int) < (fr.length : Int) := by omega
      have hl2 : (at_ : Int) + 1 + (lg : Int) ≤ (cF : Int) := by omega
      have hl3 : (0 : Int) ≤ (at_ : Int) + 1 + (lg : Int) := by omega
      have hl4 : (at_ : Int) ≤ (at_ : Int) + 1 + (lg : Int) := by omega
      have hl5 : ((at_ : Int) + 1 + (lg : Int)).toNat = at_ + 1 + lg := by omega
      have hl6 : (cF = at_) = False := by simp; omega
      have hl7 : at_ + 1 + lg - at_ = 1 + lg := by omega
      have hw1 : IntKind.i64.wrap ((at_ : Int) + 1) = (at_ : Int) + 1 := by rw [i64_w]; unfold wrap64; omega
      have hw2 : IntKind.i64.wrap ((at_ : Int) + 1 + (lg : Int)) = (at_ : Int) + 1 + (lg : Int) := by rw [i64_w]; unfold wrap64; omega
      have hq0 : w4.cell? ⟨g, 0, none⟩ = some (.slice (some ad) fr.length cF) := (blk_cell HD4.out 0).trans rfl
      have hq1 : w4.cell? ⟨g, 1, none⟩ = some (.slice AT c.dst.length cT) := (blk_cell HD4.out 1).trans rfl
      have hlg : lg ≤ fr.length := by omega
      clear hcf ok2 ok3 hxu hxg
      refine start_ (n := 26) (S := fun w' => Below w4.heap.size w4 w' ∧ w'.cell? ⟨g, 1, none⟩ = some (.slice AT c.dst.length cT) ∧ w'.cell? ⟨g, 0, none⟩ = some (.slice (some ad) fr.length cF) ∧ w'.cell? (ad.add at_) = some (.int .u64 x)) (ds := [22, 25]) #[false, false, false, false, false, false, false, false, false, false, false, false, false, false, false, false, false, false, false, false, false, false, false, false, false, false] (by kernel_rfl) rfl rfl ⟨below_drew (Below.refl _ _), hq1, hq0, hx⟩ (fun hHeld => ?_)
      refine pure_ (i := 0) (N := some 53) (v := ?_) (a' := ?_) #[true, false, false, false, false, false, false, false, false, false, false, false, false, false, false, false, false, false, false, false, false, false, false, false, false, false] rfl rfl (by kernel_rfl) (fun _ _ _ h => h) (Or.inl ⟨by rfl, ?_⟩) ?_ ?_
      rotate_left
      · intro w'
        go_simp
        with_reducible rfl
      rotate_left
      · simp only [Act.put, List.setIfInBounds_toArray, List.set_cons_zero, List.set_cons_succ, i64_w, i32_w]
        rfl
      refine pure_ (i := 1) (N := some 54) (v := ?_) (a' := ?_) #[true, true, false, false, false, false, false, false, false, false, false, false, false, false, false, false, false, false, false, false, false, false, false, false, false, false] rfl rfl (by kernel_rfl) (fun _ _ _ h => h) (Or.inl ⟨by rfl, ?_⟩) ?_ ?_
      rotate_left
      · intro w'
        go_simp
        with_reducible rfl
      rotate_left
      · simp only [Act.put, List.setIfInBounds_toArray, List.set_cons_zero, List.set_cons_succ, i64_w, i32_w]
        rfl
      refine pure_ (i := 2) (N := some 55) (v := ?_) (a' := ?_) #[true, true, true, false, false, false, false, false, false, false, false, false, false, false, false, false, false, false, false, false, false, false, false, false, false, false] rfl rfl (by kernel_rfl) (fun _ _ _ h => h) (Or.inl ⟨by rfl, ?_⟩) ?_ ?_
      rotate_left
      · intro w'
        go_simp
        with_reducible rfl
      rotate_left
      · simp only [Act.put, List.setIfInBounds_toArray, List.set_cons_zero, List.set_cons_succ, i64_w, i32_w]
        rfl
      refine pure_ (i := 3) (N := some 56) (v := ?_) (a' := ?_) #[true, true, true, true, false, false, false, false, false, false, false, false, false, false, false, false, false, false, false, false, false, false, false, false, false, false] rfl rfl (by kernel_rfl) (fun _ _ _ h => h) (Or.inl ⟨by rfl, ?_⟩) ?_ ?_
      rotate_left
      · intro w'
        go_simp
        with_reducible rfl
      rotate_left
      · simp only [Act.put, List.setIfInBounds_toArray, List.set_cons_zero, List.set_cons_succ, i64_w, i32_w]
        rfl
      refine pure_ (i := 5) (N := some 58) (v := ?_) (a' := ?_) #[true, true, true, true, false, true, false, false, false, false, false, false, false, false, false, false, false, false, false, false, false, false, false, false, false, false] rfl rfl (by kernel_rfl) (fun _ _ _ h => h) (Or.inl ⟨by rfl, ?_⟩) ?_ ?_
      rotate_left
      · intro w'
        go_simp
        with_reducible rfl
      rotate_left
      · simp only [Act.put, List.setIfInBounds_toArray, List.set_cons_zero, List.set_cons_succ, i64_w, i32_w]
        rfl
      refine pure_ (i := 6) (N := some 59) (v := ?_) (a' := ?_) #[true, true, true, true, false, true, true, false, false, false, false, false, false, false, false, false, false, false, false, false, false, false, false, false, false, false] rfl rfl (by kernel_rfl) (fun _ _ _ h => h) (Or.inl ⟨by rfl, ?_⟩) ?_ ?_
      rotate_left
      · intro w'
        go_simp
        with_reducible rfl
      rotate_left
      · simp only [Act.put, List.setIfInBounds_toArray, List.set_cons_zero, List.set_cons_succ, i64_w, i32_w]
        rfl
      refine pure_ (i := 7) (N := some 60) (v := ?_) (a' := ?_) #[true, true, true, true, false, true, true, true, false, false, false, false, false, false, false, false, false, false, false, false, false, false, false, false, false, false] rfl rfl (by kernel_rfl) (fun _ _ _ h => h) (Or.inl ⟨by rfl, ?_⟩) ?_ ?_
      rotate_left
      · intro w'
        go_simp
        with_reducible rfl
      rotate_left
      · simp only [Act.put, List.setIfInBounds_toArray, List.set_cons_zero, List.set_cons_succ, i64_w, i32_w]
        rfl
      refine pure_ (i := 9) (N := some 62) (v := ?_) (a' := ?_) #[true, true, true, true, false, true, true, true, false, true, false, false, false, false, false, false, false, false, false, false, false, false, false, false, false, false] rfl rfl (by kernel_rfl) (fun _ _ _ h => h) (Or.inl ⟨by rfl, ?_⟩) ?_ ?_
      rotate_left
      · intro w'
        go_simp
        with_reducible rfl
      rotate_left
      · simp only [Act.put, List.setIfInBounds_toArray, List.set_cons_zero, List.set_cons_succ, i64_w, i32_w]
        rfl
      refine pure_ (i := 10) (N := some 63) (v := ?_) (a' := ?_) #[true, true, true, true, false, true, true, true, false, true, true, false, false, false, false, false, false, false, false, false, false, false, false, false, false, false] rfl rfl (by kernel_rfl) (fun _ _ _ h => h) (Or.inl ⟨by rfl, ?_⟩) ?_ ?_
      rotate_left
      · intro w'
        go_simp
        with_reducible rfl
      rotate_left
      · simp only [Act.put, List.setIfInBounds_toArray, List.set_cons_zero, List.set_cons_succ, i64_w, i32_w]
        rfl
      refine pure_ (i := 11) (N := some 64) (v := ?_) (a' := ?_) #[true, true, true, true, false, true, true, true, false, true, true, true, false, false, false, false, false, false, false, false, false, false, false, false, false, false] rfl rfl (by kernel_rfl) (fun _ _ _ h => h) (Or.inl ⟨by rfl, ?_⟩) ?_ ?_
      rotate_left
      · intro w'
        go_simp
        with_reducible rfl
      rotate_left
      · simp only [Act.put, List.setIfInBounds_toArray, List.set_cons_zero, List.set_cons_succ, i64_w, i32_w]
        rfl
      refine pure_ (i := 12) (N := some 65) (v := ?_) (a' := ?_) #[true, true, true, true, false, true, true, true, false, true, true, true, true, false, false, false, false, false, false, false, false, false, false, false, false, false] rfl rfl (by kernel_rfl) (fun _ _ _ h => h) (Or.inl ⟨by rfl, ?_⟩) ?_ ?_
      rotate_left
      · intro w'
        go_simp
        with_reducible rfl
      rotate_left
      · simp only [Act.put, List.setIfInBounds_toArray, List.set_cons_zero, List.set_cons_succ, i64_w, i32_w]
        rfl
      refine pure_ (i := 13) (N := some 66) (v := ?_) (a' := ?_) #[true, true, true, true, false, true, true, true, false, true, true, true, true, true, false, false, false, false, false, false, false, false, false, false, false, false] rfl rfl (by kernel_rfl) (fun _ _ _ h => h) (Or.inl ⟨by rfl, ?_⟩) ?_ ?_
      rotate_left
      · intro w'
        go_simp
        with_reducible rfl
      rotate_left
      · simp only [Act.put, List.setIfInBounds_toArray, List.set_cons_zero, List.set_cons_succ, i64_w, i32_w]
        rfl
      refine pure_ (i := 14) (N := some 67) (v := ?_) (a' := ?_) #[true, true, true, true, false, true, true, true, false, true, true, true, true, true, true, false, false, false, false, false, false, false, false, false, false, false] rfl rfl (by kernel_rfl) (fun _ _ _ h => h) (Or.inl ⟨by rfl, ?_⟩) ?_ ?_
      rotate_left
      · intro w'
        go_simp
        with_reducible rfl
      rotate_left
      · simp only [Act.put, List.setIfInBounds_toArray, List.set_cons_zero, List.set_cons_succ, i64_w, i32_w]
        rfl
      refine pure_ (i := 16) (N := some 69) (v := ?_) (a' := ?_) #[true, true, true, true, false, true, true, true, false, true, true, true, true, true, true, false, true, false, false, false, false, false, false, false, false, false] rfl rfl (by kernel_rfl) (fun _ _ _ h => h) (Or.inl ⟨by rfl, ?_⟩) ?_ ?_
      rotate_left
      · intro w'
        go_simp
        with_reducible rfl
      rotate_left
      · simp only [Act.put, List.setIfInBounds_toArray, List.set_cons_zero, List.set_cons_succ, i64_w, i32_w]
        rfl
      refine take_ (i := 4) (N := some 57) (v := ?_) (a' := ?_) #[true, true, true, true, true, true, true, true, false, true, true, true, true, true, true, false, true, false, false, false, false, false, false, false, false, false] rfl rfl (by kernel_rfl) (fun _ _ _ h => h) (Or.inl ⟨by rfl, ?_⟩) hHeld ?_ ?_
      rotate_left
      · rintro w' ⟨s0, s1, s2, s3⟩
        go_simp
        with_reducible rfl
      rotate_left
      · simp only [Act.put, List.setIfInBounds_toArray, List.set_cons_zero, List.set_cons_succ, i64_w, i32_w]
        rfl
      refine take_ (i := 8) (N := some 61) (v := ?_) (a' := ?_) #[true, true, true, true, true, true, true, true, true, true, true, true, true, true, true, false, true, false, false, false, false, false, false, false, false, false] rfl rfl (by kernel_rfl) (fun _ _ _ h => h) (Or.inl ⟨by rfl, ?_⟩) hHeld ?_ ?_
      rotate_left
      · rintro w' ⟨s0, s1, s2, s3⟩
        go_simp
        with_reducible rfl
      rotate_left
      · simp only [Act.put, List.setIfInBounds_toArray, List.set_cons_zero, List.set_cons_succ, i64_w, i32_w]
        rfl
      refine take_ (i := 15) (N := some 68) (v := ?_) (a' := ?_) #[true, true, true, true, true, true, true, true, true, true, true, true, true, true, true, true, true, false, false, false, false, false, false, false, false, false] rfl rfl (by kernel_rfl) (fun _ _ _ h => h) (Or.inl ⟨by rfl, ?_⟩) hHeld ?_ ?_
      rotate_left
      · rintro w' ⟨s0, s1, s2, s3⟩
        go_simp
        with_reducible rfl
      rotate_left
      · simp only [Act.put, List.setIfInBounds_toArray, List.set_cons_zero, List.set_cons_succ, i64_w, i32_w]
        rfl
      refine pure_ (i := 17) (N := some 70) (v := ?_) (a' := ?_) #[true, true, true, true, true, true, true, true, true, true, true, true, true, true, true, true, true, true, false, false, false, false, false, false, false, false] rfl rfl (by kernel_rfl) (fun _ _ _ h => h) (Or.inl ⟨by rfl, ?_⟩) ?_ ?_
      rotate_left
      · intro w'
        go_simp
        with_reducible rfl
      rotate_left
      · simp only [Act.put, List.setIfInBounds_toArray, List.set_cons_zero, List.set_cons_succ, i64_w, i32_w]
        rfl
      refine take_ (i := 18) (N := some 71) (v := ?_) (a' := ?_) #[true, true, true, true, true, true, true, true, true, true, true, true, true, true, true, true, true, true, true, false, false, false, false, false, false, false] rfl rfl (by kernel_rfl) (fun _ _ _ h => h) (Or.inl ⟨by rfl, ?_⟩) hHeld ?_ ?_
      rotate_left
      · rintro w' ⟨s0, s1, s2, s3⟩
        go_simp
        with_reducible rfl
      rotate_left
      · simp only [Act.put, List.setIfInBounds_toArray, List.set_cons_zero, List.set_cons_succ, i64_w, i32_w]
        rfl
      refine one_ (i := 19) (N := some 72) #[true, true, true, true, true, true, true, true, true, true, true, true, true, true, true, true, true, true, true, true, false, false, false, false, false, false] rfl rfl (by kernel_rfl) (by decide) (fun K hK => ?_)
      refine goes_ Try.func45 (by kernel_rfl) rfl #[.int .u64 x] (by rfl) rfl rfl (by simp only [List.map_toArray, List.map_cons, List.map_nil]; rfl) ?_
      with_reducible refine (haul_long.calls x ((lg : Nat) : Int) _ HLG.out).mono ?_
      rintro e w5 ⟨rfl, hd⟩
      refine ⟨_, rfl, ?_⟩
      refine hK.out _ _ ⟨below_step hHeld.1 hd.below, pw_cell_below hd.below hHeld.2.1, pw_cell_below hd.below hHeld.2.2.1, pw_cell_below hd.below hHeld.2.2.2⟩ (fun hHeld => ?_)
      clear hK K
      refine norm_ (a' := ?_) ?_ ?_
      rotate_left
      · show Act.put _ (some 72) _ = _
        simp only [Act.put, List.setIfInBounds_toArray, List.set_cons_zero, List.set_cons_succ, i64_w, i32_w]
        rfl
      refine pure_ (i := 20) (N := some 73) (v := ?_) (a' := ?_) #[true, true, true, true, true, true, true, true, true, true, true, true, true, true, true, true, true, true, true, true, true, false, false, false, false, false] rfl rfl (by kernel_rfl) (fun _ _ _ h => h) (Or.inl ⟨by rfl, ?_⟩) ?_ ?_
      rotate_left
      · intro w'
        go_simp
        with_reducible rfl
      rotate_left
      · simp only [Act.put, List.setIfInBounds_toArray, List.set_cons_zero, List.set_cons_succ, i64_w, i32_w]
        rfl
      refine pure_ (i := 21) (N := some 74) (v := ?_) (a' := ?_) #[true, true, true, true, true, true, true, true, true, true, true, true, true, true, true, true, true, true, true, true, true, true, false, false, false, false] rfl rfl (by kernel_rfl) (fun _ _ _ h => h) (Or.inl ⟨by rfl, ?_⟩) ?_ ?_
      rotate_left
      · intro w'
        go_simp
        with_reducible rfl
      rotate_left
      · simp only [Act.put, List.setIfInBounds_toArray, List.set_cons_zero, List.set_cons_succ, i64_w, i32_w]
        rfl
      refine last_ (i := 22) (N := some 75) #[true, true, true, true, true, true, true, true, true, true, true, true, true, true, true, true, true, true, true, true, true, true, true, false, false, false] rfl rfl (by kernel_rfl) (by decide) (fun K hK => ?_)
      have hD5 := blk_below HD4.out hHeld.1
      have hM5 := HMID.out
      rw [HTL.out] at hM5
      refine Kd.R_append_rows_step (Kd.int .u64) (w0 := w0) B (by rfl) (.tmp 57) (.tmp 74) 49 57 (.int .u64 0) 8 rfl HU49 info_u64 rfl (by decide) (by decide) (.slice AT c.dst.length cT) c.dst (takeL fr at_) (some (ad.add at_)) (1 + lg) (cF - at_) (fun _ => True) (fun _ => False) rfl rfl (Kd.R_below HR4.out hHeld.1) (Kd.C_below hM5 hHeld.1) (fun _ _ h_ => h_) (fun _ h_ => h_.elim) (fun _ _ => trivial) (HB4.out.trans (below_cut hHeld.1 (Nat.le_trans HI.out.2.2.2.2.1 (Nat.le_of_lt (blk_lt HD4.out))))) (Nat.le_trans HI.out.2.2.2.2.1 (Nat.le_of_lt (blk_lt hD5))) ?hl22 ?_
      case hl22 => have h_ := HZ.out.1; clear hl1 hl2 hl3 hl4 hl5 hl6 hw1 hw2; omega
      intro v6 w6 ho hb hg6 hat
      obtain ⟨A6, c6, e6⟩ := Kd.R_slice ho
      subst e6
      have HT6 := Aside0.mk ho
      have HB6 := Aside0.mk hb
      have HG6 := Aside0.mk hg6
      have HAT6 := Aside0.mk hat
      have HW5 := Aside0.mk hHeld.1
      have HD6 := Aside0.mk (blk_grown hD5 hg6 (Kd.R_ne (Kd.R_below HR4.out hHeld.1) hD5 (by decide)))
      have HNE6 := Aside0.mk (Kd.R_ne ho HD6.out (by decide))
      clear ho hb hg6 hat
      refine hK.out _ _ ?_
      clear hK K
      refine norm_ (a' := ?_) ?_ ?_
      rotate_left
      · show Act.put _ (some 75) _ = _
        simp only [Act.put, List.setIfInBounds_toArray, List.set_cons_zero, List.set_cons_succ, i64_w, i32_w]
        rfl
      refine pure_ (i := 23) (N := some 76) (v := ?_) (a' := ?_) #[true, true, true, true, true, true, true, true, true, true, true, true, true, true, true, true, true, true, true, true, true, true, true, true, false, false] rfl rfl (by kernel_rfl) (fun _ _ _ h => h) (Or.inl ⟨by rfl, ?_⟩) ?_ ?_
      rotate_left
      · intro w'
        go_simp
        with_reducible rfl
      rotate_left
      · simp only [Act.put, List.setIfInBounds_toArray, List.set_cons_zero, List.set_cons_succ, i64_w, i32_w]
        rfl
      refine pure_ (i := 24) (N := some 77) (v := ?_) (a' := ?_) #[true, true, true, true, true, true, true, true, true, true, true, true, true, true, true, true, true, true, true, true, true, true, true, true, true, false] rfl rfl (by kernel_rfl) (fun _ _ _ h => h) (Or.inl ⟨by rfl, ?_⟩) ?_ ?_
      rotate_left
      · intro w'
        go_simp
        with_reducible rfl
      rotate_left
      · simp only [Act.put, List.setIfInBounds_toArray, List.set_cons_zero, List.set_cons_succ, i64_w, i32_w]
        rfl
      refine last_ (i := 25) (N := none) #[true, true, true, true, true, true, true, true, true, true, true, true, true, true, true, true, true, true, true, true, true, true, true, true, true, true] rfl rfl (by kernel_rfl) (by decide) (fun K hK => ?_)
      have hf6 : w6.frozen? ⟨g, 1, none⟩ = false := blk_frozen HD6.out 1
      have hd6 : w6.cell? ⟨g, 1, none⟩ = some (.slice AT c.dst.length cT) := (blk_cell HD6.out 1).trans rfl
      refine skip_ (w1 := ?_) (by rfl) rfl ?_ ?_
      rotate_left
      · go_simp
        rfl
      refine hK.out _ _ ?_
      clear hK K
      refine done_ (by kernel_rfl) ?_
      generalize hw7 : World.setCell w6 _ _ = w7
      have HD7 : Aside0 (w7.heap[g]? = some (.cells #[.slice (some ad) fr.length cF, .slice A6 (c.dst ++ takeL fr at_).length c6, .map (some bm), .slice A3 (c.mvs.length + 1) c3] 83 (0, 0))) := ⟨by rw [← hw7]; simpa using blk_set HD6.out 1 (.slice A6 (c.dst ++ takeL fr at_).length c6)⟩
      have HR7 : Aside0 (Kd.R (Kd.int .u64) 57 w7 B (fun _ => True) (.slice A6 (c.dst ++ takeL fr at_).length c6) (c.dst ++ takeL fr at_)) := ⟨by
        refine R_flat rfl HT6.out (fun k_ hk => ?_)
        have hg_ : k_ ≠ g := fun e_ => by subst e_; exact HNE6.out hk.symm
        rw [← hw7, Below.heap_setCell _ _ _ _ hg_]⟩
      have HT5 := Kd.R_below HT4.out HW5.out
      have HR5 := Kd.R_below HR4.out HW5.out
      have hap := R_apart2 HT5 HR5 (by decide)
      have HT7 : Aside0 (Kd.R k56 56 w7 B (fun _ => True) (.slice A3 (c.mvs ++ [(⟨(c.dst.length : Int), (at_ : Int)⟩ : Mv)]).length c3) (c.mvs ++ [⟨(c.dst.length : Int), (at_ : Int)⟩])) := ⟨by
        refine R_flat rfl HT5 (fun k_ hk => ?_)
        obtain ⟨cs_, hcs⟩ := Kd.R_typed HT5 k_ hk
        have hg_ : k_ ≠ g := fun e_ => by subst e_; exact Kd.R_ne HT4.out HD4.out (by decide) hk.symm
        rw [← hw7, Below.heap_setCell _ _ _ _ hg_]
        exact HG6.out.block k_ (blk_lt hcs) (hap k_ hk)⟩
      have HM7 : Aside0 (IsMap_ Try.prog 3 3 w7 bm (n + 1) (addC fr c (at_ : Int)).fn) := ⟨by
        have hm5 := HM4.out.below HW5.out
        have hx_ := hm5.kept HG6.out (by
          intro e_
          obtain ⟨cs_, hcs⟩ := Kd.R_typed HR5 bm e_.symm
          exact hm5.ne hcs rfl)
        rw [← hw7]
        exact hx_.set_ (by exact hx_.ne HD6.out) _⟩
      have HB7 : Aside0 (Below B w0 w7) := ⟨by rw [← hw7]; exact HB6.out.setCell HI.out.2.2.2.2.1 _⟩
      have HKP7 : Aside0 (Kept W w7 (colFoot g bm (.slice AT c.dst.length cT) (.slice AL c.mvs.length cL))) := ⟨by
        rw [← hw7]
        exact Kept.setCell (Kept.of_grown HG6.out (HKP4.out.below (below_cut HW5.out (Nat.le_refl _))) (fun k_ hk => .inl (.inr (.inr (.inl hk.symm))))) (.inl (.inl rfl)) _⟩
      have HST6 : Aside0 (Stays W (.slice AT c.dst.length cT) (.slice A6 (c.dst ++ takeL fr at_).length c6)) := ⟨by
        rcases HAT6.out with h_ | ⟨b_, h_, h2_⟩
        · exact .inl (by simpa [Value.ownBlock] using h_)
        · exact .inr ⟨b_, by simpa [Value.ownBlock] using h_, Nat.le_trans HKP4.out.1 (Nat.le_trans HW5.out.size h2_)⟩⟩
      clear hw7 hap hf6 hd6 hx hl1 hl2 hl3 hl4 hl5 hl6 hl7 hw1 hw2 hq0 hq1 hlg
      go_wp2_with fail
      refine (nanbox_Box.calls 2 5 (c.dst.length : Int) (bx 5 (c.dst.length : Int)).1 (bx 5 (c.dst.length : Int)).2 _ (box_f 2 5 (c.dst.length : Int) (Nat.le_refl _))).mono ?_
      rintro e w8 ⟨rfl, hb⟩
      have HCOL : Aside0 (IsCol B w8 g bm (.slice (some ad) fr.length cF) (.slice A6 (c.dst ++ takeL fr at_).length c6) (.slice A3 (c.mvs.length + 1) c3) (n + 1) (addC fr c (at_ : Int))) := ⟨by
        refine IsCol.below ⟨HD7.out, HR7.out, ?_, HM7.out, HI.out.2.2.2.2⟩ hb
        have h_ := HT7.out
        simp only [List.length_append, List.length_cons, List.length_nil] at h_
        exact h_⟩
      have HB8 : Aside0 (Below B w0 w8) := ⟨HB7.out.trans (below_cut hb (Nat.le_trans HI.out.2.2.2.2.1 (Nat.le_of_lt (blk_lt HD7.out))))⟩
      have HKP8 := Aside0.mk (HKP7.out.below hb)
      clear hb
      go_wp2
      go_ret
      rw [HM2.out]
      exact ⟨rfl, _, _, HCOL.out, HKP8.out, HST6.out, HST.out, HB8.out⟩
end Go.Proofs.Ytoleplbmkdhgeaa.Hal
