/- Package weak's reacher: what its methods do to its block and its two rows. -/
import Derived.Test.YtoleplbmkdhgeaaPN1
import Derived.RegionTactic
import Derived.ChangeAlike
set_option linter.unusedVariables false
set_option linter.unusedSimpArgs false
namespace Go.Proofs.Ytoleplbmkdhgeaa.Rch
open Go.RowKit Go.Proofs.YtoleplbmkdhgeaaW.PrintWords Go.Proofs.YtoleplbmkdhgeaaW.PrintLast Go.Proofs.YtoleplbmkdhgeaaW.PrintMore

/-- One thing is reached. -/
def push (s : List Bool × List Int) (n : Int) : List Bool × List Int := if s.1.getD n.toNat true = true then s else (s.1.set n.toNat true, s.2 ++ [n])
def reachL (s : List Bool × List Int) (l : List Int) : List Bool × List Int := l.foldl push s
theorem push_length (s : List Bool × List Int) (n : Int) : (push s n).1.length = s.1.length := by unfold push; split <;> simp
theorem reachL_length (l : List Int) : ∀ s, (reachL s l).1.length = s.1.length := by
  induction l with
  | nil => intro s; rfl
  | cons n l ih => intro s; rw [reachL, List.foldl_cons, ← reachL, ih, push_length]
/-- How many are not seen. -/
def unseen (s : List Bool) : Nat := s.count false
theorem unseen_set : ∀ (s : List Bool) (i : Nat), s.getD i true = false → unseen (s.set i true) + 1 = unseen s
  | [], i, h => by simp at h
  | b :: s, 0, h => by
    simp at h
    subst h
    simp [unseen]
  | b :: s, i + 1, h => by
    have := unseen_set s i (by simpa using h)
    unfold unseen at this ⊢
    simp only [List.set_cons_succ, List.count_cons]
    omega
theorem push_room (s : List Bool × List Int) (n : Int) : (push s n).2.length + unseen (push s n).1 = s.2.length + unseen s.1 := by
  unfold push
  split
  · rfl
  · rename_i h
    have := unseen_set s.1 n.toNat (by simpa using h)
    simp
    omega
theorem reachL_room (l : List Int) : ∀ s, (reachL s l).2.length + unseen (reachL s l).1 = s.2.length + unseen s.1 := by
  induction l with
  | nil => intro s; rfl
  | cons n l ih => intro s; rw [reachL, List.foldl_cons, ← reachL, ih, push_room]
theorem reachL_snoc (s : List Bool × List Int) (l : List Int) (n : Int) : reachL s (l ++ [n]) = push (reachL s l) n := by simp [reachL]

/-- The reacher at block g: what it was made of (h0, h1), its row of bools and its row of numbers, which are the call's own from block B on. -/
def Rc (B : Nat) (W : World) (g : Nat) (h0 h1 vt : Value) (gs cs : Nat) (s : List Bool × List Int) : Prop :=
  W.heap[g]? = some (.cells #[h0, h1, .slice (some ⟨gs, 0, none⟩) s.1.length cs, vt] 102 (0, 0)) ∧ W.ownsRow B 4 1 (.slice (some ⟨gs, 0, none⟩) s.1.length cs) s.1.length (bools s.1) ∧ W.ownsRow B 3 1 vt s.2.length (nums .i64 s.2) ∧ B ≤ g
theorem infoI : (Try.prog.info? 3).map (fun i => (i.zero, i.size, i.bytes)) = some (some (.int .i64 0), 1, 8) := by kernel_rfl
/-- What a call on it may write. -/
def wr_ (g gs : Nat) (vt : Value) (k : Nat) : Prop := k = g ∨ k = gs ∨ some k = vt.ownBlock
/-- Where the row of numbers lies behind: where it lay, or in a block that is new since. -/
def moved_ (w : World) (vt vt' : Value) : Prop := vt'.ownBlock = vt.ownBlock ∨ ∃ b, vt'.ownBlock = some b ∧ w.heap.size ≤ b
theorem bools_get (s : List Bool) (i : Nat) (h : i < s.length) : (bools s)[i]? = some (.bool (s.getD i true)) := by simp [bools, h]
set_option maxHeartbeats 4000000 in
set_option maxRecDepth 100000 in
theorem reach_calls (B : Nat) (w : World) (g : Nat) (h0 h1 vt : Value) (gs cs : Nat) (s : List Bool × List Int) (A : Option Addr) (c : Nat) (l : List Int)
    (hI : Rc B w g h0 h1 vt gs cs s) (hl : Kd.C (Kd.int .i64) w A l.length l) (hlc : l.length ≤ c)
    (hfar : ∀ ad, A = some ad → 0 < l.length → ¬ wr_ g gs vt ad.block)
    (hin : ∀ x ∈ l, 0 ≤ x ∧ x < s.1.length) (hbd : s.2.length + unseen s.1 ≤ 1000000) :
    Calls Try.prog 53 #[.pointer (some ⟨g, 0, none⟩), .slice A l.length c] w fun e w' => e = .returned (.tuple #[]) ∧ ∃ vt', Rc B w' g h0 h1 vt' gs cs (reachL s l) ∧ Kept w w' (wr_ g gs vt) ∧ moved_ w vt vt' ∧ Below B w w' := by
  have HI := Aside0.mk hI
  have HL := Aside0.mk hl
  have HF := Aside0.mk hfar
  have HN := Aside0.mk hin
  have HD := Aside0.mk hbd
  have hmax : l.length ≤ 9223372036854775807 := hl.2.1
  have HU := Try.underlying23
  clear hI hl hfar hin hbd hlc
  go_enter Try.func53, Try.ntmps53
  go_wp2
  go_loopg [8] l.length (fun kq v8 W => ∃ (i : Nat) (vt' : Value), v8 = .int .i64 (i : Int) ∧ Aside0 (i ≤ l.length ∧ kq = l.length - i) ∧ Aside0 (Rc B W g h0 h1 vt' gs cs (reachL s (l.take i))) ∧ Aside0 (Kept w W (wr_ g gs vt)) ∧ Aside0 (moved_ w vt vt') ∧ Aside0 (Below B w W))
  case atStart => exact ⟨0, vt, rfl, ⟨Nat.zero_le _, by omega⟩, ⟨by simpa [reachL] using HI.out⟩, ⟨Kept.refl _ _⟩, ⟨.inl rfl⟩, ⟨Below.refl _ _⟩⟩
  case round =>
    obtain ⟨i, vt', rfl, HIQ, HR, HK, HM, HB⟩ := hrel
    by_cases hlt : i < l.length
    · have hlt' : ((i : Int) < (l.length : Int)) = True := by simp; omega
      have hi0 : (0 ≤ (i : Int)) = True := by simp
      have hdec : decide ((i : Int) < (l.length : Int)) = true := by simp; omega
      have hdec2 : decide (i < l.length) = true := by simp; omega
      obtain ⟨hg, hs, ht, hBg⟩ := HR.out
      obtain ⟨ad, e, hx⟩ := Kd.at_int HL.out (i : Int) (by omega) (by omega)
      have hf := HF.out ad e (by omega)
      subst e
      have hx' : wr.cell? (ad.add (i : Int).toNat) = some (.int .i64 (rd l i)) := cell_kept hx HK.out (by rw [add_block]; exact hf)
      rw [Int.toNat_natCast] at hx'
      clear hx
      have hn : 0 ≤ rd l i ∧ rd l i < s.1.length := HN.out _ (by unfold rd; simp [List.getD_eq_getElem?_getD, hlt])
      have hsnoc : l.take (i + 1) = l.take i ++ [rd l i] := by rw [List.take_succ_eq_append_getElem hlt]; unfold rd; simp [List.getD_eq_getElem?_getD, hlt]
      have HS := Aside0.mk hsnoc
      clear hsnoc
      have hlen := reachL_length (l.take i) s
      have hroom := reachL_room (l.take i) s
      generalize rd l i = n at hx' hn HS
      obtain ⟨s', es⟩ : ∃ s', s' = reachL s (l.take i) := ⟨_, rfl⟩
      rw [← es] at hg hs ht hlen hroom HR
      have HE := Aside0.mk es
      clear es
      have hn1 : n < s'.1.length := by rw [hlen]; exact hn.2
      have hn0 := hn.1
      clear hn
      have hsn : wr.cell? ((⟨gs, 0, none⟩ : Addr).add n.toNat) = some (.bool (s'.1.getD n.toNat true)) := hs.cells rfl _ _ (bools_get _ _ (by omega))
      have hsf : wr.frozen? ((⟨gs, 0, none⟩ : Addr).add n.toNat) = false := by
        rcases hs.2 with ⟨h_, _⟩ | ⟨g', cap, cur, he, _, hh, _⟩
        · simp at h_
        · simp only [Value.slice.injEq, Option.some.injEq, Addr.mk.injEq, and_true, true_and] at he
          obtain ⟨rfl, rfl⟩ := he
          rw [add_plain]; exact blk_frozen hh _
      rw [add_plain] at hsn hsf
      have hgs : gs ≠ g := by
        rcases hs.2 with ⟨h_, _⟩ | ⟨g', cap, cur, he, _, hh, _⟩
        · simp at h_
        · simp only [Value.slice.injEq, Option.some.injEq, Addr.mk.injEq, and_true, true_and] at he
          obtain ⟨rfl, rfl⟩ := he
          exact blk_ne hh hg (by decide)
      have hc0 : wr.cell? ⟨g, 0, none⟩ = some h0 := (blk_cell hg 0).trans rfl
      have hc1 : wr.cell? ⟨g, 1, none⟩ = some h1 := (blk_cell hg 1).trans rfl
      have hc2 : wr.cell? ⟨g, 2, none⟩ = some (.slice (some ⟨gs, 0, none⟩) s'.1.length cs) := (blk_cell hg 2).trans rfl
      have hc3 : wr.cell? ⟨g, 3, none⟩ = some vt' := (blk_cell hg 3).trans rfl
      have hp0 : (0 ≤ n) = True := eq_true hn0
      have hp1 : (n < (s'.1.length : Int)) = True := eq_true hn1
      have HG := Aside0.mk hg
      have HS1 := Aside0.mk hs
      have HT := Aside0.mk ht
      have HBG := Aside0.mk hBg
      have HLN := Aside0.mk hlen
      have HRM := Aside0.mk hroom
      have HN1 := Aside0.mk (And.intro hn0 hn1)
      have HLT := Aside0.mk hlt
      clear hg hs ht hBg hlen hroom hn0 hn1 hlt
      by_cases hb : s'.1.getD n.toNat true = true
      · have HBB := Aside0.mk hb
        rw [hb] at hsn
        clear hb
        go_wp2
        go_roundg (l.length - (i + 1))
        case measure => have := HIQ.out; have := HLT.out; omega
        case rel => 
          refine ⟨i + 1, vt', by first | rfl | (have := HLT.out; rw [show wrap64 ((i : Int) + 1) = ((i + 1 : Nat) : Int) from by unfold wrap64; omega]), ⟨by have := HLT.out; omega, rfl⟩, ⟨?_⟩, HK, HM, HB⟩
          rw [HS.out, reachL_snoc, ← HE.out, push, if_pos HBB.out]
          exact HR.out
      · have hbf : s'.1.getD n.toNat true = false := by simpa using hb
        have HBB := Aside0.mk hbf
        rw [hbf] at hsn
        clear hb hbf
        have hne1 : some gs ≠ vt'.ownBlock := by
          rcases own_type_ne HS1.out HT.out (by decide) with h_ | h_
          · simp [Value.ownBlock] at h_
          · exact h_
        have hne2 : some g ≠ vt'.ownBlock := own_ne HT.out HG.out (by decide)
        have ST := Aside0.mk (World.ownsRow.stored HS1.out n.toNat (.bool true))
        have HT1 := Aside0.mk (own_setCell HT.out (p := ⟨gs, n.toNat, none⟩) hne1 (.bool true))
        have HG1 := Aside0.mk (blk_far HG.out (p := ⟨gs, n.toNat, none⟩) (Ne.symm hgs) (.bool true))
        have HB1 := Aside0.mk (HB.out.setCell (p := ⟨gs, n.toNat, none⟩) (own_base HS1.out gs rfl) (.bool true))
        have HK1 := Aside0.mk (Kept.setCell HK.out (p := ⟨gs, n.toNat, none⟩) (.inl (.inr (.inl rfl))) (.bool true))
        have HZ := Aside0.mk (show (wr.setCell ⟨gs, n.toNat, none⟩ (.bool true)).heap.size = wr.heap.size from by simp [World.setCell])
        have HNE := Aside0.mk (And.intro hne1 hne2)
        clear hne1 hne2
        go_wp2_with (first | ((with_reducible refine gate_builtin (b := .append) (xs := #[.tmp 30, .tmp 32]) rfl ?_); refine print_append_num (w0 := w) B rfl (.tmp 30) (.tmp 32) 23 3 .i64 8 rfl HU infoI (by decide) vt' s'.2 n rfl ?hx HT1.out HB1.out ?hbase ?hl ?_; (case hx => rw [HZ.out]; rfl); (case hbase => rw [HZ.out]; have h_ := HBG.out; have h2_ := blk_lt HG.out; omega); (case hl => have h_ := HRM.out; have h2_ := HD.out; omega); intro v1 w1 ho hb hg2 hat; obtain ⟨A1, c1, e1⟩ := own_slice ho; subst e1; have HO := Aside0.mk ho; have HB2 := Aside0.mk hb; have HGR := Aside0.mk hg2; have HAT := Aside0.mk hat; have HG2 := Aside0.mk (blk_grown HG1.out hg2 HNE.out.2); have hd3 : w1.cell? ⟨g, 3, none⟩ = some vt' := (blk_cell HG2.out 3).trans rfl; have hd4 : w1.frozen? ⟨g, 3, none⟩ = false := blk_frozen HG2.out 3; clear ho hb hg2 hat))
        go_roundg (l.length - (i + 1))
        case measure => have := HIQ.out; have := HLT.out; omega
        case rel =>
          refine ⟨i + 1, .slice A1 (s'.2 ++ [n]).length c1, by first | rfl | (have := HLT.out; rw [show wrap64 ((i : Int) + 1) = ((i + 1 : Nat) : Int) from by unfold wrap64; omega]), ⟨by have := HLT.out; omega, rfl⟩, ⟨?_⟩, ⟨?_⟩, ⟨?_⟩, ⟨?_⟩⟩
          · rw [HS.out, reachL_snoc, ← HE.out, push, if_neg (by rw [HBB.out]; decide)]
            have hgv1 := own_ne HO.out HG2.out (by decide)
            refine ⟨?_, ?_, own_setCell HO.out (p := ⟨g, 3, none⟩) hgv1 _, HBG.out⟩
            · have h_ := blk_set HG2.out 3 (.slice A1 (s'.2 ++ [n]).length c1)
              simpa using h_
            · have h_ := own_setCell (ST.out.1.kept HGR.out (.inr (by exact HNE.out.1))) (p := ⟨g, 3, none⟩) (by simpa [Value.ownBlock] using Ne.symm hgs) (.slice A1 (s'.2 ++ [n]).length c1)
              simpa [bools, List.map_set] using h_
          · refine Kept.setCell (Kept.of_grown HGR.out HK1.out ?_) (.inl (.inl rfl)) _
            intro k hk
            rcases HM.out with hm | ⟨b, hm, hb⟩
            · exact .inl (.inr (.inr (by rw [← hk, hm])))
            · rw [hm] at hk; injection hk with hk; subst hk; exact .inr hb
          · have hsz : w.heap.size ≤ wr.heap.size := HK.out.1
            rcases HAT.out with ha | ⟨b, ha, hb⟩
            · rcases HM.out with hm | ⟨b, hm, hb⟩
              · exact .inl (ha.trans hm)
              · exact .inr ⟨b, ha.trans hm, hb⟩
            · exact .inr ⟨b, ha, by rw [HZ.out] at hb; omega⟩
          · exact HB2.out.setCell HBG.out _
    · have hdec : decide ((i : Int) < (l.length : Int)) = false := by simp; omega
      have hdec2 : decide (i < l.length) = false := by simp; omega
      clear hlt
      go_wp2
      go_end0
      have hi : i = l.length := by have := HIQ.out; simp at hdec2; omega
      subst hi
      rw [List.take_length] at HR
      exact ⟨rfl, vt', HR.out, HK.out, HM.out, HB.out⟩

/-! ### all -/
def allL (has : List (List Int)) : Nat → List Bool × List Int → List Bool × List Int
  | 0, s => s
  | k + 1, s => if s.2 = [] then s else allL has k (reachL (s.1, s.2.dropLast) (has.getD (s.2.getLastD 0).toNat []))
/-- Numbers of things. -/
def InR (n : Nat) (l : List Int) : Prop := ∀ x ∈ l, 0 ≤ x ∧ x < (n : Int)
theorem push_in {n : Nat} {s : List Bool × List Int} {x : Int} (h : InR n s.2) (hx : 0 ≤ x ∧ x < (n : Int)) : InR n (push s x).2 := by
  unfold push
  split
  · exact h
  · intro y hy
    rcases List.mem_append.1 hy with hy | hy
    · exact h y hy
    · rw [List.mem_singleton.1 hy]; exact hx
theorem reachL_in {n : Nat} (l : List Int) : ∀ {s : List Bool × List Int}, InR n s.2 → InR n l → InR n (reachL s l).2 := by
  induction l with
  | nil => intro s h _; exact h
  | cons x l ih =>
    intro s h hl
    rw [reachL, List.foldl_cons, ← reachL]
    exact ih (push_in h (hl x (by simp))) (fun y hy => hl y (by simp [hy]))
def meas (s : List Bool × List Int) : Nat := 2 * unseen s.1 + s.2.length
theorem push_unseen (s : List Bool × List Int) (x : Int) : unseen (push s x).1 ≤ unseen s.1 := by
  unfold push
  split
  · exact Nat.le_refl _
  · rename_i h
    have := unseen_set s.1 x.toNat (by simpa using h)
    simp
    omega
theorem reachL_unseen (l : List Int) : ∀ s, unseen (reachL s l).1 ≤ unseen s.1 := by
  induction l with
  | nil => intro s; exact Nat.le_refl _
  | cons x l ih => intro s; rw [reachL, List.foldl_cons, ← reachL]; exact Nat.le_trans (ih _) (push_unseen s x)
theorem step_meas (s : List Bool × List Int) (l : List Int) (h : s.2 ≠ []) : meas (reachL (s.1, s.2.dropLast) l) + 1 ≤ meas s := by
  have h1 := reachL_room l (s.1, s.2.dropLast)
  have h2 := reachL_unseen l (s.1, s.2.dropLast)
  have h3 : s.2.dropLast.length + 1 = s.2.length := by
    rw [List.length_dropLast]
    have : 0 < s.2.length := List.length_pos_iff.2 h
    omega
  unfold meas
  simp only at h1 h2
  omega
theorem last_get (l : List Int) (h : l ≠ []) : l[l.length - 1]? = some (l.getLastD 0) := by
  rw [← List.getLast?_eq_getElem?, List.getLast?_eq_some_getLast h, List.getLastD_eq_getLast?, List.getLast?_eq_some_getLast h]
  rfl
theorem last_mem (l : List Int) (h : l ≠ []) : l.getLastD 0 ∈ l := by
  rw [List.getLastD_eq_getLast?, List.getLast?_eq_some_getLast h]
  exact List.getLast_mem h
theorem own_cut {W : World} {B e : Nat} {gt m cap : Nat} {xs : List Int} (h : W.ownsRow B e 1 (.slice (some ⟨gt, 0, none⟩) m cap) m (nums .i64 xs)) (hm : xs.length = m) : W.ownsRow B e 1 (.slice (some ⟨gt, 0, none⟩) (m - 1) cap) (m - 1) (nums .i64 xs.dropLast) := by
  obtain ⟨h1, h2⟩ := h
  refine ⟨by simp [nums, hm], ?_⟩
  rcases h2 with ⟨h2, _⟩ | ⟨g', cap', cur, he, hb, hh, hn, hc, hs, ht⟩
  · simp at h2
  · simp only [Value.slice.injEq, Option.some.injEq, Addr.mk.injEq, and_true, true_and] at he
    obtain ⟨rfl, rfl⟩ := he
    refine .inr ⟨gt, cap, cur, rfl, hb, hh, by omega, hc, hs, ?_⟩
    have : nums .i64 xs.dropLast = (nums .i64 xs).dropLast := by simp [nums]
    rw [this, ← ht, List.dropLast_eq_take, List.length_take, List.take_take]
    congr 1
    have : cur.toList.length = cap := by simp; omega
    omega
theorem own_cap {W : World} {B e n c : Nat} {A : Option Addr} {sz : Nat} {xs : List Value} (h : W.ownsRow B e sz (.slice A n c) n xs) : n ≤ c := by
  rcases h.2 with ⟨h2, _⟩ | ⟨g', cap', cur, he, hb, hh, hn, hc, hs, ht⟩
  · simp at h2; omega
  · simp only [Value.slice.injEq, true_and] at he
    obtain ⟨rfl, rfl⟩ := he
    exact hn
theorem kept_both {w W W2 : World} {g gs : Nat} {vt vt' : Value} (h : Kept w W (wr_ g gs vt)) (hm : moved_ w vt vt') (k : Kept W W2 (wr_ g gs vt')) : Kept w W2 (wr_ g gs vt) := by
  refine h.then_ k ?_
  rintro k (rfl | rfl | hk)
  · exact .inl (.inl rfl)
  · exact .inl (.inr (.inl rfl))
  · rcases hm with hm | ⟨b, hm, hb⟩
    · exact .inl (.inr (.inr (by rw [hk, hm])))
    · rw [hm] at hk; injection hk with hk; subst hk; exact .inr hb
theorem moved_both {w W : World} {vt vt' vt2 : Value} (h : moved_ w vt vt') (hs : w.heap.size ≤ W.heap.size) (k : moved_ W vt' vt2) : moved_ w vt vt2 := by
  rcases k with k | ⟨b, k, hb⟩
  · rcases h with h | ⟨b, h, hb⟩
    · exact .inl (k.trans h)
    · exact .inr ⟨b, k.trans h, hb⟩
  · exact .inr ⟨b, k, Nat.le_trans hs hb⟩
set_option maxHeartbeats 4000000 in
set_option maxRecDepth 100000 in
theorem all_calls (w0 w : World) (g : Nat) (AH : Option Addr) (cH : Nat) (has : List (List Int)) (h1 vt : Value) (gs cs : Nat) (s : List Bool × List Int)
    (hI : Rc w0.heap.size w g (.slice AH has.length cH) h1 vt gs cs s) (hB : Below w0.heap.size w0 w) (hH : Kd.C (Kd.slice 3 (Kd.int .i64)) w0 AH has.length has)
    (hlen : s.1.length = has.length) (hin : InR has.length s.2) (hhas : ∀ l ∈ has, InR has.length l) (hbd : s.2.length + unseen s.1 ≤ 1000000) :
    Calls Try.prog 54 #[.pointer (some ⟨g, 0, none⟩)] w fun e w' => e = .returned (.tuple #[]) ∧ ∃ vt', Rc w0.heap.size w' g (.slice AH has.length cH) h1 vt' gs cs (allL has (meas s) s) ∧ (allL has (meas s) s).2 = [] ∧ Kept w w' (wr_ g gs vt) ∧ moved_ w vt vt' ∧ Below w0.heap.size w0 w' := by
  have HI := Aside0.mk hI
  have HB0 := Aside0.mk hB
  have HH := Aside0.mk hH
  have HL := Aside0.mk hlen
  have HN := Aside0.mk hin
  have HS := Aside0.mk hhas
  have HD := Aside0.mk hbd
  have HU := Try.underlying23
  have HU2 := Try.underlying22
  clear hI hB hH hlen hin hhas hbd
  go_enter Try.func54, Try.ntmps54
  go_wp2
  go_loopg [2] (meas s) (fun kq v2 W => ∃ (s' : List Bool × List Int) (vt' : Value), Aside0 (allL has kq s' = allL has (meas s) s) ∧ Aside0 (meas s' ≤ kq) ∧ Aside0 (Rc w0.heap.size W g (.slice AH has.length cH) h1 vt' gs cs s') ∧ Aside0 (s'.1.length = has.length ∧ InR has.length s'.2 ∧ s'.2.length + unseen s'.1 ≤ 1000000) ∧ Aside0 (Kept w W (wr_ g gs vt)) ∧ Aside0 (moved_ w vt vt') ∧ Aside0 (Below w0.heap.size w0 W))
  case atStart => exact ⟨s, vt, ⟨rfl⟩, ⟨Nat.le_refl _⟩, HI, ⟨HL.out, HN.out, HD.out⟩, ⟨Kept.refl _ _⟩, ⟨.inl rfl⟩, HB0⟩
  case round =>
    obtain ⟨s', vt', HA, HM0, HR, HP, HK, HM, HB⟩ := hrel
    obtain ⟨hg, hs, ht, hBg⟩ := HR.out
    obtain ⟨A1, c1, e1⟩ := own_slice ht
    subst e1
    have hc0 : wr.cell? ⟨g, 0, none⟩ = some (.slice AH has.length cH) := (blk_cell hg 0).trans rfl
    have hc3 : wr.cell? ⟨g, 3, none⟩ = some (.slice A1 s'.2.length c1) := (blk_cell hg 3).trans rfl
    have hf3 : wr.frozen? ⟨g, 3, none⟩ = false := blk_frozen hg 3
    by_cases hz : s'.2 = []
    · have hd1 : decide ((0 : Int) < (s'.2.length : Int)) = false := by simp [hz]
      have hd2 : decide (0 < s'.2.length) = false := by simp [hz]
      have HZ := Aside0.mk hz
      clear hz hg hs ht hBg
      go_wp2
      go_end0
      have he : allL has gk s' = s' := by
        cases gk with
        | zero => rfl
        | succ k => rw [allL, if_pos HZ.out]
      rw [← HA.out, he]
      exact ⟨rfl, _, HR.out, HZ.out, HK.out, HM.out, HB.out⟩
    · have hpos : 0 < s'.2.length := List.length_pos_iff.2 hz
      obtain ⟨gt, cap, e2, _, _⟩ := ht.form hpos
      simp only [Value.slice.injEq, true_and] at e2
      obtain ⟨rfl, rfl⟩ := e2
      have hd1 : decide ((0 : Int) < (s'.2.length : Int)) = true := by simp; omega
      have hd2 : decide (0 < s'.2.length) = true := by simp; omega
      have hlast := last_get s'.2 hz
      have hr := HP.out.2.1 _ (last_mem s'.2 hz)
      have hb8 : s'.2.length ≤ 1000000 := by have := HP.out.2.2; omega
      have hx : wr.cell? ⟨gt, s'.2.length - 1, none⟩ = some (.int .i64 (s'.2.getLastD 0)) := by
        have h_ := ht.cells (g := gt) rfl (s'.2.length - 1) (.int .i64 (s'.2.getLastD 0)) (by rw [nums, List.getElem?_map, hlast]; rfl)
        rwa [add_plain] at h_
      have hgt : gt ≠ g := fun e_ => own_ne ht hg (by decide) (by rw [e_]; rfl)
      have HT2 := Aside0.mk (own_cut ht rfl)
      have HG := Aside0.mk hg
      have HS1 := Aside0.mk hs
      have HT := Aside0.mk ht
      have HBG := Aside0.mk hBg
      have HZ := Aside0.mk hz
      have hw1 : (1 : Int) ≤ (s'.2.length : Int) := by omega
      have hcl : s'.2.length ≤ c1 := own_cap ht
      have hw2 : (s'.2.length : Int) ≤ 1000000 := by omega
      have hn0 : 0 ≤ s'.2.getLastD 0 := hr.1
      have hn1 : s'.2.getLastD 0 < (has.length : Int) := hr.2
      have HN1 := Aside0.mk (And.intro hn0 hn1)
      obtain ⟨n, hnn⟩ : ∃ n, n = s'.2.getLastD 0 := ⟨_, rfl⟩
      rw [← hnn] at hx hn0 hn1 HN1
      have HNN := Aside0.mk hnn
      clear hnn
      -- the thing's own row
      obtain ⟨adH, cz, eH, hcz, hKz, hcellz⟩ := Kd.C_get HH.out [] n hn0 hn1
      obtain ⟨Ai, ci, rfl, hli, hCi⟩ := hKz
      obtain ⟨ln, hln⟩ : ∃ ln, ln = has.getD n.toNat [] := ⟨_, rfl⟩
      rw [← hln] at hli hCi hcellz
      have HLNE := Aside0.mk hln
      clear hln
      have HCI := Aside0.mk hCi
      have HLI := Aside0.mk hli
      subst eH
      have hrow : wr.cell? (adH.add n.toNat) = some (.slice Ai ln.length ci) := by
        have h_ := hcellz 0 _ rfl
        have h2_ : w0.cell? (adH.add n.toNat) = some (.slice Ai ln.length ci) := by simpa [Kd.slice] using h_
        exact (HB.out.cell (World.block_lt_of_cell? w0 _ h2_)).trans h2_
      have HCELL := Aside0.mk hcellz
      have hp0 : (0 ≤ n) = True := eq_true hn0
      have hp1 : (n < (has.length : Int)) = True := eq_true hn1
      clear hcellz hCi hli hg hs ht hBg hz hlast hr hb8 hn0 hn1
      go_wp2
      go_quiet (fail)
      have hwr : IntKind.i64.wrap ((s'.2.length : Int) - 1) = (s'.2.length : Int) - 1 := by rw [IntKind.wrap_i64]; omega
      have hk1 : (0 ≤ (s'.2.length : Int) - 1) = True := eq_true (by omega)
      have hk2 : (1 ≤ (s'.2.length : Int)) = True := eq_true (by omega)
      have hk3 : ((s'.2.length : Int) - 1 ≤ (c1 : Int)) = True := eq_true (by omega)
      have hk4 : ((s'.2.length : Int) ≤ (c1 : Int) + 1) = True := eq_true (by omega)
      have hk5 : ((s'.2.length : Int) - 1).toNat = s'.2.length - 1 := by omega
      have hblk : (adH.add n.toNat).block < w0.heap.size := by
        have h_ := HCELL.out 0 _ rfl
        exact World.block_lt_of_cell? w0 (adH.add n.toNat) (by simpa [Kd.slice] using h_)
      have hrow2 : ∀ (m : Nat) (u : Value), ((wr.drewN m).setCell ⟨g, 3, none⟩ u).cell? (adH.add n.toNat) = some (.slice Ai ln.length ci) := by
        intro m u
        rw [World.cell?_of_block (Below.heap_setCell (wr.drewN m) ⟨g, 3, none⟩ u (adH.add n.toNat).block (by have := HBG.out; show _ ≠ g; omega))]
        exact hrow
      have HRW := Aside0.mk hrow
      have HBK := Aside0.mk hblk
      clear hrow hblk
      have HCH := Aside0.mk (show InR has.length ln from by
        have hm : n.toNat < has.length := by have := HN1.out; omega
        rw [HLNE.out, List.getD_eq_getElem?_getD, List.getElem?_eq_getElem hm]
        exact HS.out _ (List.getElem_mem hm))
      have hgk : ∃ k, gk = k + 1 := ⟨gk - 1, by have := HM0.out; unfold meas at this; omega⟩
      obtain ⟨k, rfl⟩ := hgk
      go_wp2
      go_region
      all_goals
        go_wp2_with fail
        refine (reach_calls w0.heap.size _ g (.slice (some adH) has.length cH) h1 (.slice (some ⟨gt, 0, none⟩) (s'.2.length - 1) c1) gs cs (s'.1, s'.2.dropLast) Ai ci ln ?i1 ?i2 ?i3 ?i4 ?i5 ?i6).mono ?_
        case i1 =>
          exact ⟨by have h_ := blk_set HG.out 3 (.slice (some ⟨gt, 0, none⟩) (s'.2.length - 1) c1); exact h_, own_setCell HS1.out (p := ⟨g, 3, none⟩) (own_ne HS1.out HG.out (by decide)) _, by have h_ := own_setCell HT2.out (p := ⟨g, 3, none⟩) (by simpa [Value.ownBlock] using Ne.symm hgt) (.slice (some ⟨gt, 0, none⟩) (s'.2.length - 1) c1); rw [List.length_dropLast]; exact h_, HBG.out⟩
        case i2 =>
          exact Kd.C_below HCI.out ((pw_below_drewN HB.out _).setCell (p := ⟨g, 3, none⟩) HBG.out _)
        case i3 =>
          exact HLI.out
        case i4 =>
          intro ad ha hl
          obtain ⟨a_, e_, hc_⟩ := HCI.out.2.2 hl
          rw [ha] at e_
          injection e_ with e_
          subst e_
          obtain ⟨cc, hcl, hck, hcc⟩ := hc_ 0 _ (List.getElem?_eq_getElem hl)
          have hb_ : ad.block < w0.heap.size := (by have h_ := World.block_lt_of_cell? w0 _ (hcc 0 _ (by rw [hck]; rfl)); rwa [add_block] at h_)
          have g1 := HBG.out
          have g2 := own_base HS1.out gs rfl
          have g3 := own_base HT.out gt rfl
          unfold wr_
          simp only [Value.ownBlock, Option.some.injEq]
          omega
        case i5 =>
          intro x hx
          have h_ := HCH.out x hx
          have h2_ := HP.out.1
          exact ⟨h_.1, by show x < (s'.1.length : Int); rw [h2_]; exact h_.2⟩
        case i6 =>
          have h_ := HP.out.2.2
          simp only [List.length_dropLast]
          omega
        rintro e w2 ⟨rfl, vt2, hI2, hkp2, hm2, hb2⟩
        have HI2 := Aside0.mk hI2
        have HK2 := Aside0.mk hkp2
        have HM2 := Aside0.mk hm2
        have HB2 := Aside0.mk hb2
        clear hI2 hkp2 hm2 hb2
        try go_wp2
      all_goals
        go_roundg k
        case measure => omega
        case rel =>
          have hstep := step_meas s' ln HZ.out
          have hnx : allL has (k + 1) s' = allL has k (reachL (s'.1, s'.2.dropLast) ln) := by rw [allL, if_neg HZ.out, ← HNN.out, HLNE.out]
          refine ⟨reachL (s'.1, s'.2.dropLast) ln, vt2, ⟨hnx.symm.trans HA.out⟩, ⟨by have := HM0.out; omega⟩, HI2, ⟨?_, ?_, ?_⟩, ⟨?_⟩, ⟨?_⟩, ⟨?_⟩⟩
          · rw [reachL_length]; exact HP.out.1
          · exact reachL_in ln (fun x hx => HP.out.2.1 x (List.dropLast_subset _ hx)) HCH.out
          · have h_ := reachL_room ln (s'.1, s'.2.dropLast)
            have h2_ := HP.out.2.2
            rw [h_]; simp only [List.length_dropLast]; omega
          · exact kept_both (vt' := .slice (some ⟨gt, 0, none⟩) (s'.2.length - 1) c1) (Kept.setCell (p := ⟨g, 3, none⟩) HK.out (.inl (.inl rfl)) _) HM.out HK2.out
          · exact moved_both (vt' := .slice (some ⟨gt, 0, none⟩) (s'.2.length - 1) c1) HM.out (by have h_ := HK.out.1; simpa [World.setCell] using h_) HM2.out
          · exact ((pw_below_drewN HB.out _).setCell (p := ⟨g, 3, none⟩) HBG.out _).trans HB2.out

/-! ### From -/
def fromL (has : List (List Int)) (l : List Int) : List Bool :=
  let s := reachL (List.replicate has.length false, []) l
  (allL has (meas s) s).1
def okF (has : List (List Int)) (l : List Int) : Bool := decide (has.length ≤ 1000000) && has.all (fun l => l.all fun x => decide (0 ≤ x ∧ x < (has.length : Int))) && l.all fun x => decide (0 ≤ x ∧ x < (has.length : Int))
theorem okF_iff {has : List (List Int)} {l : List Int} : okF has l = true ↔ has.length ≤ 1000000 ∧ (∀ l ∈ has, InR has.length l) ∧ InR has.length l := by
  unfold okF InR
  simp only [Bool.and_eq_true, List.all_eq_true, decide_eq_true_eq]
  exact ⟨fun h => ⟨h.1.1, h.1.2, h.2⟩, fun h => ⟨⟨h.1, h.2.1⟩, h.2.2⟩⟩
theorem unseen_replicate (n : Nat) : unseen (List.replicate n false) = n := by unfold unseen; simp
theorem allL_length (has : List (List Int)) : ∀ (k : Nat) (s : List Bool × List Int), (allL has k s).1.length = s.1.length
  | 0, _ => rfl
  | k + 1, s => by
    rw [allL]
    split
    · rfl
    · rw [allL_length has k, reachL_length]
theorem fromL_length (has : List (List Int)) (l : List Int) : (fromL has l).length = has.length := by
  unfold fromL
  rw [allL_length, reachL_length, List.length_replicate]
theorem own_made_bool (W : World) (base : Nat) (e : TypeId) (m : Nat) (hb : base ≤ W.heap.size) (hm : m ≤ 9223372036854775807) :
    (W.alloc (.cells (madeCells #[.bool false] m) e)).ownsRow base e 1 (.slice (some ⟨W.heap.size, 0, none⟩) m m) m (bools (List.replicate m false)) := by
  have h := World.ownsRow_lit (base := base) (e := e) (size := 1) W (madeCells #[.bool false] m) m hb (by simpa [maxLen] using hm) (by simp [size_madeCells])
  have hl : (madeCells #[Value.bool false] m).toList = bools (List.replicate m false) := by
    apply List.ext_getElem
    · simp [bools, madeCells]
    · intro i h1 h2
      simp [bools, madeCells, Nat.mod_one]
  rw [hl] at h
  exact h
theorem block_of_C {w : World} {A : Option Addr} {l : List Int} {ad : Addr} (h : Kd.C (Kd.int .i64) w A l.length l) (ha : A = some ad) (hp : 0 < l.length) : ad.block < w.heap.size := by
  obtain ⟨a_, e_, hc_⟩ := h.2.2 hp
  rw [ha] at e_
  injection e_ with e_
  subst e_
  obtain ⟨cc, hcl, hck, hcc⟩ := hc_ 0 _ (List.getElem?_eq_getElem hp)
  have h_ := World.block_lt_of_cell? w _ (hcc 0 _ (by rw [hck]; rfl))
  rwa [add_block] at h_
set_option maxHeartbeats 4000000 in
set_option maxRecDepth 100000 in
theorem from_calls (w : World) (AH : Option Addr) (cH : Nat) (has : List (List Int)) (AR : Option Addr) (nR cR : Nat) (A : Option Addr) (c : Nat) (l : List Int)
    (hH : Kd.C (Kd.slice 3 (Kd.int .i64)) w AH has.length has) (hl : Kd.C (Kd.int .i64) w A l.length l) (hlc : l.length ≤ c)
    (hhas : ∀ l ∈ has, InR has.length l) (hin : InR has.length l) (hsz : has.length ≤ 1000000) :
    Calls Try.prog 39 #[.agg #[.slice AH has.length cH, .slice AR nR cR], .slice A l.length c] w fun e w' => ∃ v0 : Value, e = .returned v0 ∧ Kd.R Kd.bool 4 w' w.heap.size (fun _ => True) v0 (fromL has l) ∧ Below w.heap.size w w' := by
  have HH := Aside0.mk hH
  have HL := Aside0.mk hl
  have HLC := Aside0.mk hlc
  have HS := Aside0.mk hhas
  have HN := Aside0.mk hin
  have HZ := Aside0.mk hsz
  have hm0 : has.length ≤ 1000000 := hsz
  have hmk : ∀ W : World, (Instr.makeSlice 38 (.int .i64 (has.length : Int)) (.int .i64 (has.length : Int))).run Try.prog W = .ok (.slice (some ⟨W.heap.size, 0, none⟩) has.length has.length) (W.alloc (.cells (madeCells #[.bool false] has.length) 4)) := by
    intro W
    exact run_make_row' 38 4 (.bool false) 1 Try.underlying38 (by kernel_rfl) rfl .i64 .i64 has.length (by omega) (by omega) W
  clear hH hl hlc hhas hin hsz
  go_enter Try.func39, Try.ntmps39
  go_wp2
  go_region
  go_wp2_with fail
  have hI : Rc w.heap.size (((w.alloc (Obj.cells #[.slice AH has.length cH, .slice AR nR cR] 25)).alloc (Obj.cells (madeCells #[.bool false] has.length) 4)).alloc (Obj.cells #[.slice AH has.length cH, .slice AR nR cR, .slice (some ⟨w.heap.size + 1, 0, none⟩) has.length has.length, .slice none 0 0] 102)).drew (w.heap.size + 1 + 1) (.slice AH has.length cH) (.slice AR nR cR) (.slice none 0 0) (w.heap.size + 1) has.length (List.replicate has.length false, []) := by
    have ho := own_made_bool (w.alloc (Obj.cells #[.slice AH has.length cH, .slice AR nR cR] 25)) w.heap.size 4 has.length (by simp) (by omega)
    refine ⟨?_, ?_, own_nil _ _ _ _, by omega⟩
    · have h_ := heap_alloc_new ((w.alloc (Obj.cells #[.slice AH has.length cH, .slice AR nR cR] 25)).alloc (Obj.cells (madeCells #[.bool false] has.length) 4)) (.cells #[.slice AH has.length cH, .slice AR nR cR, .slice (some ⟨w.heap.size + 1, 0, none⟩) has.length has.length, .slice none 0 0] 102)
      simp only [List.length_replicate]
      have hz : ((w.alloc (Obj.cells #[.slice AH has.length cH, .slice AR nR cR] 25)).alloc (Obj.cells (madeCells #[.bool false] has.length) 4)).heap.size = w.heap.size + 1 + 1 := by simp
      rw [hz] at h_
      exact h_
    · have h_ := ho.alloc (.cells #[.slice AH has.length cH, .slice AR nR cR, .slice (some ⟨w.heap.size + 1, 0, none⟩) has.length has.length, .slice none 0 0] 102)
      simp only [List.length_replicate]
      have hz : (w.alloc (Obj.cells #[.slice AH has.length cH, .slice AR nR cR] 25)).heap.size = w.heap.size + 1 := by simp
      rw [hz] at h_
      exact h_
  have HI := Aside0.mk hI
  clear hI
  refine (reach_calls w.heap.size _ (w.heap.size + 1 + 1) (.slice AH has.length cH) (.slice AR nR cR) (.slice none 0 0) (w.heap.size + 1) has.length (List.replicate has.length false, []) A c l HI.out ?i2 HLC.out ?i4 ?i5 ?i6).mono ?_
  case i2 => exact Kd.C_below HL.out (below_drew1 (below_alloc (below_alloc (below_alloc (Below.refl _ _) _) _) _))
  case i4 =>
    intro ad ha hpos
    have hb_ := block_of_C HL.out ha hpos
    unfold wr_
    simp [Value.ownBlock]
    omega
  case i5 => intro x hx; simpa using HN.out x hx
  case i6 => simp [unseen_replicate]; exact HZ.out
  rintro e w2 ⟨rfl, vt2, hI2, hkp2, hm2, hb2⟩
  have hB2 : Below w.heap.size w w2 := (below_drew1 (below_alloc (below_alloc (below_alloc (Below.refl _ _) _) _) _)).trans hb2
  have HI2 := Aside0.mk hI2
  have HB2 := Aside0.mk hB2
  clear hI2 hkp2 hm2 hb2 hB2
  have hlen := reachL_length l (List.replicate has.length false, [])
  have hroom := reachL_room l (List.replicate has.length false, [])
  have hinl : InR has.length (reachL (List.replicate has.length false, []) l).2 := reachL_in l (fun x hx => by simp at hx) HN.out
  obtain ⟨s, hs⟩ : ∃ s, s = reachL (List.replicate has.length false, []) l := ⟨_, rfl⟩
  rw [← hs] at hlen hroom hinl HI2
  have HSS := Aside0.mk hs
  have HLN := Aside0.mk hlen
  have HRM := Aside0.mk hroom
  have HIN := Aside0.mk hinl
  clear hs hlen hroom hinl
  go_wp2_with fail
  refine (all_calls w _ (w.heap.size + 1 + 1) AH cH has (.slice AR nR cR) vt2 (w.heap.size + 1) has.length s HI2.out HB2.out HH.out ?j1 HIN.out HS.out ?j2).mono ?_
  case j1 => rw [HLN.out]; simp
  case j2 => rw [HRM.out]; simp [unseen_replicate]; exact HZ.out
  rintro e w3 ⟨rfl, vt3, hI3, hfin, hkp3, hm3, hb3⟩
  obtain ⟨hg3, hs3, ht3, _⟩ := hI3
  have hc2 : w3.cell? ⟨w.heap.size + 1 + 1, 2, none⟩ = some (.slice (some ⟨w.heap.size + 1, 0, none⟩) (allL has (meas s) s).1.length has.length) := (blk_cell hg3 2).trans rfl
  have HS3 := Aside0.mk hs3
  have HB3 := Aside0.mk hb3
  clear hg3 hs3 ht3 hkp3 hm3 hb3 hfin
  go_wp2
  go_ret
  refine ⟨_, rfl, ?_, HB3.out⟩
  have hf : fromL has l = (allL has (meas s) s).1 := by unfold fromL; rw [HSS.out]
  rw [hf]
  exact Kd.R_of_own (enc := Value.bool) (h1 := fun _ => rfl) HS3.out (fun _ _ => trivial)
end Go.Proofs.Ytoleplbmkdhgeaa.Rch
