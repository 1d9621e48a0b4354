/- Package order walked: right. -/
import Derived.Test.YtecaemebamhamaaOrId
set_option linter.unusedVariables false
set_option linter.unusedSimpArgs false
namespace Go.Proofs.Ytecaemebamhamaa.Lv
open Go.RowKit Go.Proofs.YtecaemebamhamaaW.PrintWords Go.Proofs.YtecaemebamhamaaW.PrintLast Go.Proofs.YtecaemebamhamaaW.PrintMore Go.Proofs.Ytecaemebamhamaa.PO Go.Proofs.Ytecaemebamhamaa.Hnd Go.Lib

theorem ne_true_of_eq_false' {a : Bool} (h : a = false) : ¬ a = true := by rw [h]; decide
theorem spoilt_ex (a : Int) : ∃ r, nanbox_spoilt.f a = some r := by
  unfold nanbox_spoilt.f
  repeat' split
  all_goals exact ⟨_, rfl⟩
theorem tag_ex (a : Int) : ∃ r, nanbox_tag.f a = some r := by
  unfold nanbox_tag.f
  split
  · exact ⟨_, rfl⟩
  · exact ⟨_, rfl⟩
theorem bounds_ex (a : Int) : ∃ r, nanbox_bounds.f a = some r := by
  unfold nanbox_bounds.f
  repeat' split
  all_goals exact ⟨_, rfl⟩
theorem box1_ex (b : Bool) (x y : Int) : ∃ r, nanbox_Box.j1 1 b x y = some r := by
  obtain ⟨t, ht⟩ := tag_ex x
  obtain ⟨u, hu⟩ := bounds_ex x
  simp only [nanbox_Box.j1]
  rw [ht, hu]
  simp only [Option.bind_some]
  repeat' split
  all_goals exact ⟨_, rfl⟩
theorem box_ex (x y : Int) : ∃ e k r, nanbox_Box.f k x y = some (r, e) := by
  have h0 : ∀ b, ∃ r, nanbox_Box.j0 2 b x y = some r := by
    intro b
    simp only [nanbox_Box.j0]
    split
    · exact ⟨_, rfl⟩
    · split
      · obtain ⟨r, hr⟩ := spoilt_ex (IntKind.u64.wrap y)
        rw [hr]
        exact box1_ex r x y
      · exact box1_ex false x y
  unfold nanbox_Box.f
  by_cases h : x < 0
  · obtain ⟨r, hr⟩ := h0 true
    exact ⟨r.2, 2, r.1, by rw [if_pos h, hr]⟩
  · obtain ⟨r, hr⟩ := h0 (decide (x > 6))
    exact ⟨r.2, 2, r.1, by rw [if_neg h, hr]⟩
/-- The error of a constant's word. -/
noncomputable def boxE (x y : Int) : Int := Classical.choose (box_ex x y)
theorem boxE_f (x y : Int) : ∃ k r, nanbox_Box.f k x y = some (r, boxE x y) := Classical.choose_spec (box_ex x y)
def nuB (nu : Bool) (x : RO) : Bool := if x.f0 = 12 ∧ x.f4 ≠ 1 then false else nu
def rA (s : ByteArray) (wr nu : Bool) (x : RO) : Bool := (idleTo s wr nu x 3).any (fun n => n != 0)
def rA2 (nu : Bool) (x : RO) : Bool := nu && (decide (x.f2 < 0) || decide (x.f2 > 1073741824))
def rB (wr : Bool) (x : RO) : Bool := wr && !isRegB x.f1
def rB2 (lo hi : Int) (x : RO) : Bool := decide (x.f4 < lo) || decide (x.f4 > hi)
def rC (k : Bool) (x : RO) : Bool := !k && !(decide (x.f6.f0 = 0) && decide (x.f6.f1 = 0))
def rC2 (k : Bool) (e : Int) : Bool := k && decide (e ≠ 0)
def rD (sl : Int) (x : RO) : Bool := (decide (x.f0 = 3) || decide (x.f0 = 4)) && decide (x.f4 ≥ sl)
def rE (ex : Int) (x : RO) : Bool := decide (ex = 0) || (decide (ex = 1) && decide (x.f5 = -1))
def rF (ne : Nat) (x : RO) : Bool := decide (0 ≤ x.f5) && decide (x.f5 < (ne : Int))
/-- Is an order right by itself? -/
noncomputable def rightB (s : ByteArray) (wr : Bool) (lo hi : Int) (nu k : Bool) (ex : Int) (x : RO) (sl : Int) (ne : Nat) : Bool :=
  if rA s wr (nuB nu x) x = true then false else if rA2 (nuB nu x) x = true then false else if rB wr x = true then false else if rB2 lo hi x = true then false else if rC k x = true then false else if rC2 k (boxE x.f6.f0 x.f6.f1) = true then false else if rD sl x = true then false else if rE ex x = true then (x.f5 == -1) else rF ne x
set_option maxHeartbeats 4000000 in
set_option maxRecDepth 100000 in
theorem right1_calls (w : World) (n : Int) :
    Calls Try.prog 90 #[.int .i64 n] w fun e w' => e = .returned (.bool (n != 0)) ∧ Below w.heap.size w w' := by
  have HB := Aside0.mk (Below.refl w.heap.size w)
  by_cases h : n = 0
  · subst h
    go_enter Try.func90, Try.ntmps90
    go_wp2_with fail
    go_ret
    exact ⟨rfl, HB.out⟩
  · have d1 : (n != 0) = true := by simpa using h
    have d2 : (n == 0) = false := by simpa using h
    rw [d1]
    clear h
    go_enter Try.func90, Try.ntmps90
    go_wp2_with fail
    go_ret
    exact ⟨rfl, HB.out⟩
set_option maxHeartbeats 32000000 in
set_option maxRecDepth 100000 in
theorem right_calls (w : World) (x : RO) (c : RC) (s : ByteArray) (r2 : Bool) (r3 r4 : Int) (r5 r6 : Bool) (r7 : Int) (AO : Option Addr) (cO : Nat) (AE : Option Addr) (cE : Nat) (A1 : Option Addr) (c1 : Nat) (A2 : Option Addr) (c2 : Nat) (A3 : Option Addr) (c3 : Nat) (A4 : Option Addr) (c4 : Nat) (hby : s.data.toList.length ≤ 3 ∧ ∀ b ∈ s.data.toList, 65 ≤ b.toNat ∧ b.toNat ≤ 67) :
    Calls Try.prog 67 #[.agg #[.string s, .bool r2, .int .i64 r3, .int .i64 r4, .bool r5, .bool r6, .int .i64 r7], .agg #[.int .i64 x.f0, .int .i64 x.f1, .int .i64 x.f2, .int .i64 x.f3, .int .i64 x.f4, .int .i64 x.f5, .int .i64 x.f6.f0, .int .i64 x.f6.f1], .agg #[.int .i64 c.f0, .int .i64 c.f1, .int .i64 c.f2, .int .i64 c.f3, .slice AO c.f4.length cO, .slice AE c.f5.length cE, .int .i64 c.f6.f0, .int .i64 c.f6.f1, .slice A1 c.f6.f2.length c1, .slice A2 c.f6.f3.length c2, .int .i64 c.f7.f0, .int .i64 c.f7.f1, .slice A3 c.f7.f2.length c3, .slice A4 c.f7.f3.length c4]] w fun e w' => e = .returned (.bool (rightB s r2 r3 r4 r5 r6 r7 x c.f3 c.f5.length)) ∧ Below w.heap.size w w' := by
  obtain ⟨o1, ho1⟩ : ∃ ob, ob = Obj.cells #[.string s, .bool r2, .int .i64 r3, .int .i64 r4, .bool r5, .bool r6, .int .i64 r7] 79 := ⟨_, rfl⟩
  obtain ⟨o2, ho2⟩ : ∃ ob, ob = Obj.cells #[.int .i64 x.f0, .int .i64 x.f1, .int .i64 x.f2, .int .i64 x.f3, .int .i64 x.f4, .int .i64 x.f5, .int .i64 x.f6.f0, .int .i64 x.f6.f1] 37 := ⟨_, rfl⟩
  obtain ⟨o3, ho3⟩ : ∃ ob, ob = Obj.cells #[.int .i64 c.f0, .int .i64 c.f1, .int .i64 c.f2, .int .i64 c.f3, .slice AO c.f4.length cO, .slice AE c.f5.length cE, .int .i64 c.f6.f0, .int .i64 c.f6.f1, .slice A1 c.f6.f2.length c1, .slice A2 c.f6.f3.length c2, .int .i64 c.f7.f0, .int .i64 c.f7.f1, .slice A3 c.f7.f2.length c3, .slice A4 c.f7.f3.length c4] 29 := ⟨_, rfl⟩
  have hs1 : (w.alloc o1).heap.size = w.heap.size + 1 := Array.size_push _
  have hs2 : ((w.alloc o1).alloc o2).heap.size = w.heap.size + 1 + 1 := by rw [← hs1]; exact Array.size_push _
  have hal := below_alloc (below_alloc (below_alloc (Below.refl w.heap.size w) o1) o2) o3
  have HB := Aside0.mk hal
  have HF : Aside0 ((((w.alloc o1).alloc o2).alloc o3).heap[w.heap.size]? = some (.cells #[.string s, .bool r2, .int .i64 r3, .int .i64 r4, .bool r5, .bool r6, .int .i64 r7] 79 (0, 0))) := ⟨blk_alloc (blk_alloc (by rw [ho1]; exact blk_new w _) _) _⟩
  have HX : Aside0 ((((w.alloc o1).alloc o2).alloc o3).heap[w.heap.size + 1]? = some (.cells #[.int .i64 x.f0, .int .i64 x.f1, .int .i64 x.f2, .int .i64 x.f3, .int .i64 x.f4, .int .i64 x.f5, .int .i64 x.f6.f0, .int .i64 x.f6.f1] 37 (0, 0))) := ⟨blk_alloc (by have h_ := blk_new (w.alloc o1) o2; rw [hs1] at h_; rw [ho2] at h_ ⊢; exact h_) _⟩
  have HC : Aside0 ((((w.alloc o1).alloc o2).alloc o3).heap[w.heap.size + 1 + 1]? = some (.cells #[.int .i64 c.f0, .int .i64 c.f1, .int .i64 c.f2, .int .i64 c.f3, .slice AO c.f4.length cO, .slice AE c.f5.length cE, .int .i64 c.f6.f0, .int .i64 c.f6.f1, .slice A1 c.f6.f2.length c1, .slice A2 c.f6.f3.length c2, .int .i64 c.f7.f0, .int .i64 c.f7.f1, .slice A3 c.f7.f2.length c3, .slice A4 c.f7.f3.length c4] 29 (0, 0))) := ⟨by have h_ := blk_new ((w.alloc o1).alloc o2) o3; rw [hs2] at h_; rw [ho3] at h_ ⊢; exact h_⟩
  have HBY := Aside0.mk hby
  obtain ⟨KB, RB, hKB⟩ := boxE_f x.f6.f0 x.f6.f1
  obtain ⟨eb, heb⟩ : ∃ e, e = boxE x.f6.f0 x.f6.f1 := ⟨_, rfl⟩
  rw [← heb] at hKB
  have HKB := Aside0.mk hKB
  have HEB := Aside0.mk heb
  obtain ⟨res, hres⟩ : ∃ r, r = rightB s r2 r3 r4 r5 r6 r7 x c.f3 c.f5.length := ⟨_, rfl⟩
  rw [← hres]
  have HRES := Aside0.mk hres
  clear hal hby hs1 hs2 hKB heb hres
  go_enter Try.func67, Try.ntmps67
  go_upto_region 1 with fail
  rw [← ho1, ← ho2, ← ho3]
  clear ho1 ho2 ho3
  generalize ((w.alloc o1).alloc o2).alloc o3 = wz at HB HF HX HC ⊢
  have x6 := (blk_cell HX.out 6).trans rfl
  have x7 := (blk_cell HX.out 7).trans rfl
  go_wp2_with fail
  refine (nanbox_Box.calls KB x.f6.f0 x.f6.f1 RB eb _ HKB.out).mono ?_
  rintro e w2 ⟨rfl, hb2⟩
  have HB2 := Aside0.mk (below_step HB.out hb2)
  have HF2 := Aside0.mk (blk_below HF.out hb2)
  have HX2 := Aside0.mk (blk_below HX.out hb2)
  have HC2 := Aside0.mk (blk_below HC.out hb2)
  clear hb2 HB HF HX HC x6 x7
  have x0 := (blk_cell HX2.out 0).trans rfl
  have x4 := (blk_cell HX2.out 4).trans rfl
  go_upto_region 2 with fail
  go_cut [22] (fun v22 wx => ∃ b : Bool, v22 = .bool b ∧ Aside0 (nuB r5 x = if b = true then false else r5) ∧ wx = w2)
  case first =>
    by_cases h0 : x.f0 = 12
    · have H0 := Aside0.mk h0
      have d0 : (x.f0 == 12) = true := by rw [beq_iff_eq]; exact h0
      have e0 : (x.f0 != 12) = false := by rw [bne, d0]; rfl
      clear h0
      by_cases h1 : x.f4 = 1
      · have H1 := Aside0.mk h1
        have d1 : (x.f4 == 1) = true := by rw [beq_iff_eq]; exact h1
        have e1 : (x.f4 != 1) = false := by rw [bne, d1]; rfl
        clear h1
        go_wp2_with fail
        go_meet
        exact ⟨false, rfl, ⟨by unfold nuB; rw [if_neg (fun h => h.2 H1.out)] <;> rfl⟩, rfl⟩
      · have H1 := Aside0.mk h1
        have d1 : (x.f4 == 1) = false := beq_eq_false_iff_ne.mpr h1
        have e1 : (x.f4 != 1) = true := by rw [bne, d1]; rfl
        clear h1
        go_wp2_with fail
        go_meet
        exact ⟨true, rfl, ⟨by unfold nuB; rw [if_pos ⟨H0.out, H1.out⟩] <;> rfl⟩, rfl⟩
    · have H0 := Aside0.mk h0
      have d0 : (x.f0 == 12) = false := beq_eq_false_iff_ne.mpr h0
      have e0 : (x.f0 != 12) = true := by rw [bne, d0]; rfl
      clear h0
      go_wp2_with fail
      go_meet
      exact ⟨false, rfl, ⟨by unfold nuB; rw [if_neg (fun h => H0.out h.1)] <;> rfl⟩, rfl⟩
  case rest =>
  obtain ⟨b22, rfl, HNU, ewc⟩ := hcut
  subst ewc
  clear x0 x4
  have f4z := blk_frozen HF2.out 4
  go_upto_if 22 with fail
  go_cut [] (fun wx => Aside0 (wx.heap[w.heap.size]? = some (.cells #[.string s, .bool r2, .int .i64 r3, .int .i64 r4, .bool (nuB r5 x), .bool r6, .int .i64 r7] 79 (0, 0))) ∧ Aside0 (wx.heap[w.heap.size + 1]? = some (.cells #[.int .i64 x.f0, .int .i64 x.f1, .int .i64 x.f2, .int .i64 x.f3, .int .i64 x.f4, .int .i64 x.f5, .int .i64 x.f6.f0, .int .i64 x.f6.f1] 37 (0, 0))) ∧ Aside0 (wx.heap[w.heap.size + 1 + 1]? = some (.cells #[.int .i64 c.f0, .int .i64 c.f1, .int .i64 c.f2, .int .i64 c.f3, .slice AO c.f4.length cO, .slice AE c.f5.length cE, .int .i64 c.f6.f0, .int .i64 c.f6.f1, .slice A1 c.f6.f2.length c1, .slice A2 c.f6.f3.length c2, .int .i64 c.f7.f0, .int .i64 c.f7.f1, .slice A3 c.f7.f2.length c3, .slice A4 c.f7.f3.length c4] 29 (0, 0))) ∧ Aside0 (Below w.heap.size w wx))
  case first =>
    cases b22 with
    | false =>
      have hn : nuB r5 x = r5 := HNU.out
      go_wp2_with fail
      go_meet
      rw [hn]
      exact ⟨HF2, HX2, HC2, HB2⟩
    | true =>
      have hn : nuB r5 x = false := HNU.out
      have f4 := (blk_cell HF2.out 4).trans rfl
      clear HNU
      have HN := Aside0.mk hn
      clear hn
      go_wp2_with fail
      go_meet
      rw [HN.out]
      exact ⟨⟨blk_put HF2.out 4 _ rfl⟩, ⟨blk_far HX2.out (by show w.heap.size + 1 ≠ w.heap.size; omega) _⟩, ⟨blk_far HC2.out (by show w.heap.size + 1 + 1 ≠ w.heap.size; omega) _⟩, ⟨HB2.out.setCell (Nat.le_refl _) _⟩⟩
  case rest =>
  obtain ⟨HFa, HXa, HCa, HBa⟩ := hcut
  clear f4z HB2 HF2 HX2 HC2 HNU
  obtain ⟨nu, hnu⟩ : ∃ b, b = nuB r5 x := ⟨_, rfl⟩
  have HNU := Aside0.mk hnu
  obtain ⟨q2, hq2⟩ : ∃ b, b = r2 := ⟨_, rfl⟩
  obtain ⟨q6, hq6⟩ : ∃ b, b = r6 := ⟨_, rfl⟩
  have HQ2 := Aside0.mk hq2
  have HQ6 := Aside0.mk hq6
  rw [← hnu, ← hq2, ← hq6] at HFa
  clear hnu hq2 hq6
  have fl0 := (blk_cell HFa.out 0).trans rfl
  have fl1 := (blk_cell HFa.out 1).trans rfl
  have fl2 := (blk_cell HFa.out 2).trans rfl
  have fl3 := (blk_cell HFa.out 3).trans rfl
  have fl4 := (blk_cell HFa.out 4).trans rfl
  have fl5 := (blk_cell HFa.out 5).trans rfl
  have fl6 := (blk_cell HFa.out 6).trans rfl
  have xl0 := (blk_cell HXa.out 0).trans rfl
  have xl1 := (blk_cell HXa.out 1).trans rfl
  have xl2 := (blk_cell HXa.out 2).trans rfl
  have xl3 := (blk_cell HXa.out 3).trans rfl
  have xl4 := (blk_cell HXa.out 4).trans rfl
  have xl5 := (blk_cell HXa.out 5).trans rfl
  have xl6 := (blk_cell HXa.out 6).trans rfl
  have xl7 := (blk_cell HXa.out 7).trans rfl
  go_wp2_with fail
  refine (idle_calls _ x s q2 r3 r4 nu q6 r7 HBY.out).mono ?_
  rintro e w3 ⟨v3, rfl, hR3, hb3⟩
  obtain ⟨A7, c7, rfl⟩ := Kd.R_slice hR3
  have HC7 := Aside0.mk (Kd.R_reads' hR3).2.2
  have HLI : Aside0 ((idleTo s q2 nu x 3).length ≤ 2000000) := ⟨by have := idleTo_len s q2 nu x 3; omega⟩
  have HB3 := Aside0.mk (below_step HBa.out hb3)
  have HF3 := Aside0.mk (blk_below HFa.out hb3)
  have HX3 := Aside0.mk (blk_below HXa.out hb3)
  have HC3 := Aside0.mk (blk_below HCa.out hb3)
  obtain ⟨bA, hbA⟩ : ∃ b, b = rA s q2 nu x := ⟨_, rfl⟩
  have HRA := Aside0.mk hbA
  clear hR3 hb3 HBa HFa HXa HCa hbA
  clear fl0 fl1 fl2 fl3 fl4 fl5 fl6 xl0 xl1 xl2 xl3 xl4 xl5 xl6 xl7
  go_wp2_with fail
  refine (any_calls 90 #[] (fun n => n != 0) (Go.Proofs.enters_of Try.func90 (by kernel_rfl) rfl) _ A7 c7 (idleTo s q2 nu x 3) HC7.out (fun W hs hk n hn => right1_calls W n) HLI.out).mono ?_
  rintro e w4 ⟨rfl, hb4⟩
  have HB4 := Aside0.mk (below_step HB3.out hb4)
  have HF4 := Aside0.mk (blk_below HF3.out hb4)
  have HX4 := Aside0.mk (blk_below HX3.out hb4)
  have HC4 := Aside0.mk (blk_below HC3.out hb4)
  clear hb4 HB3 HF3 HX3 HC3 HC7
  rw [show (idleTo s q2 nu x 3).any (fun n => n != 0) = bA from HRA.out.symm]
  go_upto_if 24 with fail
  cases bA with
  | true =>
    go_wp2_with fail
    go_ret
    exact ⟨by rw [HRES.out]; unfold rightB; rw [← HNU.out, ← HQ2.out, ← HQ6.out, if_pos HRA.out.symm] <;> rfl, HB4.out⟩
  | false =>
  have fl4 := (blk_cell HF4.out 4).trans rfl
  have xl2 := (blk_cell HX4.out 2).trans rfl
  go_upto_region 5 with fail
  go_cut [24] (fun v wx => ∃ b : Bool, v = .bool b ∧ Aside0 (b = rA2 nu x) ∧ Aside0 (wx.heap[w.heap.size]? = some (.cells #[.string s, .bool q2, .int .i64 r3, .int .i64 r4, .bool nu, .bool q6, .int .i64 r7] 79 (0, 0))) ∧ Aside0 (wx.heap[w.heap.size + 1]? = some (.cells #[.int .i64 x.f0, .int .i64 x.f1, .int .i64 x.f2, .int .i64 x.f3, .int .i64 x.f4, .int .i64 x.f5, .int .i64 x.f6.f0, .int .i64 x.f6.f1] 37 (0, 0))) ∧ Aside0 (wx.heap[w.heap.size + 1 + 1]? = some (.cells #[.int .i64 c.f0, .int .i64 c.f1, .int .i64 c.f2, .int .i64 c.f3, .slice AO c.f4.length cO, .slice AE c.f5.length cE, .int .i64 c.f6.f0, .int .i64 c.f6.f1, .slice A1 c.f6.f2.length c1, .slice A2 c.f6.f3.length c2, .int .i64 c.f7.f0, .int .i64 c.f7.f1, .slice A3 c.f7.f2.length c3, .slice A4 c.f7.f3.length c4] 29 (0, 0))) ∧ Aside0 (Below w.heap.size w wx))
  case first =>
    by_cases hnu : nu = true
    · have Hnu := Aside0.mk hnu
      have dnu : nu = true := hnu
      clear hnu
      by_cases hlo : x.f2 < 0
      · have Hlo := Aside0.mk hlo
        have dlo : decide (x.f2 < 0) = true := decide_eq_true hlo
        have elo : decide (0 > x.f2) = true := dlo
        have glo : decide (0 ≤ x.f2) = false := decide_eq_false (by omega)
        have klo : decide (x.f2 ≥ 0) = false := glo
        clear hlo
        go_wp2_with fail
        go_meet
        exact ⟨true, rfl, ⟨by unfold rA2; simp [Hnu.out, Hlo.out]⟩, HF4, HX4, HC4, HB4⟩
      · have Hlo := Aside0.mk hlo
        have dlo : decide (x.f2 < 0) = false := decide_eq_false hlo
        have elo : decide (0 > x.f2) = false := dlo
        have glo : decide (0 ≤ x.f2) = true := decide_eq_true (by omega)
        have klo : decide (x.f2 ≥ 0) = true := glo
        clear hlo
        by_cases hhi : 1073741824 < x.f2
        · have Hhi := Aside0.mk hhi
          have dhi : decide (1073741824 < x.f2) = true := decide_eq_true hhi
          have ehi : decide (x.f2 > 1073741824) = true := dhi
          have ghi : decide (x.f2 ≤ 1073741824) = false := decide_eq_false (by omega)
          have khi : decide (1073741824 ≥ x.f2) = false := ghi
          clear hhi
          go_wp2_with fail
          go_meet
          exact ⟨true, rfl, ⟨by unfold rA2; simp [Hnu.out, Hlo.out, Hhi.out]⟩, HF4, HX4, HC4, HB4⟩
        · have Hhi := Aside0.mk hhi
          have dhi : decide (1073741824 < x.f2) = false := decide_eq_false hhi
          have ehi : decide (x.f2 > 1073741824) = false := dhi
          have ghi : decide (x.f2 ≤ 1073741824) = true := decide_eq_true (by omega)
          have khi : decide (1073741824 ≥ x.f2) = true := ghi
          clear hhi
          go_wp2_with fail
          go_meet
          exact ⟨false, rfl, ⟨by unfold rA2; simp [Hnu.out, Hlo.out, Hhi.out]⟩, HF4, HX4, HC4, HB4⟩
    · have Hnu := Aside0.mk hnu
      have dnu : nu = false := by simpa using hnu
      clear hnu
      go_wp2_with fail
      go_meet
      exact ⟨false, rfl, ⟨by unfold rA2; simp [Hnu.out]⟩, HF4, HX4, HC4, HB4⟩
  case rest =>
  clear HB4 HF4 HX4 HC4
  clear fl4 xl2
  obtain ⟨bA2, rfl, HA2, HF4, HX4, HC4, HB4⟩ := hcut
  cases bA2 with
  | true =>
    go_wp2_with fail
    go_ret
    exact ⟨by rw [HRES.out]; unfold rightB; rw [← HNU.out, ← HQ2.out, ← HQ6.out, if_neg (ne_true_of_eq_false' HRA.out.symm), if_pos HA2.out.symm] <;> rfl, HB4.out⟩
  | false =>
  have fl1 := (blk_cell HF4.out 1).trans rfl
  have xl1 := (blk_cell HX4.out 1).trans rfl
  go_upto_region 7 with fail
  go_cut [41] (fun v wx => ∃ b : Bool, v = .bool b ∧ Aside0 (b = rB q2 x) ∧ Aside0 (wx.heap[w.heap.size]? = some (.cells #[.string s, .bool q2, .int .i64 r3, .int .i64 r4, .bool nu, .bool q6, .int .i64 r7] 79 (0, 0))) ∧ Aside0 (wx.heap[w.heap.size + 1]? = some (.cells #[.int .i64 x.f0, .int .i64 x.f1, .int .i64 x.f2, .int .i64 x.f3, .int .i64 x.f4, .int .i64 x.f5, .int .i64 x.f6.f0, .int .i64 x.f6.f1] 37 (0, 0))) ∧ Aside0 (wx.heap[w.heap.size + 1 + 1]? = some (.cells #[.int .i64 c.f0, .int .i64 c.f1, .int .i64 c.f2, .int .i64 c.f3, .slice AO c.f4.length cO, .slice AE c.f5.length cE, .int .i64 c.f6.f0, .int .i64 c.f6.f1, .slice A1 c.f6.f2.length c1, .slice A2 c.f6.f3.length c2, .int .i64 c.f7.f0, .int .i64 c.f7.f1, .slice A3 c.f7.f2.length c3, .slice A4 c.f7.f3.length c4] 29 (0, 0))) ∧ Aside0 (Below w.heap.size w wx))
  case first =>
    by_cases hwr : q2 = true
    · have Hwr := Aside0.mk hwr
      have dwr : q2 = true := hwr
      clear hwr
      go_wp2_with fail
      refine (order_isReg.calls x.f1 (isRegB x.f1) _ (isReg_f x.f1)).mono ?_
      rintro e w5 ⟨rfl, hb5⟩
      have hd5 := hb5.below
      go_wp2_with fail
      go_meet
      exact ⟨_, rfl, ⟨by unfold rB; simp [Hwr.out]⟩, ⟨blk_below HF4.out hd5⟩, ⟨blk_below HX4.out hd5⟩, ⟨blk_below HC4.out hd5⟩, ⟨below_step HB4.out hd5⟩⟩
    · have Hwr := Aside0.mk hwr
      have dwr : q2 = false := by simpa using hwr
      clear hwr
      go_wp2_with fail
      go_meet
      exact ⟨false, rfl, ⟨by unfold rB; simp [Hwr.out]⟩, HF4, HX4, HC4, HB4⟩
  case rest =>
  clear HB4 HF4 HX4 HC4
  clear fl1 xl1
  obtain ⟨bB, rfl, HB, HF4, HX4, HC4, HB4⟩ := hcut
  cases bB with
  | true =>
    go_wp2_with fail
    go_ret
    exact ⟨by rw [HRES.out]; unfold rightB; rw [← HNU.out, ← HQ2.out, ← HQ6.out, if_neg (ne_true_of_eq_false' HRA.out.symm), if_neg (ne_true_of_eq_false' HA2.out.symm), if_pos HB.out.symm] <;> rfl, HB4.out⟩
  | false =>
  have fl2 := (blk_cell HF4.out 2).trans rfl
  have fl3 := (blk_cell HF4.out 3).trans rfl
  have xl4 := (blk_cell HX4.out 4).trans rfl
  go_upto_region 8 with fail
  go_cut [41] (fun v wx => ∃ b : Bool, v = .bool b ∧ Aside0 (b = rB2 r3 r4 x) ∧ Aside0 (wx.heap[w.heap.size]? = some (.cells #[.string s, .bool q2, .int .i64 r3, .int .i64 r4, .bool nu, .bool q6, .int .i64 r7] 79 (0, 0))) ∧ Aside0 (wx.heap[w.heap.size + 1]? = some (.cells #[.int .i64 x.f0, .int .i64 x.f1, .int .i64 x.f2, .int .i64 x.f3, .int .i64 x.f4, .int .i64 x.f5, .int .i64 x.f6.f0, .int .i64 x.f6.f1] 37 (0, 0))) ∧ Aside0 (wx.heap[w.heap.size + 1 + 1]? = some (.cells #[.int .i64 c.f0, .int .i64 c.f1, .int .i64 c.f2, .int .i64 c.f3, .slice AO c.f4.length cO, .slice AE c.f5.length cE, .int .i64 c.f6.f0, .int .i64 c.f6.f1, .slice A1 c.f6.f2.length c1, .slice A2 c.f6.f3.length c2, .int .i64 c.f7.f0, .int .i64 c.f7.f1, .slice A3 c.f7.f2.length c3, .slice A4 c.f7.f3.length c4] 29 (0, 0))) ∧ Aside0 (Below w.heap.size w wx))
  case first =>
    by_cases hlo : x.f4 < r3
    · have Hlo := Aside0.mk hlo
      have dlo : decide (x.f4 < r3) = true := decide_eq_true hlo
      have elo : decide (r3 > x.f4) = true := dlo
      have glo : decide (r3 ≤ x.f4) = false := decide_eq_false (by omega)
      have klo : decide (x.f4 ≥ r3) = false := glo
      clear hlo
      go_wp2_with fail
      go_meet
      exact ⟨true, rfl, ⟨by unfold rB2; simp [Hlo.out]⟩, HF4, HX4, HC4, HB4⟩
    · have Hlo := Aside0.mk hlo
      have dlo : decide (x.f4 < r3) = false := decide_eq_false hlo
      have elo : decide (r3 > x.f4) = false := dlo
      have glo : decide (r3 ≤ x.f4) = true := decide_eq_true (by omega)
      have klo : decide (x.f4 ≥ r3) = true := glo
      clear hlo
      by_cases hhi : r4 < x.f4
      · have Hhi := Aside0.mk hhi
        have dhi : decide (r4 < x.f4) = true := decide_eq_true hhi
        have ehi : decide (x.f4 > r4) = true := dhi
        have ghi : decide (x.f4 ≤ r4) = false := decide_eq_false (by omega)
        have khi : decide (r4 ≥ x.f4) = false := ghi
        clear hhi
        go_wp2_with fail
        go_meet
        exact ⟨true, rfl, ⟨by unfold rB2; simp [Hlo.out, Hhi.out]⟩, HF4, HX4, HC4, HB4⟩
      · have Hhi := Aside0.mk hhi
        have dhi : decide (r4 < x.f4) = false := decide_eq_false hhi
        have ehi : decide (x.f4 > r4) = false := dhi
        have ghi : decide (x.f4 ≤ r4) = true := decide_eq_true (by omega)
        have khi : decide (r4 ≥ x.f4) = true := ghi
        clear hhi
        go_wp2_with fail
        go_meet
        exact ⟨false, rfl, ⟨by unfold rB2; simp [Hlo.out, Hhi.out]⟩, HF4, HX4, HC4, HB4⟩
  case rest =>
  clear HB4 HF4 HX4 HC4
  clear fl2 fl3 xl4
  obtain ⟨bB2, rfl, HB2, HF4, HX4, HC4, HB4⟩ := hcut
  cases bB2 with
  | true =>
    go_wp2_with fail
    go_ret
    exact ⟨by rw [HRES.out]; unfold rightB; rw [← HNU.out, ← HQ2.out, ← HQ6.out, if_neg (ne_true_of_eq_false' HRA.out.symm), if_neg (ne_true_of_eq_false' HA2.out.symm), if_neg (ne_true_of_eq_false' HB.out.symm), if_pos HB2.out.symm] <;> rfl, HB4.out⟩
  | false =>
  have fl5 := (blk_cell HF4.out 5).trans rfl
  have xl6 := (blk_cell HX4.out 6).trans rfl
  have xl7 := (blk_cell HX4.out 7).trans rfl
  go_upto_region 10 with fail
  go_cut [62] (fun v wx => ∃ b : Bool, v = .bool b ∧ Aside0 (b = rC q6 x) ∧ Aside0 (wx.heap[w.heap.size]? = some (.cells #[.string s, .bool q2, .int .i64 r3, .int .i64 r4, .bool nu, .bool q6, .int .i64 r7] 79 (0, 0))) ∧ Aside0 (wx.heap[w.heap.size + 1]? = some (.cells #[.int .i64 x.f0, .int .i64 x.f1, .int .i64 x.f2, .int .i64 x.f3, .int .i64 x.f4, .int .i64 x.f5, .int .i64 x.f6.f0, .int .i64 x.f6.f1] 37 (0, 0))) ∧ Aside0 (wx.heap[w.heap.size + 1 + 1]? = some (.cells #[.int .i64 c.f0, .int .i64 c.f1, .int .i64 c.f2, .int .i64 c.f3, .slice AO c.f4.length cO, .slice AE c.f5.length cE, .int .i64 c.f6.f0, .int .i64 c.f6.f1, .slice A1 c.f6.f2.length c1, .slice A2 c.f6.f3.length c2, .int .i64 c.f7.f0, .int .i64 c.f7.f1, .slice A3 c.f7.f2.length c3, .slice A4 c.f7.f3.length c4] 29 (0, 0))) ∧ Aside0 (Below w.heap.size w wx))
  case first =>
    by_cases hk : q6 = true
    · have Hk := Aside0.mk hk
      have dk : q6 = true := hk
      clear hk
      go_wp2_with fail
      go_meet
      exact ⟨false, rfl, ⟨by unfold rC; simp [Hk.out]⟩, HF4, HX4, HC4, HB4⟩
    · have Hk := Aside0.mk hk
      have dk : q6 = false := by simpa using hk
      clear hk
      by_cases hk0 : x.f6.f0 = 0
      · have Hk0 := Aside0.mk hk0
        have dk0 : (x.f6.f0 == 0) = true := by rw [beq_iff_eq]; exact hk0
        have ek0 : (x.f6.f0 != 0) = false := by rw [bne, dk0]; rfl
        clear hk0
        by_cases hk1 : x.f6.f1 = 0
        · have Hk1 := Aside0.mk hk1
          have dk1 : (x.f6.f1 == 0) = true := by rw [beq_iff_eq]; exact hk1
          have ek1 : (x.f6.f1 != 0) = false := by rw [bne, dk1]; rfl
          clear hk1
          go_wp2_with fail
          go_meet
          exact ⟨false, rfl, ⟨by unfold rC; simp [Hk.out, Hk0.out, Hk1.out]⟩, HF4, HX4, HC4, HB4⟩
        · have Hk1 := Aside0.mk hk1
          have dk1 : (x.f6.f1 == 0) = false := beq_eq_false_iff_ne.mpr hk1
          have ek1 : (x.f6.f1 != 0) = true := by rw [bne, dk1]; rfl
          clear hk1
          go_wp2_with fail
          go_meet
          exact ⟨true, rfl, ⟨by unfold rC; simp [Hk.out, Hk0.out, Hk1.out]⟩, HF4, HX4, HC4, HB4⟩
      · have Hk0 := Aside0.mk hk0
        have dk0 : (x.f6.f0 == 0) = false := beq_eq_false_iff_ne.mpr hk0
        have ek0 : (x.f6.f0 != 0) = true := by rw [bne, dk0]; rfl
        clear hk0
        go_wp2_with fail
        go_meet
        exact ⟨true, rfl, ⟨by unfold rC; simp [Hk.out, Hk0.out]⟩, HF4, HX4, HC4, HB4⟩
  case rest =>
  clear HB4 HF4 HX4 HC4
  clear fl5 xl6 xl7
  obtain ⟨bC, rfl, HC, HF4, HX4, HC4, HB4⟩ := hcut
  cases bC with
  | true =>
    go_wp2_with fail
    go_ret
    exact ⟨by rw [HRES.out]; unfold rightB; rw [← HNU.out, ← HQ2.out, ← HQ6.out, if_neg (ne_true_of_eq_false' HRA.out.symm), if_neg (ne_true_of_eq_false' HA2.out.symm), if_neg (ne_true_of_eq_false' HB.out.symm), if_neg (ne_true_of_eq_false' HB2.out.symm), if_pos HC.out.symm] <;> rfl, HB4.out⟩
  | false =>
  have fl5 := (blk_cell HF4.out 5).trans rfl
  go_upto_region 11 with fail
  go_cut [62] (fun v wx => ∃ b : Bool, v = .bool b ∧ Aside0 (b = rC2 q6 (boxE x.f6.f0 x.f6.f1)) ∧ Aside0 (wx.heap[w.heap.size]? = some (.cells #[.string s, .bool q2, .int .i64 r3, .int .i64 r4, .bool nu, .bool q6, .int .i64 r7] 79 (0, 0))) ∧ Aside0 (wx.heap[w.heap.size + 1]? = some (.cells #[.int .i64 x.f0, .int .i64 x.f1, .int .i64 x.f2, .int .i64 x.f3, .int .i64 x.f4, .int .i64 x.f5, .int .i64 x.f6.f0, .int .i64 x.f6.f1] 37 (0, 0))) ∧ Aside0 (wx.heap[w.heap.size + 1 + 1]? = some (.cells #[.int .i64 c.f0, .int .i64 c.f1, .int .i64 c.f2, .int .i64 c.f3, .slice AO c.f4.length cO, .slice AE c.f5.length cE, .int .i64 c.f6.f0, .int .i64 c.f6.f1, .slice A1 c.f6.f2.length c1, .slice A2 c.f6.f3.length c2, .int .i64 c.f7.f0, .int .i64 c.f7.f1, .slice A3 c.f7.f2.length c3, .slice A4 c.f7.f3.length c4] 29 (0, 0))) ∧ Aside0 (Below w.heap.size w wx))
  case first =>
    by_cases hk : q6 = true
    · have Hk := Aside0.mk hk
      have dk : q6 = true := hk
      clear hk
      by_cases hee : eb = 0
      · have Hee := Aside0.mk hee
        have dee : (eb == 0) = true := by rw [beq_iff_eq]; exact hee
        have eee : (eb != 0) = false := by rw [bne, dee]; rfl
        clear hee
        go_wp2_with fail
        go_meet
        exact ⟨false, rfl, ⟨by unfold rC2; rw [← HEB.out]; simp [Hk.out, Hee.out]⟩, HF4, HX4, HC4, HB4⟩
      · have Hee := Aside0.mk hee
        have dee : (eb == 0) = false := beq_eq_false_iff_ne.mpr hee
        have eee : (eb != 0) = true := by rw [bne, dee]; rfl
        clear hee
        go_wp2_with fail
        go_meet
        exact ⟨true, rfl, ⟨by unfold rC2; rw [← HEB.out]; simp [Hk.out, Hee.out]⟩, HF4, HX4, HC4, HB4⟩
    · have Hk := Aside0.mk hk
      have dk : q6 = false := by simpa using hk
      clear hk
      go_wp2_with fail
      go_meet
      exact ⟨false, rfl, ⟨by unfold rC2; rw [← HEB.out]; simp [Hk.out]⟩, HF4, HX4, HC4, HB4⟩
  case rest =>
  clear HB4 HF4 HX4 HC4
  clear fl5
  obtain ⟨bC2, rfl, HC2, HF4, HX4, HC4, HB4⟩ := hcut
  cases bC2 with
  | true =>
    go_wp2_with fail
    go_ret
    exact ⟨by rw [HRES.out]; unfold rightB; rw [← HNU.out, ← HQ2.out, ← HQ6.out, if_neg (ne_true_of_eq_false' HRA.out.symm), if_neg (ne_true_of_eq_false' HA2.out.symm), if_neg (ne_true_of_eq_false' HB.out.symm), if_neg (ne_true_of_eq_false' HB2.out.symm), if_neg (ne_true_of_eq_false' HC.out.symm), if_pos HC2.out.symm] <;> rfl, HB4.out⟩
  | false =>
  have xl0 := (blk_cell HX4.out 0).trans rfl
  have xl4 := (blk_cell HX4.out 4).trans rfl
  have cl3 := (blk_cell HC4.out 3).trans rfl
  go_upto_region 13 with fail
  go_cut [78] (fun v wx => ∃ b : Bool, v = .bool b ∧ Aside0 (b = rD c.f3 x) ∧ Aside0 (wx.heap[w.heap.size]? = some (.cells #[.string s, .bool q2, .int .i64 r3, .int .i64 r4, .bool nu, .bool q6, .int .i64 r7] 79 (0, 0))) ∧ Aside0 (wx.heap[w.heap.size + 1]? = some (.cells #[.int .i64 x.f0, .int .i64 x.f1, .int .i64 x.f2, .int .i64 x.f3, .int .i64 x.f4, .int .i64 x.f5, .int .i64 x.f6.f0, .int .i64 x.f6.f1] 37 (0, 0))) ∧ Aside0 (wx.heap[w.heap.size + 1 + 1]? = some (.cells #[.int .i64 c.f0, .int .i64 c.f1, .int .i64 c.f2, .int .i64 c.f3, .slice AO c.f4.length cO, .slice AE c.f5.length cE, .int .i64 c.f6.f0, .int .i64 c.f6.f1, .slice A1 c.f6.f2.length c1, .slice A2 c.f6.f3.length c2, .int .i64 c.f7.f0, .int .i64 c.f7.f1, .slice A3 c.f7.f2.length c3, .slice A4 c.f7.f3.length c4] 29 (0, 0))) ∧ Aside0 (Below w.heap.size w wx))
  case first =>
    by_cases ho3 : x.f0 = 3
    · have Ho3 := Aside0.mk ho3
      have do3 : (x.f0 == 3) = true := by rw [beq_iff_eq]; exact ho3
      have eo3 : (x.f0 != 3) = false := by rw [bne, do3]; rfl
      clear ho3
      by_cases hsl : x.f4 < c.f3
      · have Hsl := Aside0.mk hsl
        have dsl : decide (x.f4 < c.f3) = true := decide_eq_true hsl
        have esl : decide (c.f3 > x.f4) = true := dsl
        have gsl : decide (c.f3 ≤ x.f4) = false := decide_eq_false (by omega)
        have ksl : decide (x.f4 ≥ c.f3) = false := gsl
        clear hsl
        go_wp2_with fail
        go_meet
        exact ⟨false, rfl, ⟨by unfold rD; simp [Ho3.out, Hsl.out]⟩, HF4, HX4, HC4, HB4⟩
      · have Hsl := Aside0.mk hsl
        have dsl : decide (x.f4 < c.f3) = false := decide_eq_false hsl
        have esl : decide (c.f3 > x.f4) = false := dsl
        have gsl : decide (c.f3 ≤ x.f4) = true := decide_eq_true (by omega)
        have ksl : decide (x.f4 ≥ c.f3) = true := gsl
        clear hsl
        go_wp2_with fail
        go_meet
        exact ⟨true, rfl, ⟨by unfold rD; simp [Ho3.out, Hsl.out]⟩, HF4, HX4, HC4, HB4⟩
    · have Ho3 := Aside0.mk ho3
      have do3 : (x.f0 == 3) = false := beq_eq_false_iff_ne.mpr ho3
      have eo3 : (x.f0 != 3) = true := by rw [bne, do3]; rfl
      clear ho3
      by_cases ho4 : x.f0 = 4
      · have Ho4 := Aside0.mk ho4
        have do4 : (x.f0 == 4) = true := by rw [beq_iff_eq]; exact ho4
        have eo4 : (x.f0 != 4) = false := by rw [bne, do4]; rfl
        clear ho4
        by_cases hsl : x.f4 < c.f3
        · have Hsl := Aside0.mk hsl
          have dsl : decide (x.f4 < c.f3) = true := decide_eq_true hsl
          have esl : decide (c.f3 > x.f4) = true := dsl
          have gsl : decide (c.f3 ≤ x.f4) = false := decide_eq_false (by omega)
          have ksl : decide (x.f4 ≥ c.f3) = false := gsl
          clear hsl
          go_wp2_with fail
          go_meet
          exact ⟨false, rfl, ⟨by unfold rD; simp [Ho3.out, Ho4.out, Hsl.out]⟩, HF4, HX4, HC4, HB4⟩
        · have Hsl := Aside0.mk hsl
          have dsl : decide (x.f4 < c.f3) = false := decide_eq_false hsl
          have esl : decide (c.f3 > x.f4) = false := dsl
          have gsl : decide (c.f3 ≤ x.f4) = true := decide_eq_true (by omega)
          have ksl : decide (x.f4 ≥ c.f3) = true := gsl
          clear hsl
          go_wp2_with fail
          go_meet
          exact ⟨true, rfl, ⟨by unfold rD; simp [Ho3.out, Ho4.out, Hsl.out]⟩, HF4, HX4, HC4, HB4⟩
      · have Ho4 := Aside0.mk ho4
        have do4 : (x.f0 == 4) = false := beq_eq_false_iff_ne.mpr ho4
        have eo4 : (x.f0 != 4) = true := by rw [bne, do4]; rfl
        clear ho4
        go_wp2_with fail
        go_meet
        exact ⟨false, rfl, ⟨by unfold rD; simp [Ho3.out, Ho4.out]⟩, HF4, HX4, HC4, HB4⟩
  case rest =>
  clear HB4 HF4 HX4 HC4
  clear xl0 xl4 cl3
  obtain ⟨bD, rfl, HD, HF4, HX4, HC4, HB4⟩ := hcut
  cases bD with
  | true =>
    go_wp2_with fail
    go_ret
    exact ⟨by rw [HRES.out]; unfold rightB; rw [← HNU.out, ← HQ2.out, ← HQ6.out, if_neg (ne_true_of_eq_false' HRA.out.symm), if_neg (ne_true_of_eq_false' HA2.out.symm), if_neg (ne_true_of_eq_false' HB.out.symm), if_neg (ne_true_of_eq_false' HB2.out.symm), if_neg (ne_true_of_eq_false' HC.out.symm), if_neg (ne_true_of_eq_false' HC2.out.symm), if_pos HD.out.symm] <;> rfl, HB4.out⟩
  | false =>
  have fl6 := (blk_cell HF4.out 6).trans rfl
  have xl5 := (blk_cell HX4.out 5).trans rfl
  go_upto_region 15 with fail
  go_cut [94] (fun v wx => ∃ b : Bool, v = .bool b ∧ Aside0 (b = rE r7 x) ∧ Aside0 (wx.heap[w.heap.size]? = some (.cells #[.string s, .bool q2, .int .i64 r3, .int .i64 r4, .bool nu, .bool q6, .int .i64 r7] 79 (0, 0))) ∧ Aside0 (wx.heap[w.heap.size + 1]? = some (.cells #[.int .i64 x.f0, .int .i64 x.f1, .int .i64 x.f2, .int .i64 x.f3, .int .i64 x.f4, .int .i64 x.f5, .int .i64 x.f6.f0, .int .i64 x.f6.f1] 37 (0, 0))) ∧ Aside0 (wx.heap[w.heap.size + 1 + 1]? = some (.cells #[.int .i64 c.f0, .int .i64 c.f1, .int .i64 c.f2, .int .i64 c.f3, .slice AO c.f4.length cO, .slice AE c.f5.length cE, .int .i64 c.f6.f0, .int .i64 c.f6.f1, .slice A1 c.f6.f2.length c1, .slice A2 c.f6.f3.length c2, .int .i64 c.f7.f0, .int .i64 c.f7.f1, .slice A3 c.f7.f2.length c3, .slice A4 c.f7.f3.length c4] 29 (0, 0))) ∧ Aside0 (Below w.heap.size w wx))
  case first =>
    by_cases hz0 : r7 = 0
    · have Hz0 := Aside0.mk hz0
      have dz0 : (r7 == 0) = true := by rw [beq_iff_eq]; exact hz0
      have ez0 : (r7 != 0) = false := by rw [bne, dz0]; rfl
      clear hz0
      go_wp2_with fail
      go_meet
      exact ⟨true, rfl, ⟨by unfold rE; simp [Hz0.out]⟩, HF4, HX4, HC4, HB4⟩
    · have Hz0 := Aside0.mk hz0
      have dz0 : (r7 == 0) = false := beq_eq_false_iff_ne.mpr hz0
      have ez0 : (r7 != 0) = true := by rw [bne, dz0]; rfl
      clear hz0
      by_cases hz1 : r7 = 1
      · have Hz1 := Aside0.mk hz1
        have dz1 : (r7 == 1) = true := by rw [beq_iff_eq]; exact hz1
        have ez1 : (r7 != 1) = false := by rw [bne, dz1]; rfl
        clear hz1
        by_cases hex : x.f5 = -1
        · have Hex := Aside0.mk hex
          have dex : (x.f5 == -1) = true := by rw [beq_iff_eq]; exact hex
          have eex : (x.f5 != -1) = false := by rw [bne, dex]; rfl
          clear hex
          go_wp2_with fail
          go_meet
          exact ⟨true, rfl, ⟨by unfold rE; simp [Hz0.out, Hz1.out, Hex.out]⟩, HF4, HX4, HC4, HB4⟩
        · have Hex := Aside0.mk hex
          have dex : (x.f5 == -1) = false := beq_eq_false_iff_ne.mpr hex
          have eex : (x.f5 != -1) = true := by rw [bne, dex]; rfl
          clear hex
          go_wp2_with fail
          go_meet
          exact ⟨false, rfl, ⟨by unfold rE; simp [Hz0.out, Hz1.out, Hex.out]⟩, HF4, HX4, HC4, HB4⟩
      · have Hz1 := Aside0.mk hz1
        have dz1 : (r7 == 1) = false := beq_eq_false_iff_ne.mpr hz1
        have ez1 : (r7 != 1) = true := by rw [bne, dz1]; rfl
        clear hz1
        go_wp2_with fail
        go_meet
        exact ⟨false, rfl, ⟨by unfold rE; simp [Hz0.out, Hz1.out]⟩, HF4, HX4, HC4, HB4⟩
  case rest =>
  clear HB4 HF4 HX4 HC4
  clear fl6 xl5
  obtain ⟨bE, rfl, HE, HF4, HX4, HC4, HB4⟩ := hcut
  cases bE with
  | true =>
    have xl5 := (blk_cell HX4.out 5).trans rfl
    go_wp2_with fail
    go_ret
    exact ⟨by rw [HRES.out]; unfold rightB; rw [← HNU.out, ← HQ2.out, ← HQ6.out, if_neg (ne_true_of_eq_false' HRA.out.symm), if_neg (ne_true_of_eq_false' HA2.out.symm), if_neg (ne_true_of_eq_false' HB.out.symm), if_neg (ne_true_of_eq_false' HB2.out.symm), if_neg (ne_true_of_eq_false' HC.out.symm), if_neg (ne_true_of_eq_false' HC2.out.symm), if_neg (ne_true_of_eq_false' HD.out.symm), if_pos HE.out.symm] <;> rfl, HB4.out⟩
  | false =>
    have xl5 := (blk_cell HX4.out 5).trans rfl
    have cl5 := (blk_cell HC4.out 5).trans rfl
    by_cases hp : 0 ≤ x.f5
    · have Hp := Aside0.mk hp
      have dp : decide (0 ≤ x.f5) = true := decide_eq_true hp
      have ep : decide (x.f5 ≥ 0) = true := dp
      clear hp
      by_cases hq : x.f5 < (c.f5.length : Int)
      · have Hq := Aside0.mk hq
        have dq : decide (x.f5 < (c.f5.length : Int)) = true := decide_eq_true hq
        have eq : decide ((c.f5.length : Int) > x.f5) = true := dq
        have gq : decide ((c.f5.length : Int) ≤ x.f5) = false := decide_eq_false (by omega)
        have kq : decide (x.f5 ≥ (c.f5.length : Int)) = false := gq
        clear hq
        have hF : rF c.f5.length x = true := by unfold rF; simp [Hp.out, Hq.out]
        have HFF := Aside0.mk hF
        clear hF
        go_wp2_with fail
        go_ret
        exact ⟨by rw [HRES.out]; unfold rightB; rw [← HNU.out, ← HQ2.out, ← HQ6.out, if_neg (ne_true_of_eq_false' HRA.out.symm), if_neg (ne_true_of_eq_false' HA2.out.symm), if_neg (ne_true_of_eq_false' HB.out.symm), if_neg (ne_true_of_eq_false' HB2.out.symm), if_neg (ne_true_of_eq_false' HC.out.symm), if_neg (ne_true_of_eq_false' HC2.out.symm), if_neg (ne_true_of_eq_false' HD.out.symm), if_neg (ne_true_of_eq_false' HE.out.symm), HFF.out] <;> rfl, HB4.out⟩
      · have Hq := Aside0.mk hq
        have dq : decide (x.f5 < (c.f5.length : Int)) = false := decide_eq_false hq
        have eq : decide ((c.f5.length : Int) > x.f5) = false := dq
        have gq : decide ((c.f5.length : Int) ≤ x.f5) = true := decide_eq_true (by omega)
        have kq : decide (x.f5 ≥ (c.f5.length : Int)) = true := gq
        clear hq
        have hF : rF c.f5.length x = false := by unfold rF; simp [Hp.out, Hq.out]
        have HFF := Aside0.mk hF
        clear hF
        go_wp2_with fail
        go_ret
        exact ⟨by rw [HRES.out]; unfold rightB; rw [← HNU.out, ← HQ2.out, ← HQ6.out, if_neg (ne_true_of_eq_false' HRA.out.symm), if_neg (ne_true_of_eq_false' HA2.out.symm), if_neg (ne_true_of_eq_false' HB.out.symm), if_neg (ne_true_of_eq_false' HB2.out.symm), if_neg (ne_true_of_eq_false' HC.out.symm), if_neg (ne_true_of_eq_false' HC2.out.symm), if_neg (ne_true_of_eq_false' HD.out.symm), if_neg (ne_true_of_eq_false' HE.out.symm), HFF.out] <;> rfl, HB4.out⟩
    · have Hp := Aside0.mk hp
      have dp : decide (0 ≤ x.f5) = false := decide_eq_false hp
      have ep : decide (x.f5 ≥ 0) = false := dp
      clear hp
      have hF : rF c.f5.length x = false := by unfold rF; simp [Hp.out]
      have HFF := Aside0.mk hF
      clear hF
      go_wp2_with fail
      go_ret
      exact ⟨by rw [HRES.out]; unfold rightB; rw [← HNU.out, ← HQ2.out, ← HQ6.out, if_neg (ne_true_of_eq_false' HRA.out.symm), if_neg (ne_true_of_eq_false' HA2.out.symm), if_neg (ne_true_of_eq_false' HB.out.symm), if_neg (ne_true_of_eq_false' HB2.out.symm), if_neg (ne_true_of_eq_false' HC.out.symm), if_neg (ne_true_of_eq_false' HC2.out.symm), if_neg (ne_true_of_eq_false' HD.out.symm), if_neg (ne_true_of_eq_false' HE.out.symm), HFF.out] <;> rfl, HB4.out⟩
end Go.Proofs.Ytecaemebamhamaa.Lv
