/- The reference's Box and Unbox answer as nanbox's do; alike. -/
import Derived.Test.YtoleplbmkdhgeaaPQ9
import Derived.Test.YtoleplbmkdhgeaaPQ9
import Derived.Test.YtoleplbmkdhgeaaPQ8
import Derived.Test.YtoleplbmkdhgeaaPQ7
import Derived.Test.YtoleplbmkdhgeaaHaulGp
set_option linter.unusedVariables false
set_option linter.unusedSimpArgs false
namespace Go.Proofs.Ytoleplbmkdhgeaa.Hal
open Go.RowKit Go.Proofs.YtoleplbmkdhgeaaW.PrintWords Go.Proofs.Ytoleplbmkdhgeaa.PQ Go.Proofs.Ytoleplbmkdhgeaa.Hnd Go.Proofs.Ytoleplbmkdhgeaa.Nb

theorem ref_odd {a : Int} (h : U64 a) : backstitchref3_Odd.f a = some (odd a) := by
  obtain ⟨h0, h1⟩ := h
  rw [odd_f a h0 h1]
  unfold backstitchref3_Odd.f
  have e1 : Int.tmod (a / 4503599627370496) 2048 = a / 4503599627370496 % 2048 := Int.tmod_eq_emod_of_nonneg (by omega)
  rw [e1, wrap_u64]
  by_cases h : a / 4503599627370496 % 2048 = 2047
  · rw [if_pos h]; simp [h]
    rw [Bool.eq_iff_iff]; simp
  · rw [if_neg h]; simp [h]
theorem ref_tag {k : Int} (h0 : 0 ≤ k) (h6 : k ≤ 6) (h3 : k ≠ 3) : backstitchref3_Tag.f k = some (65529 + (if k > 3 then k - 1 else k)) := by
  have hc : k = 0 ∨ k = 1 ∨ k = 2 ∨ k = 4 ∨ k = 5 ∨ k = 6 := by omega
  rcases hc with rfl | rfl | rfl | rfl | rfl | rfl <;> rfl
theorem ref_rest {n : Int} : backstitchref3_Rest.f n 4294967296 = some (n % 4294967296) := by
  unfold backstitchref3_Rest.f
  rw [if_neg (by decide)]
  have e : Int.tmod n 4294967296 = if 0 ≤ n ∨ (4294967296 : Int) ∣ n then n % 4294967296 else n % 4294967296 - 4294967296 := by
    rw [Int.tmod_eq_emod]
    split <;> simp
  rw [e]
  by_cases h : 0 ≤ n ∨ (4294967296 : Int) ∣ n
  · rw [if_pos h, if_neg (by omega)]
  · rw [if_neg h, if_pos (by omega)]
    congr 1
    unfold wrap64; omega
theorem ref_box (K : Nat) (hK : 5 ≤ K) (kd n : Int) (hn : I64 n) : backstitchref3_Box.f K kd n = some (bx kd n) := by
  obtain ⟨K, rfl⟩ : ∃ m, K = m + 5 := ⟨K - 5, by omega⟩
  have hb : backstitchref3_Box.f (K + 5) kd n = backstitchref3_Box.j0 (K + 5) (decide (kd < 0 ∨ kd > 6)) kd n := by
    unfold backstitchref3_Box.f
    by_cases h : kd < 0
    · rw [if_pos h]; congr 1; simp [h]
    · rw [if_neg h]; congr 1; simp [h]
  rw [hb, backstitchref3_Box.j0]
  unfold bx
  by_cases h1 : kd < 0 ∨ kd > 6
  · rw [if_pos (by simpa using h1), if_pos h1]
  · rw [if_neg (by simpa using h1), if_neg h1]
    by_cases h3 : kd = 3
    · rw [if_pos h3, if_pos h3, wrap_u64, ref_odd (by unfold U64; omega)]
      simp only [Option.bind_some]
      by_cases ho : odd (n % 18446744073709551616) = true
      · rw [if_pos ho, if_pos ho]
      · rw [if_neg ho, if_neg ho]
    · rw [if_neg h3, if_neg h3]
      have hj : ∀ a b : Int, backstitchref3_Box.j3 (K + 2) a b kd n = if n < a ∨ n > b then some (0, 1) else some (tg kd + n % 4294967296, 0) := by
        intro a b
        have h4 : ∀ t : Bool, backstitchref3_Box.j4 (K + 1) t kd n = if t = true then some (0, 1) else some (tg kd + n % 4294967296, 0) := by
          intro t
          rw [backstitchref3_Box.j4, ref_tag (by omega) (by omega) h3, ref_rest]
          simp only [Option.bind_some, wrap_u64]
          by_cases ht : t = true
          · rw [if_pos ht, if_pos ht]
          · rw [if_neg ht, if_neg ht]
            congr 2
            unfold tg; split <;> omega
        rw [backstitchref3_Box.j3, h4, h4]
        by_cases ha : n < a
        · rw [if_pos ha, if_pos rfl, if_pos (.inl ha)]
        · rw [if_neg ha]
          by_cases hbb : n > b
          · rw [if_pos (by simpa using hbb), if_pos (.inr hbb)]
          · rw [if_neg (by simpa using hbb), if_neg (by omega)]
      have hx : (if kd = 0 then backstitchref3_Box.j1 (K + 4) 0 0 kd n else backstitchref3_Box.j1 (K + 4) 0 4294967295 kd n) = backstitchref3_Box.j3 (K + 2) (lo kd) (hi kd) kd n := by
        simp only [backstitchref3_Box.j1, backstitchref3_Box.j2]
        unfold lo hi
        by_cases h0 : kd = 0
        · simp [h0]
        · by_cases h1' : kd = 1
          · simp [h1']
          · by_cases h2 : kd = 2
            · simp [h2]
            · simp [h0, h1', h2]
      rw [hx, hj]
      split <;> rfl
/-- The number that the reference reads behind a tag. -/
def nn (x w : Int) : Int := if x = 2 ∧ 2147483648 ≤ w % 281474976710656 then w % 281474976710656 - 4294967296 else w % 281474976710656
theorem nn_i64 (x w : Int) : I64 (nn x w) := by unfold nn I64; split <;> omega
def L6 : List Int := [0, 1, 2, 4, 5, 6]
theorem un_step (k : Nat) {w kd n x t : Int} {i : Nat} (hw : U64 w) (hi : i < 6) (hx : rd L6 (i : Int) = x) (ht : backstitchref3_Tag.f x = some t) :
    backstitchref3_Unbox.l0 (k + 1) w L6 6 (i : Int) kd n = if w / 281474976710656 = t then backstitchref3_Unbox.l0 k w L6 6 ((i + 1 : Nat) : Int) x (nn x w) else backstitchref3_Unbox.l0 k w L6 6 ((i + 1 : Nat) : Int) kd n := by
  rw [backstitchref3_Unbox.l0]
  have hl : (L6.length : Int) = 6 := rfl
  have e1 : wrap64 (Int.tmod w 281474976710656) = w % 281474976710656 := by
    obtain ⟨h0, h1⟩ := hw
    rw [Int.tmod_eq_emod_of_nonneg h0]; unfold wrap64; omega
  have e2 : wrap64 ((i : Int) + 1) = ((i + 1 : Nat) : Int) := by unfold wrap64; omega
  rw [if_pos (by omega), if_pos (by omega), if_pos (by omega), hx, ht]
  simp only [Option.bind_some, e1, e2]
  by_cases hc : w / 281474976710656 = t
  · rw [if_pos hc, if_pos hc]
    unfold nn
    by_cases h2 : x = 2
    · rw [if_pos h2]
      by_cases h3 : w % 281474976710656 ≥ 2147483648
      · rw [if_pos h3, if_pos ⟨h2, h3⟩]
        have e3 : wrap64 (w % 281474976710656 - 4294967296) = w % 281474976710656 - 4294967296 := by unfold wrap64; omega
        rw [e3]
      · rw [if_neg h3, if_neg (fun h => h3 h.2)]
    · rw [if_neg h2, if_neg (fun h => h2 h.1)]
  · rw [if_neg hc, if_neg hc]
theorem un_end (k : Nat) (hk : 5 ≤ k) {w kd n : Int} (hn : I64 n) : backstitchref3_Unbox.l0 (k + 1) w L6 6 ((6 : Nat) : Int) kd n = some (if bx kd n = (w, 0) then (kd, n, true) else (0, 0, false)) := by
  rw [backstitchref3_Unbox.l0, if_neg (by decide), ref_box k hk kd n hn]
  simp only [Option.bind_some]
  by_cases h : bx kd n = (w, 0)
  · rw [if_pos h, h]; simp
  · rw [if_neg h]
    by_cases h2 : (bx kd n).2 = 0
    · rw [if_pos h2, if_neg (fun h1 => h (Prod.ext h1 h2))]
    · rw [if_neg h2]
theorem bx_word {kd n w : Int} (h0 : 0 ≤ kd) (h6 : kd ≤ 6) (h3 : kd ≠ 3) : bx kd n = (w, 0) ↔ lo kd ≤ n ∧ n ≤ hi kd ∧ tg kd + n % 4294967296 = w := by
  constructor
  · intro h
    have he : (bx kd n).2 = 0 := by rw [h]
    have hr := ((bx_err kd n).1 he).2.2.resolve_left h3
    rw [bx_other h0 h6 h3 hr] at h
    exact ⟨hr.1, hr.2, congrArg Prod.fst h⟩
  · rintro ⟨h1, h2, h⟩
    rw [bx_other h0 h6 h3 ⟨h1, h2⟩, h]
theorem nn_un {w : Int} (hw : U64 w) (h1 : 65529 ≤ w / 281474976710656) (h2 : w / 281474976710656 ≤ 65534) :
    (if bx (uk w) (nn (uk w) w) = (w, 0) then (uk w, nn (uk w) w, true) else (0, 0, false)) = ((ub w).1, (ub w).2.1, decide ((ub w).2.2 = 0)) := by
  obtain ⟨w0, w1⟩ := hw
  have hu : uk w = 0 ∨ uk w = 1 ∨ uk w = 2 ∨ uk w = 4 ∨ uk w = 5 ∨ uk w = 6 := by unfold uk; split <;> omega
  have ht : tg (uk w) = w / 281474976710656 * 281474976710656 := by unfold tg uk; split <;> split <;> omega
  have hub : ub w = if bx (uk w) (un w) = (w, 0) then (uk w, un w, 0) else (0, 0, 3) := by unfold ub; rw [if_neg (by omega)]
  rw [hub]
  by_cases hr : w % 281474976710656 < 4294967296
  · have e : nn (uk w) w = un w := by
      unfold nn un
      by_cases h : uk w = 2
      · rw [if_pos h]
        by_cases h4 : 2147483648 ≤ w % 281474976710656
        · rw [if_pos ⟨h, h4⟩]; omega
        · rw [if_neg (fun x => h4 x.2)]; omega
      · rw [if_neg (fun x => h x.1), if_neg h]; omega
    rw [e]
    split <;> rfl
  · have n1 : ¬ bx (uk w) (nn (uk w) w) = (w, 0) := by
      rw [bx_word (by omega) (by omega) (by omega), ht]
      rintro ⟨a1, a2, a3⟩
      unfold nn at a1 a2 a3
      unfold hi at a2
      by_cases h : uk w = 2
      · rw [if_pos ⟨h, by omega⟩] at a2 a3
        rw [if_neg (by omega), if_neg (by omega), if_pos h] at a2
        omega
      · rw [if_neg (fun x => h x.1)] at a2
        split at a2
        · omega
        · split at a2 <;> omega
    have n2 : ¬ bx (uk w) (un w) = (w, 0) := by
      rw [bx_word (by omega) (by omega) (by omega), ht]
      rintro ⟨a1, a2, a3⟩
      have : un w % 4294967296 = w % 4294967296 := by unfold un; split <;> omega
      omega
    rw [if_neg n1, if_neg n2]
    rfl
theorem ref_unbox (K : Nat) (hK : 12 ≤ K) {w : Int} (hw : U64 w) : backstitchref3_Unbox.f K w = some ((ub w).1, (ub w).2.1, decide ((ub w).2.2 = 0)) := by
  obtain ⟨K, rfl⟩ : ∃ m, K = m + 7 := ⟨K - 7, by omega⟩
  have hs : backstitchref3_Unbox.f (K + 7) w = backstitchref3_Unbox.l0 (K + 7) w L6 6 ((0 : Nat) : Int) 3 (wrap64 w) := rfl
  have hw' := hw
  obtain ⟨w0, w1⟩ := hw'
  rw [hs, un_step (K + 6) hw (i := 0) (x := 0) (t := 65529) (by omega) rfl rfl]
  have s1 : ∀ kd n, backstitchref3_Unbox.l0 (K + 6) w L6 6 ((0 + 1 : Nat) : Int) kd n = _ := fun kd n => un_step (K + 5) hw (i := 1) (x := 1) (t := 65530) (by omega) rfl rfl
  have s2 : ∀ kd n, backstitchref3_Unbox.l0 (K + 5) w L6 6 ((1 + 1 : Nat) : Int) kd n = _ := fun kd n => un_step (K + 4) hw (i := 2) (x := 2) (t := 65531) (by omega) rfl rfl
  have s3 : ∀ kd n, backstitchref3_Unbox.l0 (K + 4) w L6 6 ((2 + 1 : Nat) : Int) kd n = _ := fun kd n => un_step (K + 3) hw (i := 3) (x := 4) (t := 65532) (by omega) rfl rfl
  have s4 : ∀ kd n, backstitchref3_Unbox.l0 (K + 3) w L6 6 ((3 + 1 : Nat) : Int) kd n = _ := fun kd n => un_step (K + 2) hw (i := 4) (x := 5) (t := 65533) (by omega) rfl rfl
  have s5 : ∀ kd n, backstitchref3_Unbox.l0 (K + 2) w L6 6 ((4 + 1 : Nat) : Int) kd n = _ := fun kd n => un_step (K + 1) hw (i := 5) (x := 6) (t := 65534) (by omega) rfl rfl
  have s6 : ∀ kd n, I64 n → backstitchref3_Unbox.l0 (K + 1) w L6 6 ((5 + 1 : Nat) : Int) kd n = _ := fun kd n hn => un_end K (by omega) hn
  have hT : (w / 281474976710656 < 65529 ∨ w / 281474976710656 > 65534) ∨ w / 281474976710656 = 65529 ∨ w / 281474976710656 = 65530 ∨ w / 281474976710656 = 65531 ∨ w / 281474976710656 = 65532 ∨ w / 281474976710656 = 65533 ∨ w / 281474976710656 = 65534 := by omega
  rcases hT with h | h | h | h | h | h | h
  · rw [if_neg (by omega), s1, if_neg (by omega), s2, if_neg (by omega), s3, if_neg (by omega), s4, if_neg (by omega), s5, if_neg (by omega), s6 _ _ (by unfold I64 wrap64; omega), ub_outside h, bx_three]
    have e : wrap64 w % 18446744073709551616 = w := by unfold wrap64; omega
    rw [e]
    by_cases ho : odd w = true
    · rw [if_pos ho]
      by_cases hc : w = 9221120237041090561
      · rw [if_pos (by rw [hc]), if_neg (fun x => x.2 hc)]; rfl
      · rw [if_neg (fun x => hc (congrArg Prod.fst x).symm), if_pos ⟨ho, hc⟩]; rfl
    · rw [if_neg ho, if_pos rfl, if_neg (fun x => ho x.1)]; rfl
  · have hk : uk w = 0 := by unfold uk; rw [h]; rfl
    rw [if_pos h, s1, if_neg (by omega), s2, if_neg (by omega), s3, if_neg (by omega), s4, if_neg (by omega), s5, if_neg (by omega), s6 _ _ (nn_i64 _ _), ← nn_un hw (by omega) (by omega), hk]
  · have hk : uk w = 1 := by unfold uk; rw [h]; rfl
    rw [if_neg (by omega), s1, if_pos h, s2, if_neg (by omega), s3, if_neg (by omega), s4, if_neg (by omega), s5, if_neg (by omega), s6 _ _ (nn_i64 _ _), ← nn_un hw (by omega) (by omega), hk]
  · have hk : uk w = 2 := by unfold uk; rw [h]; rfl
    rw [if_neg (by omega), s1, if_neg (by omega), s2, if_pos h, s3, if_neg (by omega), s4, if_neg (by omega), s5, if_neg (by omega), s6 _ _ (nn_i64 _ _), ← nn_un hw (by omega) (by omega), hk]
  · have hk : uk w = 4 := by unfold uk; rw [h]; rfl
    rw [if_neg (by omega), s1, if_neg (by omega), s2, if_neg (by omega), s3, if_pos h, s4, if_neg (by omega), s5, if_neg (by omega), s6 _ _ (nn_i64 _ _), ← nn_un hw (by omega) (by omega), hk]
  · have hk : uk w = 5 := by unfold uk; rw [h]; rfl
    rw [if_neg (by omega), s1, if_neg (by omega), s2, if_neg (by omega), s3, if_neg (by omega), s4, if_pos h, s5, if_neg (by omega), s6 _ _ (nn_i64 _ _), ← nn_un hw (by omega) (by omega), hk]
  · have hk : uk w = 6 := by unfold uk; rw [h]; rfl
    rw [if_neg (by omega), s1, if_neg (by omega), s2, if_neg (by omega), s3, if_neg (by omega), s4, if_neg (by omega), s5, if_pos h, s6 _ _ (nn_i64 _ _), ← nn_un hw (by omega) (by omega), hk]
/-! ### alike -/
theorem alike_l {ms : List (S56)} {p u : Int} (hl : ms.length ≤ 1000000) (hu : ∀ m ∈ ms, m.f1 = p → m.f0 = u) : ∀ (d i k : Nat), ms.length - i = d → d < k → (∃ j, i ≤ j ∧ ∃ h : j < ms.length, ms[j].f1 = p) →
    backstitchkeep3_alike.l0 k true ms (ms.length : Int) (i : Int) 5 p 5 u = some true := by
  intro d
  induction d with
  | zero =>
    intro i k hd hk ⟨j, h1, h2, _⟩
    omega
  | succ d ih =>
    intro i k hd hk ⟨j, h1, h2, h3⟩
    obtain ⟨k, rfl⟩ : ∃ q, k = q + 1 := ⟨k - 1, by omega⟩
    have hlt : i < ms.length := by omega
    rw [backstitchkeep3_alike.l0]
    have hrd : rd_T56 ms (i : Int) = ms[i] := by unfold rd_T56; simp [List.getD_eq_getElem?_getD, List.getElem?_eq_getElem hlt]
    have hwr : wrap64 ((i : Int) + 1) = ((i + 1 : Nat) : Int) := by unfold wrap64; omega
    rw [if_pos (by omega), if_pos (by omega), if_pos (by omega), hrd, hwr]
    by_cases h : ms[i].f1 = p
    · rw [if_pos h, if_pos rfl, if_pos rfl, hu _ (List.getElem_mem hlt) h]
      simp
    · rw [if_neg h]
      refine ih (i + 1) k (by omega) (by omega) ⟨j, ?_, h2, h3⟩
      rcases Nat.lt_or_ge i j with h_ | h_
      · exact h_
      · exact absurd (by have : i = j := by omega
                         subst this; exact h3) h
theorem alike_f {ms : List (S56)} {y z : Int} (K : Nat) (hK : ms.length + 13 ≤ K) (hl : ms.length ≤ 1000000) (hy : U64 y) (hv : (ub y).2.2 = 0)
    (h1 : isRef y = false → z = y) (h2 : isRef y = true → ∃ u, z = refW u ∧ 0 ≤ u ∧ u ≤ 4294967295 ∧ (∀ m ∈ ms, m.f1 = plN y → m.f0 = u) ∧ ∃ m ∈ ms, m.f1 = plN y) : backstitchkeep3_alike.f K y z ms = some true := by
  obtain ⟨K, rfl⟩ : ∃ m, K = m + 1 := ⟨K - 1, by omega⟩
  unfold backstitchkeep3_alike.f
  rw [ref_unbox _ (by omega) hy]
  simp only [Option.bind_some, hv, decide_true, if_true]
  rw [backstitchkeep3_alike.j0]
  by_cases hr : isRef y = true
  · obtain ⟨u, rfl, u0, u1, hu, m, hm, hp⟩ := h2 hr
    have hk : (ub y).1 = 5 := by unfold isRef at hr; simp [hv] at hr; exact hr
    obtain ⟨r1, r2, r3, r4⟩ := refW_is u0 u1
    have hk2 : (ub (refW u)).1 = 5 := by unfold isRef at r1; simp [r4] at r1; exact r1
    have hn2 : (ub (refW u)).2.1 = u := r2
    rw [if_neg (by rw [hk]; decide), ref_unbox _ (by omega) r3]
    simp only [Option.bind_some, hk, hk2, hn2, r4, decide_true]
    obtain ⟨j, hj, e⟩ := List.getElem_of_mem hm
    exact alike_l hl hu ms.length 0 K (by omega) (by omega) ⟨j, Nat.zero_le _, hj, by rw [e]; exact hp⟩
  · have hr' : isRef y = false := by simpa using hr
    have hk : ((ub y).1 != 5) = true := by unfold isRef at hr'; simp [hv] at hr'; simpa using hr'
    rw [hk, if_pos rfl, h1 hr']
    simp
theorem offs_len (fr : List Int) : ∀ fs : List Int, fs.length ≤ offs fr fs := by
  intro fs
  induction fs with
  | nil => simp [offs]
  | cons p fs ih => rw [offs_cons, List.length_cons]; omega
/-- A word that was told, and its translation, are alike. -/
theorem fin_alike {fr rs objs outs : List Int} {c : Col} {fs : List Int} (H : Heap fr rs objs) (F : Fin_ fr objs rs outs c fs) (K : Nat) (hK : 3000 ≤ K) {y : Int} (hy : U64 y) (hv : rightB (mem objs) y = true) (hd : isRef y = true → ∃ u, c.fn (plN y) = some u) :
    backstitchkeep3_alike.f K y (trW c.fn y) c.mvs = some true := by
  have hl := fin_len H F
  have h1 := H.len
  have h2 : objs.length ≤ fr.length := by
    have := H.ok.all
    have h3 := offs_len fr objs
    omega
  have hv0 : (ub y).2.2 = 0 := by unfold rightB at hv; simp at hv; exact hv.1
  refine alike_f K (by omega) (by omega) hy hv0 (fun hr => by unfold trW; rw [hr]; rfl) (fun hr => ?_)
  obtain ⟨u, hu⟩ := hd hr
  have hm := (F.2.1.fn _ _).1 hu
  obtain ⟨f1, f2, f3, f4, f5, f6, f7⟩ := fin_all F hm
  refine ⟨u, by unfold trW; rw [if_pos hr, hu], f1, by omega, fun m hm' e => ?_, ⟨u, plN y⟩, by rw [F.2.1.mvs]; exact hm, rfl⟩
  rw [F.2.1.mvs] at hm'
  have e2 : c.fn (plN y) = some m.f0 := (F.2.1.fn _ _).2 (by rw [← e]; exact hm')
  rw [hu] at e2
  injection e2 with e2
  exact e2.symm
/-- The moves, one behind the other. -/
theorem mv_step {fr : List Int} : ∀ (fs : List Int) (a i : Nat) (h : i < (mvOf fr a fs).length), (mvOf fr a fs)[i].f0 = ((a + offs fr (fs.take i) : Nat) : Int) ∧ offs fr (fs.take (i + 1)) = offs fr (fs.take i) + (1 + szN fr (mvOf fr a fs)[i].f1) := by
  intro fs
  induction fs with
  | nil => intro a i h; simp [mvOf] at h
  | cons p fs ih =>
    intro a i h
    cases i with
    | zero => simp [mvOf, offs]
    | succ i =>
      simp only [mvOf, List.length_cons] at h
      obtain ⟨i1, i2⟩ := ih (a + (1 + szN fr p)) i (by omega)
      simp only [mvOf, List.getElem_cons_succ, List.take_succ_cons, offs_cons]
      refine ⟨?_, by rw [i2]; omega⟩
      rw [i1]
      omega
/-- All that the law looks at, move by move. -/
structure Step (fr dst : List Int) (ms : List (S56)) (at_ : Nat) (m : S56) : Prop where
  dest : m.f0 = (at_ : Int)
  from0 : 0 ≤ m.f1
  fits : m.f1.toNat + 1 + szN fr m.f1 ≤ fr.length
  fits2 : at_ + 1 + szN fr m.f1 ≤ dst.length
  mark : dst.getD at_ 0 = fr.getD m.f1.toNat 0
  word : ∀ j, j < szN fr m.f1 → backstitchkeep3_alike.f 3000 (fr.getD (m.f1.toNat + 1 + j) 0) (dst.getD (at_ + 1 + j) 0) ms = some true
theorem fin_steps {fr rs objs outs : List Int} {c : Col} {fs : List Int} (H : Heap fr rs objs) (hU : ∀ x ∈ fr, U64 x) (F : Fin_ fr objs rs outs c fs) :
    ∃ at_ : Nat → Nat, at_ 0 = 0 ∧ at_ c.mvs.length = c.dst.length ∧ ∀ i (h : i < c.mvs.length), Step fr c.dst c.mvs (at_ i) c.mvs[i] ∧ at_ (i + 1) = at_ i + 1 + szN fr c.mvs[i].f1 := by
  have hl := fin_len H F
  refine ⟨fun i => offs fr (fs.take i), by simp [offs], by show offs fr (fs.take c.mvs.length) = c.dst.length; rw [hl.2.2.2.2, List.take_length, F.2.1.len], fun i h => ?_⟩
  have he := F.2.1.mvs
  have hm0 : ∀ x, x ∈ c.mvs → x ∈ mvOf fr 0 fs := fun x hx => by rw [← he]; exact hx
  have hm := hm0 _ (List.getElem_mem h)
  have h' : i < (mvOf fr 0 fs).length := by rw [← he]; exact h
  have hg : c.mvs[i] = (mvOf fr 0 fs)[i] := by simp only [he]
  obtain ⟨a1, a2⟩ := mv_step fs 0 i h'
  rw [← hg] at a1 a2
  rw [Nat.zero_add] at a1
  generalize c.mvs[i] = m at hm a1 a2 ⊢
  obtain ⟨t, p⟩ := m
  obtain ⟨f1, f2, f3, f4, f5, f6, f7⟩ := fin_all F hm
  have hf := H.ok.fit p (F.2.1.sub p f5)
  simp only at a1 a2
  have ht : t.toNat = offs fr (fs.take i) := by omega
  refine ⟨⟨a1, hf.1, hf.2.2, ?_, ?_, fun j hj => ?_⟩, by show offs fr (fs.take (i + 1)) = offs fr (fs.take i) + 1 + szN fr p; omega⟩
  · show offs fr (fs.take i) + 1 + szN fr p ≤ c.dst.length
    omega
  · show c.dst.getD (offs fr (fs.take i)) 0 = fr.getD p.toNat 0
    rw [← ht]; exact f2
  · show backstitchkeep3_alike.f 3000 (fr.getD (p.toNat + 1 + j) 0) (c.dst.getD (offs fr (fs.take i) + 1 + j) 0) c.mvs = some true
    rw [← ht, (f7 j hj).2]
    obtain ⟨w1, w2⟩ := word_ok H hU F hm hj
    exact fin_alike H F 3000 (by omega) w1 w2 (f7 j hj).1
theorem fin_roots {fr rs objs outs : List Int} {c : Col} {fs : List Int} (H : Heap fr rs objs) (hV : ∀ x ∈ rs, U64 x) (F : Fin_ fr objs rs outs c fs) : outs.length = rs.length ∧ ∀ i, i < rs.length → backstitchkeep3_alike.f 3000 (rs.getD i 0) (outs.getD i 0) c.mvs = some true := by
  refine ⟨(fin_len H F).2.2.1, fun i hi => ?_⟩
  have hm : rs.getD i 0 ∈ rs := getD_mem hi
  have he : outs.getD i 0 = trW c.fn (rs.getD i 0) := by
    rw [F.2.2.1]
    simp [List.getD_eq_getElem?_getD, List.getElem?_eq_getElem hi]
  rw [he]
  exact fin_alike H F 3000 (by omega) (hV _ hm) (H.rval _ hm) (F.2.2.2 _ hm)
end Go.Proofs.Ytoleplbmkdhgeaa.Hal
