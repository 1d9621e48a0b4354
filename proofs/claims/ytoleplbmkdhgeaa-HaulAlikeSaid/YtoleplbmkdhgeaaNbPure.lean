/- What the nanbox functions compute, in closed form: no program, no memory. -/
import Derived.Laws.BitsLemmas
import Derived.RowKit
set_option linter.unusedVariables false
set_option linter.unusedSimpArgs false
namespace Go.Proofs.Ytoleplbmkdhgeaa.Nb
open Go.RowKit

theorem wrap_u64 (n : Int) : IntKind.u64.wrap n = n % 18446744073709551616 := by simp [IntKind.wrap, IntKind.bits, IntKind.signed]
theorem wraps_u64 (n : Int) (h₀ : 0 ≤ n) (h₁ : n < 2 ^ 64) : IntKind.u64.wrap n = n := by rw [wrap_u64]; omega
theorem and63 (a : Int) (h₀ : 0 ≤ a) (h₁ : a < 18446744073709551616) : Go.bits .and .u64 a 9223372036854775807 = a % 9223372036854775808 :=
  bits_mask .u64 64 (by decide) wraps_u64 63 (by decide) a h₀ h₁
theorem or32 (a b : Int) (h₀ : 0 ≤ a) (h₁ : a < 18446744073709551616) (h : a % 4294967296 = 0) (hb : 0 ≤ b) (hb' : b < 4294967296) : Go.bits .or .u64 a b = a + b :=
  bits_join .u64 64 (by decide) wraps_u64 32 a b h₀ h h₁ hb hb' (by omega)

/-- Are a word's bits no number's? -/
def odd (w : Int) : Bool := decide (9218868437227405312 < w % 9223372036854775808)
def lo (k : Int) : Int := if k = 2 then -2147483648 else 0
def hi (k : Int) : Int := if k = 0 then 0 else if k = 1 then 1 else if k = 2 then 2147483647 else 4294967295
def tg (k : Int) : Int := (65529 + (if k > 3 then k - 1 else k)) * 281474976710656
def bx (k n : Int) : Int × Int :=
  if k < 0 ∨ k > 6 then (0, 7) else if k = 3 then (if odd (n % 18446744073709551616) = true then (9221120237041090561, 0) else (n % 18446744073709551616, 0))
  else if n < lo k ∨ n > hi k then (0, 1) else (tg k + n % 4294967296, 0)
/-- The kind that a tag tells, and the number. -/
def uk (w : Int) : Int := if w / 281474976710656 - 65529 ≥ 3 then w / 281474976710656 - 65529 + 1 else w / 281474976710656 - 65529
def un (w : Int) : Int := if uk w = 2 then (w % 4294967296 + 2147483648) % 4294967296 - 2147483648 else w % 4294967296
def ub (w : Int) : Int × Int × Int :=
  if w / 281474976710656 < 65529 ∨ w / 281474976710656 > 65534 then (if odd w = true ∧ w ≠ 9221120237041090561 then (0, 0, 3) else (3, wrap64 w, 0))
  else if bx (uk w) (un w) = (w, 0) then (uk w, un w, 0) else (0, 0, 3)

theorem bx_err (k n : Int) : (bx k n).2 = 0 ↔ 0 ≤ k ∧ k ≤ 6 ∧ (k = 3 ∨ lo k ≤ n ∧ n ≤ hi k) := by
  unfold bx
  split
  · simp; omega
  · split
    · split <;> simp <;> omega
    · split <;> simp <;> omega
theorem ub_outside {w : Int} (h : w / 281474976710656 < 65529 ∨ w / 281474976710656 > 65534) : ub w = if odd w = true ∧ w ≠ 9221120237041090561 then (0, 0, 3) else (3, wrap64 w, 0) := by
  unfold ub; rw [if_pos h]
theorem odd_iff (w : Int) : odd w = true ↔ 9218868437227405312 < w % 9223372036854775808 := by unfold odd; simp
theorem bx_three (n : Int) : bx 3 n = if odd (n % 18446744073709551616) = true then (9221120237041090561, 0) else (n % 18446744073709551616, 0) := by
  unfold bx; rw [if_neg (by omega), if_pos rfl]
theorem bx_other {k n : Int} (h0 : 0 ≤ k) (h6 : k ≤ 6) (h3 : k ≠ 3) (h : lo k ≤ n ∧ n ≤ hi k) : bx k n = (tg k + n % 4294967296, 0) := by
  unfold bx; rw [if_neg (by omega), if_neg h3, if_neg (by omega)]
theorem bx_ub (w : Int) (h0 : 0 ≤ w) (h1 : w < 18446744073709551616) (h : (ub w).2.2 = 0) : bx (ub w).1 (ub w).2.1 = (w, 0) := by
  by_cases hc : w / 281474976710656 < 65529 ∨ w / 281474976710656 > 65534
  · rw [ub_outside hc] at h ⊢
    by_cases ho : odd w = true ∧ w ≠ 9221120237041090561
    · rw [if_pos ho] at h; exact absurd h (by decide)
    · rw [if_neg ho]
      show bx 3 (wrap64 w) = (w, 0)
      rw [bx_three]
      have e : wrap64 w % 18446744073709551616 = w := by unfold wrap64; omega
      rw [e]
      by_cases hd : odd w = true
      · rw [if_pos hd]
        have : w = 9221120237041090561 := by
          by_cases hw : w = 9221120237041090561
          · exact hw
          · exact absurd ⟨hd, hw⟩ ho
        rw [this]
      · rw [if_neg hd]
  · unfold ub at h ⊢
    rw [if_neg hc] at h ⊢
    by_cases hb : bx (uk w) (un w) = (w, 0)
    · rw [if_pos hb]; exact hb
    · rw [if_neg hb] at h; exact absurd h (by decide)
theorem i64_wf {n : Int} (h : (Lit.int .i64 n).wf = true) : -9223372036854775808 ≤ n ∧ n ≤ 9223372036854775807 := by
  have := h; simp [Lit.wf, IntKind.min, IntKind.max, IntKind.bits, IntKind.signed] at this; omega
theorem u64_wf {n : Int} (h : (Lit.int .u64 n).wf = true) : 0 ≤ n ∧ n < 18446744073709551616 := by
  have := h; simp [Lit.wf, IntKind.min, IntKind.max, IntKind.bits, IntKind.signed] at this; omega
theorem bx_range {k n : Int} (h : (bx k n).2 = 0) : 0 ≤ (bx k n).1 ∧ (bx k n).1 < 18446744073709551616 := by
  obtain ⟨h0, h6, hh⟩ := (bx_err k n).1 h
  by_cases h3 : k = 3
  · subst h3; rw [bx_three]; split
    · simp
    · simp; omega
  · rw [bx_other h0 h6 h3 (hh.resolve_left h3)]
    show 0 ≤ tg k + n % 4294967296 ∧ tg k + n % 4294967296 < 18446744073709551616
    unfold tg; split <;> omega
theorem ub_bx {k n : Int} (h : (bx k n).2 = 0) (hn : -9223372036854775808 ≤ n ∧ n ≤ 9223372036854775807) :
    ub (bx k n).1 = (k, n, 0) ∨ (k = 3 ∧ odd (n % 18446744073709551616) = true ∧ (bx k n).1 = 9221120237041090561 ∧ ub (bx k n).1 = (3, 9221120237041090561, 0)) := by
  obtain ⟨h0, h6, hh⟩ := (bx_err k n).1 h
  by_cases h3 : k = 3
  · subst h3
    rw [bx_three]
    by_cases ho : odd (n % 18446744073709551616) = true
    · right; rw [if_pos ho]; exact ⟨rfl, ho, rfl, by decide⟩
    · left; rw [if_neg ho]
      have ho' := fun h => ho ((odd_iff _).2 h)
      show ub (n % 18446744073709551616) = _
      have hz : ¬ 9218868437227405312 < n % 18446744073709551616 % 9223372036854775808 := ho'
      rw [ub_outside (by omega), if_neg (fun h => ho h.1)]
      have : wrap64 (n % 18446744073709551616) = n := by unfold wrap64; omega
      rw [this]
  · left
    have hr := hh.resolve_left h3
    have hb := bx_other h0 h6 h3 hr
    have hx : (bx k n).1 = tg k + n % 4294967296 := by rw [hb]
    have hk : uk (bx k n).1 = k := by rw [hx]; unfold uk tg; split <;> split <;> omega
    have hu : un (bx k n).1 = n := by
      unfold un; rw [hk, hx]; unfold tg; unfold lo hi at hr
      by_cases h2 : k = 2
      · rw [if_pos h2, if_pos h2] at hr; rw [if_pos h2]; simp only [h2] at hr ⊢; simp at hr; simp; omega
      · rw [if_neg h2]; rw [if_neg h2, if_neg h2] at hr
        by_cases hk0 : k = 0
        · rw [if_pos hk0] at hr; split <;> omega
        · rw [if_neg hk0] at hr
          by_cases hk1 : k = 1
          · rw [if_pos hk1] at hr; split <;> omega
          · rw [if_neg hk1] at hr; split <;> omega
    unfold ub
    rw [if_neg (by rw [hx]; unfold tg; split <;> omega), hk, hu, if_pos]
    rw [hb]
/-- Two values of one word are the same, or no numbers both. -/
theorem bx_apart {k n l m : Int} (h : (bx k n).2 = 0) (h' : (bx l m).2 = 0) (hn : -9223372036854775808 ≤ n ∧ n ≤ 9223372036854775807) (hm : -9223372036854775808 ≤ m ∧ m ≤ 9223372036854775807)
    (he : (bx k n).1 = (bx l m).1) : (k = l ∧ n = m) ∨ (k = 3 ∧ l = 3 ∧ odd (n % 18446744073709551616) = true ∧ odd (m % 18446744073709551616) = true) := by
  have hc : odd 9221120237041090561 = true := by decide
  rcases ub_bx h hn with a | ⟨a1, a2, a3, a4⟩ <;> rcases ub_bx h' hm with b | ⟨b1, b2, b3, b4⟩
  · left; rw [he, b] at a; simp at a; omega
  · rw [he, b4] at a
    simp at a
    obtain ⟨rfl, rfl⟩ := a
    right; exact ⟨rfl, b1, by decide, b2⟩
  · rw [← he, a4] at b
    simp at b
    obtain ⟨rfl, rfl⟩ := b
    right; exact ⟨a1, rfl, a2, by decide⟩
  · right; exact ⟨a1, b1, a2, b2⟩
theorem odd_tags {k n : Int} (h : (bx k n).2 = 0) (h3 : k ≠ 3) : odd (bx k n).1 = true := by
  obtain ⟨h0, h6, hh⟩ := (bx_err k n).1 h
  rw [bx_other h0 h6 h3 (hh.resolve_left h3), odd_iff]
  show 9218868437227405312 < (tg k + n % 4294967296) % 9223372036854775808
  unfold tg; split <;> omega
theorem odd_f (a : Int) (h₀ : 0 ≤ a) (h₁ : a < 18446744073709551616) : odd a = (decide (a / 4503599627370496 % 2048 = 2047) && decide (a * 4096 % 18446744073709551616 ≠ 0)) := by
  rw [Bool.eq_iff_iff, odd_iff]; simp; omega
end Go.Proofs.Ytoleplbmkdhgeaa.Nb
