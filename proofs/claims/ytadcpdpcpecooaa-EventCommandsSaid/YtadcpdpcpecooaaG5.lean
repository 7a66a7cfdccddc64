/- Which words are good. -/
import Derived.Test.YtadcpdpcpecooaaG4
namespace Go.Proofs.Ytadcpdpcpecooaa.Re
open Go.RowKit

theorem read_low (x : Nat) (h : x < 4503599627370496) : Ieee.double.read x = .number false x (-1074) := by
  unfold Ieee.Format.read
  rw [sw, bn, ir, lp]
  have d1 : x / 9223372036854775808 = 0 := by omega
  have d2 : x % 9223372036854775808 = x := by omega
  rw [d1, d2]
  simp only
  rw [if_pos h]
  rfl
theorem read_neg (y : Nat) (h0 : 0 < y) (h : y < 9218868437227405312) : ∃ m i, 0 < m ∧ Ieee.double.read (9223372036854775808 + y) = .number true m i := by
  unfold Ieee.Format.read
  rw [sw, bn, ir, lp]
  have d1 : (9223372036854775808 + y) / 9223372036854775808 = 1 := by omega
  have d2 : (9223372036854775808 + y) % 9223372036854775808 = y := by omega
  rw [d1, d2]
  simp only
  by_cases hb : y < 4503599627370496
  · rw [if_pos hb]
    exact ⟨y, _, h0, rfl⟩
  · rw [if_neg hb, if_pos h]
    exact ⟨_, _, by omega, rfl⟩
theorem read_nan (b y : Nat) (_hb : b < 2) (h : 9218868437227405312 < y) (hy : y < 9223372036854775808) : ∃ s f, Ieee.double.read (b * 9223372036854775808 + y) = .nan s f := by
  unfold Ieee.Format.read
  rw [sw, bn, ir, lp]
  have d2 : (b * 9223372036854775808 + y) % 9223372036854775808 = y := by omega
  rw [d2]
  simp only
  rw [if_neg (by omega), if_neg (by omega), if_neg (by omega)]
  exact ⟨_, _, rfl⟩
theorem bad_nan (x : Nat) (h : ∃ s f, Ieee.double.read x = .nan s f) : goodR x = false := by
  obtain ⟨s, f, h⟩ := h
  have : nanB x = true := by
    unfold nanB Ieee.Format.order
    rw [fmt, h]
    rfl
  unfold goodR
  rw [this]
  rfl
theorem bad_neg (x : Nat) (h : ∃ m i, 0 < m ∧ Ieee.double.read x = .number true m i) : goodR x = false := by
  obtain ⟨m, i, hm, h⟩ := h
  have : negB x = true := by
    unfold negB Ieee.Format.order
    rw [fmt, h, zero_read]
    simp only [Ieee.Datum.order]
    have : compare (Ieee.signed true m (i - min i (-1074)).toNat) (Ieee.signed false 0 (-1074 - min i (-1074)).toNat) = Ordering.lt := by
      have := sh_pos m (i - min i (-1074)).toNat hm
      unfold Ieee.signed
      rw [if_pos rfl, if_neg (by decide), Nat.zero_shiftLeft]
      simp only [compare, compareOfLessAndEq]
      rw [if_pos (by omega)]
    rw [this]
    rfl
  unfold goodR
  rw [this]
  simp
/-- The good words. -/
theorem good_cases (x : Nat) (hx : x < 18446744073709551616) (h : goodR x = true) : x = 9223372036854775808 ∨ ∃ e f, e ≤ 2046 ∧ f < 4503599627370496 ∧ x = e * 4503599627370496 + f := by
  by_cases h1 : x < 9218868437227405312
  · exact .inr ⟨x / 4503599627370496, x % 4503599627370496, by omega, by omega, by omega⟩
  by_cases h2 : x = 9218868437227405312
  · subst h2
    exact absurd h (by have : goodR 9218868437227405312 = false := by kernel_rfl
                       rw [this]; decide)
  by_cases h3 : x < 9223372036854775808
  · have := bad_nan x (by have := read_nan 0 x (by decide) (by omega) h3; simpa using this)
    rw [this] at h; cases h
  by_cases h4 : x = 9223372036854775808
  · exact .inl h4
  obtain ⟨y, rfl⟩ : ∃ y, x = 9223372036854775808 + y := ⟨x - 9223372036854775808, by omega⟩
  by_cases h5 : y < 9218868437227405312
  · have := bad_neg _ (read_neg y (by omega) h5)
    rw [this] at h; cases h
  by_cases h6 : y = 9218868437227405312
  · subst h6
    exact absurd h (by have : goodR (9223372036854775808 + 9218868437227405312) = false := by kernel_rfl
                       rw [this]; decide)
  · have := bad_nan (9223372036854775808 + y) (by have := read_nan 1 y (by decide) (by omega) (by omega); simpa using this)
    rw [this] at h; cases h
theorem good_low (f : Nat) (h0 : 0 < f) (hf : f < 4503599627370496) : goodR f = true ∧ isZ f = false ∧ infB f = false ∧ nanB f = false ∧ smallB f = true := by
  have hr := read_low f hf
  obtain ⟨a, b, c⟩ := pos_word _ _ _ hr h0
  have d := fin_word _ _ _ hr (by omega) (by omega) (by omega)
  refine ⟨by unfold goodR; rw [b, c, d]; rfl, a, d, c, ?_⟩
  have hr2 : Ieee.double.read 4503599627370496 = .number false 4503599627370496 (-1074) := by
    have := read_nrm 1 0 (by decide) (by decide) (by decide)
    simpa using this
  have h0 := order_num f 4503599627370496 f 4503599627370496 (-1074) (-1074) hr hr2
  unfold smallB
  rw [abs_pos f (by omega), fmt, h0, some_beq, show ((-1074 : Int) - min (-1074) (-1074)).toNat = 0 by decide, Nat.shiftLeft_zero]
  simp only [compare, compareOfLessAndEq]
  rw [if_pos (by omega)]
  rfl
theorem good_nil : goodR 0 = true ∧ isZ 0 = true := ⟨by kernel_rfl, by kernel_rfl⟩
theorem good_nil2 : goodR 9223372036854775808 = true ∧ isZ 9223372036854775808 = true := ⟨by kernel_rfl, by kernel_rfl⟩
theorem word_plus (r : Nat) : Ieee.double.word (false ^^ false) r = r := rfl
theorem cut_low (f l : Nat) (hl : l < 52) (hlg : (f * 4503599627370496).log2 = l + 52) : Ieee.Toward.even.cut (false ^^ false) (f * 4503599627370496) l = f * 2 ^ (52 - l) := by
  have hp1 : 2 ^ l * 2 ^ (52 - l) = 4503599627370496 := by rw [← Nat.pow_add, show l + (52 - l) = 52 by omega]
  have e1 : f * 4503599627370496 = f * 2 ^ (52 - l) * 2 ^ l := by
    rw [Nat.mul_assoc, Nat.mul_comm (2 ^ (52 - l)), hp1]
  generalize f * 4503599627370496 = N at *
  unfold Ieee.Toward.cut
  rw [hlg, show min l (l + 52 + 2) = l by omega, Nat.one_shiftLeft]
  have q1 : N / 2 ^ l = f * 2 ^ (52 - l) := by rw [e1]; exact Nat.mul_div_cancel _ (Nat.two_pow_pos l)
  have q2 : N % 2 ^ l = 0 := by rw [e1]; exact Nat.mul_mod_left _ _
  have q3 : 2 ^ l ≠ 0 := Nat.ne_of_gt (Nat.two_pow_pos l)
  simp only [q1, q2]
  simp
/-- A word below the normal ones, times 2 to the 52. -/
theorem mul_low (f : Nat) (h0 : 0 < f) (hf : f < 4503599627370496) : ∃ e g, 1 ≤ e ∧ e ≤ 52 ∧ g < 4503599627370496 ∧ floatBits .mul .f64 f 4841369599423283200 = some (e * 4503599627370496 + g) := by
  have hl : f.log2 < 52 := by
    rw [Nat.log2_lt (by omega)]; omega
  obtain ⟨l, hl'⟩ : ∃ l, f.log2 = l := ⟨_, rfl⟩
  have hlo : 2 ^ l ≤ f := by rw [← hl']; exact Nat.log2_self_le (by omega)
  have hhi : f < 2 ^ (l + 1) := by rw [← hl']; exact Nat.lt_log2_self
  rw [hl'] at hl
  have hp1 : 2 ^ l * 2 ^ (52 - l) = 4503599627370496 := by rw [← Nat.pow_add, show l + (52 - l) = 52 by omega]
  have hp2 : 2 ^ (l + 1) * 2 ^ (52 - l) = 9007199254740992 := by rw [← Nat.pow_add, show l + 1 + (52 - l) = 53 by omega]
  have hq1 : 4503599627370496 ≤ f * 2 ^ (52 - l) := by rw [← hp1]; exact Nat.mul_le_mul_right _ hlo
  have hq2 : f * 2 ^ (52 - l) < 9007199254740992 := by rw [← hp2]; exact Nat.mul_lt_mul_of_pos_right hhi (Nat.two_pow_pos _)
  refine ⟨l + 1, f * 2 ^ (52 - l) - 4503599627370496, by omega, by omega, by omega, ?_⟩
  unfold floatBits
  simp only
  unfold Ieee.Format.mul
  have hr2 : Ieee.double.read 4841369599423283200 = .number false 4503599627370496 0 := by kernel_rfl
  rw [fmt, read_low f hf, hr2]
  simp only [Ieee.Datum.product, Option.map_some, Option.some.injEq, Ieee.Format.write]
  unfold Ieee.Format.nearest
  rw [if_neg (by omega)]
  have hlg : (f * 4503599627370496).log2 = l + 52 := by
    rw [Nat.log2_eq_iff (by omega)]
    have e1 : (2 : Nat) ^ (l + 52) = 2 ^ l * 4503599627370496 := by rw [Nat.pow_add]
    have e2 : (2 : Nat) ^ (l + 52 + 1) = 2 ^ (l + 1) * 4503599627370496 := by rw [show l + 52 + 1 = l + 1 + 52 by omega, Nat.pow_add]
    rw [e1, e2]
    exact ⟨Nat.mul_le_mul_right _ hlo, Nat.mul_lt_mul_of_pos_right hhi (by decide)⟩
  rw [hlg, lp, bn, ir]
  have hfb : Ieee.double.fractionBits = 52 := rfl
  rw [hfb]
  have hpl : (-1074 : Int) + 0 = -1074 := by decide
  rw [hpl]
  have hmx : max ((-1074 : Int) + ((l + 52 : Nat) : Int) - ((52 : Nat) : Int)) (-1074) = -1074 + (l : Int) := by omega
  rw [hmx]
  show Ieee.double.word (false ^^ false) (min (((-1074 + (l : Int)) - -1074).toNat * 4503599627370496 + Ieee.Toward.even.cut (false ^^ false) ((f * 4503599627370496) <<< ((-1074 : Int) - (-1074 + (l : Int))).toNat) ((-1074 + (l : Int)) - -1074).toNat) 9218868437227405312) = _
  rw [show ((-1074 : Int) - (-1074 + (l : Int))).toNat = 0 by omega, show ((-1074 + (l : Int)) - -1074).toNat = l by omega, Nat.shiftLeft_zero]
  rw [cut_low f l hl hlg, word_plus]
  clear hfb hpl hmx hr2
  generalize f * 2 ^ (52 - l) = q at *
  have : l * 4503599627370496 ≤ 51 * 4503599627370496 := Nat.mul_le_mul_right _ (by omega)
  rw [Nat.add_mul]
  omega
end Go.Proofs.Ytadcpdpcpecooaa.Re
