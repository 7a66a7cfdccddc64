/- Normal positive words: none of the special ones. -/
import Derived.Test.YtadcpdpcpecooaaG3
import Derived.Laws.BitsAllLaws
namespace Go.Proofs.Ytadcpdpcpecooaa.Re
open Go.RowKit

theorem abs_pos (x : Nat) (h : x < 9223372036854775808) : absN x = x := by
  unfold absN
  rw [show (9223372036854775808 : Int) = ((9223372036854775808 : Nat) : Int) by rfl, u64_andNot_nat x _ (by omega) (by decide)]
  rw [show 18446744073709551615 - 9223372036854775808 = 2 ^ 63 - 1 by decide, Nat.and_two_pow_sub_one_eq_mod]
  rw [Nat.mod_eq_of_lt (by omega)]
  rfl
theorem order_num (x y m n : Nat) (i j : Int) (hx : Ieee.double.read x = .number false m i) (hy : Ieee.double.read y = .number false n j) :
    Ieee.double.order x y = some (compare ((m <<< (i - min i j).toNat : Nat) : Int) ((n <<< (j - min i j).toNat : Nat) : Int)) := by
  unfold Ieee.Format.order
  rw [hx, hy]
  rfl

theorem zero_read : Ieee.double.read 0 = .number false 0 (-1074) := by decide
theorem cmp_self (a : Int) : compare a a = Ordering.eq := by simp [compare, compareOfLessAndEq]
theorem cmp_gt {a b : Int} (h : b < a) : compare a b = Ordering.gt := by
  simp only [compare, compareOfLessAndEq]
  rw [if_neg (by omega), if_neg (by omega)]
theorem cmp_le {a b : Int} (h : a ≤ b) : (compare a b == Ordering.gt) = false := by
  simp only [compare, compareOfLessAndEq]
  split
  · rfl
  · rw [if_pos (by omega)]; rfl
theorem cmp_ge {a b : Int} (h : b ≤ a) : (compare a b == Ordering.lt) = false := by
  simp only [compare, compareOfLessAndEq]
  rw [if_neg (by omega)]
  split <;> rfl
theorem sh_pos (m k : Nat) (h : 0 < m) : 0 < m <<< k := by
  rw [Nat.shiftLeft_eq]; exact Nat.mul_pos h (Nat.two_pow_pos _)
theorem sh_ge (m k : Nat) : m ≤ m <<< k := by
  rw [Nat.shiftLeft_eq]; exact Nat.le_mul_of_pos_right _ (Nat.two_pow_pos _)
theorem some_beq (a b : Ordering) : (some a == some b) = (a == b) := by cases a <;> cases b <;> rfl
/-- A positive number: neither nothing, nor below it, nor no number. -/
theorem pos_word (x m : Nat) (i : Int) (hx : Ieee.double.read x = .number false m i) (hm : 0 < m) : isZ x = false ∧ negB x = false ∧ nanB x = false := by
  have h0 := order_num x 0 m 0 i (-1074) hx zero_read
  have h1 := order_num x x m m i i hx hx
  have hc := cmp_gt (a := ((m <<< (i - min i (-1074)).toNat : Nat) : Int)) (b := ((0 <<< (-1074 - min i (-1074)).toNat : Nat) : Int)) (by
    have := sh_pos m (i - min i (-1074)).toNat hm
    rw [Nat.zero_shiftLeft]; omega)
  rw [hc] at h0
  rw [cmp_self] at h1
  refine ⟨?_, ?_, ?_⟩
  · unfold isZ; rw [fmt, h0]; rfl
  · unfold negB; rw [fmt, h0]; rfl
  · unfold nanB; rw [fmt, h1]; rfl
theorem max_read : Ieee.double.read 9218868437227405311 = .number false 9007199254740991 971 := by
  have := read_nrm 2046 4503599627370495 (by decide) (by decide) (by decide)
  simpa using this
/-- .. nor endless. -/
theorem fin_word (x m : Nat) (i : Int) (hx : Ieee.double.read x = .number false m i) (hb : x < 9223372036854775808) (hm : m ≤ 9007199254740991) (hi : i ≤ 971) : infB x = false := by
  have h0 := order_num x 9218868437227405311 m 9007199254740991 i 971 hx max_read
  unfold infB
  rw [abs_pos x hb, fmt, h0, some_beq]
  apply cmp_le
  rw [show min i 971 = i by omega, show (i - i).toNat = 0 by omega, Nat.shiftLeft_zero]
  have := sh_ge 9007199254740991 (971 - i).toNat
  omega
theorem small_word (x m : Nat) (i : Int) (hx : Ieee.double.read x = .number false m i) (hb : x < 9223372036854775808) (hm : 4503599627370496 ≤ m) (hi : -1074 ≤ i) : smallB x = false := by
  have hr : Ieee.double.read 4503599627370496 = .number false 4503599627370496 (-1074) := by
    have := read_nrm 1 0 (by decide) (by decide) (by decide)
    simpa using this
  have h0 := order_num x 4503599627370496 m 4503599627370496 i (-1074) hx hr
  unfold smallB
  rw [abs_pos x hb, fmt, h0, some_beq]
  apply cmp_ge
  rw [show min i (-1074) = -1074 by omega, show ((-1074 : Int) - -1074).toNat = 0 by omega, Nat.shiftLeft_zero]
  have := sh_ge m (i - -1074).toNat
  omega
theorem nrm_word (e f : Nat) (h1 : 1 ≤ e) (h2 : e ≤ 2046) (hf : f < 4503599627370496) : Nrm (e * 4503599627370496 + f) ∧ goodR (e * 4503599627370496 + f) = true := by
  have hr := read_nrm e f h1 h2 hf
  obtain ⟨a, b, c⟩ := pos_word _ _ _ hr (by omega)
  have d := fin_word _ _ _ hr (by omega) (by omega) (by omega)
  refine ⟨⟨a, d, c, small_word _ _ _ hr (by omega) (by omega) (by omega)⟩, ?_⟩
  unfold goodR
  rw [b, c, d]
  rfl
/-- The bits of a normal word. -/
theorem and_low (e f : Nat) (h2 : e ≤ 2047) (hf : f < 4503599627370496) : bits .andNot .u64 ((e * 4503599627370496 + f : Nat) : Int) 9218868437227405312 = (f : Int) := by
  rw [show (9218868437227405312 : Int) = ((9218868437227405312 : Nat) : Int) by rfl, u64_andNot_nat _ _ (by omega) (by decide)]
  rw [show 18446744073709551615 - 9218868437227405312 = 2 ^ 63 + (2 ^ 52 - 1) by decide]
  have hor : (2 : Nat) ^ 63 + (2 ^ 52 - 1) = 2 ^ 63 ||| (2 ^ 52 - 1) := (nat_join 63 _ _ (by decide) (by decide)).symm
  rw [hor, Nat.and_or_distrib_left, nat_bit 63, Nat.and_two_pow_sub_one_eq_mod]
  have d1 : (e * 4503599627370496 + f) / 2 ^ 63 % 2 * 2 ^ 63 = 0 := by omega
  have d2 : (e * 4503599627370496 + f) % 2 ^ 52 = f := by omega
  rw [d1, d2, Nat.zero_or]
theorem or_exp (c f : Nat) (hc : c ≤ 2047) (hf : f < 4503599627370496) : bits .or .u64 (f : Int) ((c * 4503599627370496 : Nat) : Int) = ((c * 4503599627370496 + f : Nat) : Int) := by
  rw [u64_or_nat _ _ (by omega) (by omega), Nat.or_comm, nat_join 52 _ _ (by omega) (by omega)]
theorem frA_word (e f : Nat) (h2 : e ≤ 2047) (hf : f < 4503599627370496) : frA (e * 4503599627370496 + f) = 1022 * 4503599627370496 + f := by
  unfold frA
  rw [and_low e f h2 hf, show (4602678819172646912 : Int) = ((1022 * 4503599627370496 : Nat) : Int) by rfl, or_exp _ _ (by decide) hf]
  rfl
theorem ldY_word (e f : Nat) (h2 : e ≤ 2047) (hf : f < 4503599627370496) : ldY (e * 4503599627370496 + f) = 1075 * 4503599627370496 + f := by
  unfold ldY
  rw [and_low e f h2 hf, show (4841369599423283200 : Int) = ((1075 * 4503599627370496 : Nat) : Int) by rfl, or_exp _ _ (by decide) hf]
  rfl
theorem exp_word (e f : Nat) (h2 : e ≤ 2047) (hf : f < 4503599627370496) : bits .and .u64 (((e * 4503599627370496 + f : Nat) : Int) / 4503599627370496) 2047 = (e : Int) := by
  have h1 : ((e * 4503599627370496 + f : Nat) : Int) / 4503599627370496 = (e : Int) := by omega
  rw [h1]
  have := u64_and_nat e 2047 (by omega) (by decide)
  rw [show (2047 : Nat) = 2 ^ 11 - 1 by decide, Nat.and_two_pow_sub_one_eq_mod] at this
  rw [show (2047 : Int) = ((2 ^ 11 - 1 : Nat) : Int) by rfl, this]
  omega
theorem frE_word (e f : Nat) (h2 : e ≤ 2047) (hf : f < 4503599627370496) : frE (e * 4503599627370496 + f) = (e : Int) - 1022 := by
  unfold frE
  rw [exp_word e f h2 hf]
  rw [wr64 (e : Int) (by omega), wr64 ((e : Int) - 1023) (by omega), wr64 ((e : Int) - 1023 + 1) (by omega), wr64 ((e : Int) - 1023 + 1) (by omega)]
  omega
end Go.Proofs.Ytadcpdpcpecooaa.Re
