/- The reference's Take: its laws. -/
import Derived.Test.YtadcpdpcpecooaaG8
namespace Go.Proofs.Ytadcpdpcpecooaa.Re
open Go.RowKit

def hfB (W k : Nat) : Bool := decide (0 < k) && decide (W / 2 ^ (k - 1) % 2 = 1)
def rsB (W k : Nat) : Bool := decide (0 < k) && decide (W % 2 ^ (k - 1) ≠ 0)
theorem half_nat (W k : Nat) : W / 2 ^ (k + 1) = W / 2 ^ k / 2 := by rw [Nat.pow_succ, Nat.div_div_eq_div_mul]
theorem half_hi (V : Nat) : V / 2 / 18446744073709551616 = V / 18446744073709551616 / 2 := by omega
theorem half_lo (V : Nat) : V / 2 % 18446744073709551616 = V % 18446744073709551616 / 2 + V / 18446744073709551616 % 2 * 9223372036854775808 := by omega
theorem hf_next (W k : Nat) : hfB W (k + 1) = decide (W / 2 ^ k % 18446744073709551616 % 2 = 1) := by
  unfold hfB
  rw [show k + 1 - 1 = k by omega]
  have : W / 2 ^ k % 18446744073709551616 % 2 = W / 2 ^ k % 2 := by omega
  rw [this]
  simp
theorem rs_next (W k : Nat) : rsB W (k + 1) = (rsB W k || hfB W k) := by
  unfold rsB hfB
  cases k with
  | zero => simp [Nat.mod_one]
  | succ j =>
    rw [show j + 1 + 1 - 1 = j + 1 by omega, show j + 1 - 1 = j by omega]
    have e : W % 2 ^ (j + 1) = W % 2 ^ j + 2 ^ j * (W / 2 ^ j % 2) := Nat.mod_pow_succ
    have hp := Nat.two_pow_pos j
    rw [e]
    rcases Nat.mod_two_eq_zero_or_one (W / 2 ^ j) with h | h
    · rw [h]; simp
    · rw [h]
      simp
theorem rnd_bits (W k : Nat) (hk : 0 < k) : rnd W k = if hfB W k = true ∧ (rsB W k = true ∨ W / 2 ^ k % 2 = 1) then W / 2 ^ k + 1 else W / 2 ^ k := by
  obtain ⟨j, rfl⟩ : ∃ j, k = j + 1 := ⟨k - 1, by omega⟩
  unfold rnd hfB rsB
  rw [show j + 1 - 1 = j by omega]
  have e : W % 2 ^ (j + 1) = W % 2 ^ j + 2 ^ j * (W / 2 ^ j % 2) := Nat.mod_pow_succ
  have hp := Nat.two_pow_pos j
  have hl := Nat.mod_lt W hp
  rw [e]
  have hb := Nat.mod_two_eq_zero_or_one (W / 2 ^ j)
  generalize W / 2 ^ (j + 1) = q at *
  generalize W / 2 ^ j % 2 = b at *
  generalize W % 2 ^ j = r at *
  generalize 2 ^ j = P at *
  simp only [decide_eq_true_eq, Bool.and_eq_true]
  rcases hb with rfl | rfl
  · rw [if_neg, if_neg] <;> omega
  · by_cases c : r = 0
    · by_cases d : q % 2 = 1
      · rw [if_pos, if_pos] <;> omega
      · rw [if_neg, if_neg] <;> omega
    · rw [if_pos, if_pos] <;> omega
theorem and11 (T : Nat) (h1 : T < 18446744073709551616) : bits .and .u64 (T : Int) 2047 = ((T % 2048 : Nat) : Int) := by
  have := bits_and_u64_nat T 2047 (by omega) (by decide)
  rw [show (2047 : Nat) = 2 ^ 11 - 1 by decide, Nat.and_two_pow_sub_one_eq_mod] at this
  simpa using this
theorem and52 (T : Nat) (h1 : T < 18446744073709551616) : bits .and .u64 (T : Int) 4503599627370495 = ((T % 4503599627370496 : Nat) : Int) := by
  have := bits_and_u64_nat T 4503599627370495 (by omega) (by decide)
  rw [show (4503599627370495 : Nat) = 2 ^ 52 - 1 by decide, Nat.and_two_pow_sub_one_eq_mod] at this
  simpa using this
end Go.Proofs.Ytadcpdpcpecooaa.Re
