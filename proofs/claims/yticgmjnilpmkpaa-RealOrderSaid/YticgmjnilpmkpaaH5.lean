/- A quotient's float, times its divisor, rounds back. -/
import Derived.Test.YticgmjnilpmkpaaH4
namespace Go.Proofs.Yticgmjnilpmkpaa.Re
open Go.RowKit

theorem rnd_close (W n k d : Nat) (hk : 0 < k) (hd : d < 2 ^ (k - 1)) (h1 : W ≤ n * 2 ^ k + d) (h2 : n * 2 ^ k ≤ W + d) : rnd W k = n := by
  have hp : 2 ^ k = 2 * 2 ^ (k - 1) := by
    obtain ⟨j, rfl⟩ : ∃ j, k = j + 1 := ⟨k - 1, by omega⟩
    rw [Nat.pow_succ, Nat.mul_comm]; rfl
  have e1 := Nat.div_add_mod W (2 ^ k)
  have hm := Nat.mod_lt W (Nat.two_pow_pos k)
  have hpos := Nat.two_pow_pos (k - 1)
  unfold rnd
  generalize W / 2 ^ k = q at *
  generalize W % 2 ^ k = r at *
  rw [hp] at h1 h2 e1 hm
  generalize 2 ^ (k - 1) = H at *
  have a1 : q ≤ n := by
    apply Nat.le_of_not_lt
    intro hlt
    have := Nat.mul_le_mul_right (2 * H) (show n + 1 ≤ q from hlt)
    rw [Nat.add_mul, Nat.one_mul, Nat.mul_comm q] at this
    omega
  have a2 : n ≤ q + 1 := by
    apply Nat.le_of_not_lt
    intro hlt
    have := Nat.mul_le_mul_right (2 * H) (show q + 2 ≤ n from hlt)
    rw [Nat.add_mul, Nat.mul_comm q] at this
    omega
  rcases Nat.lt_or_ge q n with c | c
  · obtain rfl : n = q + 1 := by omega
    rw [Nat.add_mul, Nat.one_mul, Nat.mul_comm q] at h1 h2
    rw [if_pos (by omega)]
  · obtain rfl : n = q := by omega
    rw [Nat.mul_comm n] at h1 h2
    rw [if_neg (by omega)]
/-- The exact quotient, to 54 digits and one more, and its float. -/
theorem quot_core (A B : Nat) (hA1 : 4503599627370496 ≤ A) (hA2 : A < 9007199254740992) (hB1 : 4503599627370496 ≤ B) (hB2 : B < 9007199254740992) (i j : Int) (hp1 : -900 ≤ i - j) (hp2 : i - j ≤ 900) :
    ∃ E Q l : Nat, (Ieee.Datum.quotient (52 + 2) (.number false A i) (.number false B j)).map Ieee.double.write = some (E * 4503599627370496 + Q) ∧ E ≤ 2044 ∧ 4503599627370496 ≤ Q ∧ Q ≤ 9007199254740992 ∧
      (l = 2 ∨ l = 3) ∧ (E : Int) = i - j + l + 1019 ∧ Q * 2 ^ l * B ≤ A * 36028797018963968 + 5 * B ∧ A * 36028797018963968 ≤ Q * 2 ^ l * B + 5 * B := by
  have lA := log_53 A hA1 hA2
  have lB := log_53 B hB1 hB2
  have hD := Nat.div_add_mod (A * 18014398509481984) B
  have hR := Nat.mod_lt (A * 18014398509481984) (show B > 0 by omega)
  have hq1 : 9007199254740992 ≤ A * 18014398509481984 / B := by
    rw [Nat.le_div_iff_mul_le (by omega)]
    omega
  have hq2 : A * 18014398509481984 / B < 36028797018963968 := by
    rw [Nat.div_lt_iff_lt_mul (by omega)]
    omega
  obtain ⟨c, hc, hc2, hc3⟩ : ∃ c, (A * 18014398509481984 % B != 0).toNat = c ∧ c ≤ 1 ∧ (c = 0 → A * 18014398509481984 % B = 0) := by
    refine ⟨_, rfl, ?_, ?_⟩
    · cases (A * 18014398509481984 % B != 0) <;> decide
    · intro h
      cases hb : (A * 18014398509481984 % B != 0)
      · simpa using hb
      · rw [hb] at h; cases h
  have hs : A <<< 54 = A * 18014398509481984 := by rw [Nat.shiftLeft_eq]
  unfold Ieee.Datum.quotient
  simp only
  rw [if_neg (show ¬ B = 0 by omega), lA, lB, show 52 + 2 + 52 - 52 = 54 by decide, hs]
  simp only [Option.map_some, Ieee.Format.write]
  rw [hc]
  generalize A * 18014398509481984 / B = q at *
  generalize A * 18014398509481984 % B = r at *
  obtain ⟨l0, hl0, hl2⟩ : ∃ l0, (2 * q + c).log2 = l0 ∧ (l0 = 54 ∨ l0 = 55) := by
    by_cases h : 2 * q + c < 36028797018963968
    · exact ⟨54, by rw [Nat.log2_eq_iff (by omega)]; exact ⟨by omega, by omega⟩, .inl rfl⟩
    · exact ⟨55, by rw [Nat.log2_eq_iff (by omega)]; exact ⟨by omega, by omega⟩, .inr rfl⟩
  obtain ⟨Q, q1, q2, q3, q4, q5⟩ := near_cut (2 * q + c) l0 ((i - j + (l0 : Int) + 967).toNat) (i - j - ((54 : Nat) : Int) - 1) (by omega) hl0 (by omega) (by omega) (by omega)
  have hBA : A * 36028797018963968 = 2 * (B * q) + 2 * r := by omega
  have hcr : c = 0 ∨ c = 1 := by omega
  refine ⟨_, Q, l0 - 52, congrArg some q1, by omega, q2, q3, by omega, by omega, ?_, ?_⟩
  · have h1 := Nat.mul_le_mul_right B q4
    rw [Nat.add_mul, Nat.add_mul, Nat.mul_assoc 2 q B, Nat.mul_comm q B] at h1
    have h4 : 2 ^ (l0 - 53) * B ≤ 4 * B := Nat.mul_le_mul_right _ (by rcases hl2 with rfl | rfl <;> decide)
    have h5 : c * B ≤ B := by rcases hcr with rfl | rfl <;> omega
    omega
  · have h1 := Nat.mul_le_mul_right B q5
    rw [Nat.add_mul, Nat.add_mul, Nat.mul_assoc 2 q B, Nat.mul_comm q B] at h1
    have h4 : 2 ^ (l0 - 53) * B ≤ 4 * B := Nat.mul_le_mul_right _ (by rcases hl2 with rfl | rfl <;> decide)
    have h5 : 2 * r ≤ c * B + B := by
      rcases hcr with rfl | rfl
      · have := hc3 rfl
        omega
      · omega
    omega
theorem exps (l : Nat) (hl2 : l < 44) : ∃ K, K = 1074 ∧ 52 - l + (55 + (l + 967)) = K ∧ 56 + (l + 967) ≤ K - 1 ∧ 0 < K := ⟨_, rfl, by omega, by omega, by decide⟩
theorem back_gen (m S t C : Nat) (hC : Ieee.double.read C = .number false (S * 2 ^ t) (-(t : Int))) (hB1 : 4503599627370496 ≤ S * 2 ^ t) (hB2 : S * 2 ^ t < 9007199254740992) (ht : t ≤ 52) (hS : 0 < S) (h0 : 0 < m) (hm : m ≤ 10000000000000) :
    goodR (dv m C) = true ∧ dv m C < 18446744073709551616 ∧ tkN (dv m C) S = ((m : Int), 0) := by
  obtain ⟨l, hl⟩ : ∃ l, m.log2 = l := ⟨_, rfl⟩
  have hl2 : l < 44 := by rw [← hl, Nat.log2_lt (by omega)]; omega
  obtain ⟨r1, r2, r3⟩ := of_nat_read m l h0 hl (by omega)
  obtain ⟨E, Q, d, q1, q2, q3, q4, q5, q6, q7, q8⟩ := quot_core (m * 2 ^ (52 - l)) (S * 2 ^ t) r2 r3 hB1 hB2 ((l : Int) - 52) (-(t : Int)) (by omega) (by omega)
  have hdv : dv m C = E * 4503599627370496 + Q := by
    have : floatBits .quo .f64 (floatOfInt .f64 (m : Int)) C = some (E * 4503599627370496 + Q) := by
      unfold floatBits
      simp only
      unfold Ieee.Format.div
      rw [fmt, r1, hC, fb]
      exact q1
    unfold dv
    rw [this]
    rfl
  obtain ⟨v1, v2⟩ := vl_word E Q q2 q3 q4
  rw [hdv]
  refine ⟨v2, by omega, ?_⟩
  obtain ⟨K, hK, f1, f2, f3⟩ : ∃ K, K = 1074 ∧ 52 - l + (55 + (l + 967)) = K ∧ 56 + (l + 967) ≤ K - 1 ∧ 0 < K := exps l hl2
  rw [tk_vl _ S K hK hS, v1]
  clear hK
  obtain ⟨U, hU⟩ : ∃ U, 2 ^ (l + 967) = U := ⟨_, rfl⟩
  have e1 : Q * 2 ^ E * S = Q * 2 ^ d * (S * 2 ^ t) * U := by
    have hE : 2 ^ E = 2 ^ d * 2 ^ t * U := by rw [← hU, ← Nat.pow_add, ← Nat.pow_add, show E = d + t + (l + 967) by omega]
    rw [hE]
    simp only [Nat.mul_assoc, Nat.mul_comm, Nat.mul_left_comm]
  have e2 : m * 2 ^ K = m * 2 ^ (52 - l) * 36028797018963968 * U := by
    have : (36028797018963968 : Nat) = 2 ^ 55 := by decide
    rw [this, ← hU, Nat.mul_assoc, Nat.mul_assoc, ← Nat.pow_add, ← Nat.pow_add, f1]
  have e3 : 5 * (S * 2 ^ t) * U < 2 ^ (K - 1) := by
    have a1 : (72057594037927936 : Nat) = 2 ^ 56 := by decide
    have a2 : 2 ^ 56 * U ≤ 2 ^ (K - 1) := by
      rw [← hU, ← Nat.pow_add]
      exact Nat.pow_le_pow_right (by decide) f2
    have a3 : 0 < U := by rw [← hU]; exact Nat.two_pow_pos _
    rw [← a1] at a2
    generalize 2 ^ (K - 1) = X at a2 ⊢
    generalize S * 2 ^ t = B at hB2 ⊢
    have a4 : 5 * B < 72057594037927936 := by omega
    exact Nat.lt_of_lt_of_le (Nat.mul_lt_mul_of_pos_right a4 a3) a2
  have hr : rnd (Q * 2 ^ E * S) K = m := by
    refine rnd_close _ m K _ f3 e3 ?_ ?_
    · rw [e1, e2, ← Nat.add_mul]
      exact Nat.mul_le_mul_right U q7
    · rw [e1, e2, ← Nat.add_mul]
      exact Nat.mul_le_mul_right U q8
  unfold tv
  rw [hr, if_neg (by omega)]
theorem back100 (m : Nat) (hm : m ≤ 10000000000000) : dolN m < 18446744073709551616 ∧ tk (dolN m) 100 = ((m : Int), 0) := by
  have hg : mg m = true := by unfold mg; simp; omega
  have hd : dolN m = dv m 4636737291354636288 := by unfold dolN; rw [if_pos hg]
  rw [hd]
  rcases Nat.eq_zero_or_pos m with rfl | h0
  · have : dv ((0 : Nat) : Int) 4636737291354636288 = 0 := by kernel_rfl
    rw [this]
    exact ⟨by decide, by kernel_rfl⟩
  · obtain ⟨h1, h2, h3⟩ := back_gen m 100 46 4636737291354636288 (by decide) (by decide) (by decide) (by decide) (by decide) h0 hm
    refine ⟨h2, ?_⟩
    unfold tk
    rw [h1, if_neg (by decide), if_neg (by decide)]
    exact h3
theorem back10000 (m : Nat) (hm : m ≤ 1000000) : pctN m < 18446744073709551616 ∧ pm (pctN m) = ((m : Int), 0) := by
  have hd : pctN m = dv m 4666723172467343360 := by unfold pctN; rw [if_neg (by omega), if_neg (by omega)]
  rw [hd]
  have key : dv m 4666723172467343360 < 18446744073709551616 ∧ tk (dv m 4666723172467343360) 10000 = ((m : Int), 0) := by
    rcases Nat.eq_zero_or_pos m with rfl | h0
    · have : dv ((0 : Nat) : Int) 4666723172467343360 = 0 := by kernel_rfl
      rw [this]
      exact ⟨by decide, by kernel_rfl⟩
    · obtain ⟨h1, h2, h3⟩ := back_gen m 10000 39 4666723172467343360 (by decide) (by decide) (by decide) (by decide) (by decide) h0 (by omega)
      refine ⟨h2, ?_⟩
      unfold tk
      rw [h1, if_neg (by decide), if_neg (by decide)]
      exact h3
  refine ⟨key.1, ?_⟩
  unfold pm
  rw [key.2, if_neg (by show ¬ (0 : Int) ≠ 0; decide), if_neg (by omega)]
end Go.Proofs.Yticgmjnilpmkpaa.Re
