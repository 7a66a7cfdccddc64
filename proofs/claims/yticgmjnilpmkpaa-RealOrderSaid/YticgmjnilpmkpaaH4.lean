/- The float of a whole number; and a half; a quotient's float, rounded back. -/
import Derived.Test.YticgmjnilpmkpaaH3
namespace Go.Proofs.Yticgmjnilpmkpaa.Re
open Go.RowKit

theorem read_word2 (E Q : Nat) (hE : E ≤ 2044) (h1 : 4503599627370496 ≤ Q) (h2 : Q < 9007199254740992) : Ieee.double.read (E * 4503599627370496 + Q) = .number false Q (-1074 + (E : Int)) := by
  have := read_nrm (E + 1) (Q - 4503599627370496) (by omega) (by omega) (by omega)
  rw [show (E + 1) * 4503599627370496 + (Q - 4503599627370496) = E * 4503599627370496 + Q by omega] at this
  rw [this, show 4503599627370496 + (Q - 4503599627370496) = Q by omega]
  rfl
theorem of_nat_read (n l : Nat) (h0 : 0 < n) (hl : n.log2 = l) (hl2 : l ≤ 52) : Ieee.double.read (floatOfInt .f64 (n : Int)) = .number false (n * 2 ^ (52 - l)) ((l : Int) - 52) ∧ 4503599627370496 ≤ n * 2 ^ (52 - l) ∧ n * 2 ^ (52 - l) < 9007199254740992 := by
  obtain ⟨h1, h2, h3⟩ := near_fit n l (l + 1022) 0 h0 hl hl2 (by omega) (by omega)
  refine ⟨?_, h2, h3⟩
  have e : floatOfInt .f64 (n : Int) = Ieee.double.nearest (decide ((n : Int) < 0)) ((n : Int)).natAbs 0 := rfl
  rw [e, show decide ((n : Int) < 0) = false by rw [decide_eq_false_iff_not]; omega, Int.natAbs_natCast, h1, read_word2 _ _ (by omega) h2 h3, show (-1074 : Int) + ((l + 1022 : Nat) : Int) = (l : Int) - 52 by omega]
/-- k and a half. -/
theorem half_word (n : Nat) (hn : n < 65536) : ∃ E Q, floatBits .add .f64 (floatOfInt .f64 (n : Int)) 4602678819172646912 = some (E * 4503599627370496 + Q) ∧ 4503599627370496 ≤ Q ∧ Q < 9007199254740992 ∧ E ≤ 1040 ∧
    ∀ K, K = 1073 → Q * 2 ^ E = (2 * n + 1) * 2 ^ K := by
  have hmain : ∃ L E, floatBits .add .f64 (floatOfInt .f64 (n : Int)) 4602678819172646912 = some (E * 4503599627370496 + (2 * n + 1) * 2 ^ (52 - L)) ∧ (2 * n + 1).log2 = L ∧ L ≤ 17 ∧ E = L + 1021 := by
    rcases Nat.eq_zero_or_pos n with rfl | h0
    · exact ⟨0, 1021, by kernel_rfl, by decide, by decide, by decide⟩
    · obtain ⟨l, hl⟩ : ∃ l, n.log2 = l := ⟨_, rfl⟩
      have hl2 : l < 16 := by rw [← hl, Nat.log2_lt (by omega)]; exact hn
      have hlo : 2 ^ l ≤ n := by rw [← hl]; exact Nat.log2_self_le (by omega)
      have hhi : n < 2 ^ (l + 1) := by rw [← hl]; exact Nat.lt_log2_self
      obtain ⟨h1, h2, h3⟩ := of_nat_read n l h0 hl (by omega)
      have hL : (2 * n + 1).log2 = l + 1 := by
        rw [Nat.log2_eq_iff (by omega), Nat.pow_succ, Nat.pow_succ]
        rw [Nat.pow_succ] at hhi
        omega
      refine ⟨l + 1, l + 1022, ?_, hL, by omega, by omega⟩
      unfold floatBits
      simp only
      unfold Ieee.Format.add
      have hr2 : Ieee.double.read 4602678819172646912 = .number false 4503599627370496 (-53) := by kernel_rfl
      rw [fmt, h1, hr2]
      simp only [Ieee.Datum.sum, Option.map_some, Option.some.injEq, Ieee.Format.write]
      have g1 : min ((l : Int) - 52) (-53) = -53 := by omega
      have g2 : ((l : Int) - 52 - -53).toNat = l + 1 := by omega
      have g3 : ((-53 : Int) - -53).toNat = 0 := by omega
      have hp : 2 ^ (52 - l) * 2 ^ (l + 1) = 9007199254740992 := by rw [← Nat.pow_add, show 52 - l + (l + 1) = 53 by omega]
      have hs : (n * 2 ^ (52 - l)) <<< (l + 1) = n * 9007199254740992 := by rw [Nat.shiftLeft_eq, Nat.mul_assoc, hp]
      have ht : Ieee.signed false (n * 2 ^ (52 - l)) (l + 1) + Ieee.signed false 4503599627370496 0 = (((2 * n + 1) * 4503599627370496 : Nat) : Int) := by
        show (((n * 2 ^ (52 - l)) <<< (l + 1) : Nat) : Int) + ((4503599627370496 : Nat) : Int) = _
        rw [hs]
        omega
      simp only [g1, g2, g3, ht]
      rw [if_neg (by omega), Int.natAbs_natCast, show decide ((((2 * n + 1) * 4503599627370496 : Nat) : Int) < 0) = false by rw [decide_eq_false_iff_not]; omega]
      have hlg : ((2 * n + 1) * 4503599627370496).log2 = l + 53 := by
        rw [Nat.log2_eq_iff (by omega)] at hL ⊢
        have e1 : (2 : Nat) ^ (l + 53) = 2 ^ (l + 1) * 4503599627370496 := by rw [show l + 53 = l + 1 + 52 by omega, Nat.pow_add]
        have e2 : (2 : Nat) ^ (l + 53 + 1) = 2 ^ (l + 1 + 1) * 4503599627370496 := by rw [show l + 53 + 1 = l + 1 + 1 + 52 by omega, Nat.pow_add]
        rw [e1, e2]
        exact ⟨Nat.mul_le_mul_right _ hL.1, Nat.mul_lt_mul_of_pos_right hL.2 (by decide)⟩
      obtain ⟨Q, q1, q2, q3, q4, q5⟩ := near_cut _ (l + 53) (l + 1022) (-53) (by omega) hlg (by omega) (by omega) (by omega)
      rw [q1]
      congr 1
      rw [show l + 53 - 52 = l + 1 by omega, show l + 53 - 53 = l by omega] at q4 q5
      have hp2 : 2 ^ (52 - (l + 1)) * 2 ^ (l + 1) = 4503599627370496 := by rw [← Nat.pow_add, show 52 - (l + 1) + (l + 1) = 52 by omega]
      have hM : (2 * n + 1) * 4503599627370496 = (2 * n + 1) * 2 ^ (52 - (l + 1)) * 2 ^ (l + 1) := by rw [Nat.mul_assoc, hp2]
      rw [hM] at q4 q5
      generalize (2 * n + 1) * 2 ^ (52 - (l + 1)) = R at *
      have hpl : 2 ^ (l + 1) = 2 * 2 ^ l := by rw [Nat.pow_succ, Nat.mul_comm]
      have hpos := Nat.two_pow_pos l
      rw [hpl] at q4 q5
      have key : ∀ a b P : Nat, 0 < P → a * (2 * P) ≤ b * (2 * P) + P → a ≤ b := by
        intro a b P hP h
        apply Nat.le_of_not_lt
        intro hlt
        have := Nat.mul_le_mul_right (2 * P) (show b + 1 ≤ a from hlt)
        rw [Nat.add_mul, Nat.one_mul] at this
        omega
      exact Nat.le_antisymm (key _ _ _ hpos q4) (key _ _ _ hpos q5)
  obtain ⟨L, E, h1, h2, h3, rfl⟩ := hmain
  have hlo : 2 ^ L ≤ 2 * n + 1 := by rw [← h2]; exact Nat.log2_self_le (by omega)
  have hhi : 2 * n + 1 < 2 ^ (L + 1) := by rw [← h2]; exact Nat.lt_log2_self
  have hp1 : 2 ^ L * 2 ^ (52 - L) = 4503599627370496 := by rw [← Nat.pow_add, show L + (52 - L) = 52 by omega]
  have hp2 : 2 ^ (L + 1) * 2 ^ (52 - L) = 9007199254740992 := by rw [← Nat.pow_add, show L + 1 + (52 - L) = 53 by omega]
  refine ⟨L + 1021, (2 * n + 1) * 2 ^ (52 - L), h1, ?_, ?_, by omega, ?_⟩
  · rw [← hp1]; exact Nat.mul_le_mul_right _ hlo
  · rw [← hp2]; exact Nat.mul_lt_mul_of_pos_right hhi (Nat.two_pow_pos _)
  · intro K hK
    rw [Nat.mul_assoc, ← Nat.pow_add]
    congr 2
    omega
end Go.Proofs.Yticgmjnilpmkpaa.Re
