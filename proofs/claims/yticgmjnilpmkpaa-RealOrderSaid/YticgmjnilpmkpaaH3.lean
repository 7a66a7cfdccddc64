/- The nearest word of a number: where it fits, and how far it is where it does not. -/
import Derived.Test.YticgmjnilpmkpaaH2
namespace Go.Proofs.Yticgmjnilpmkpaa.Re
open Go.RowKit

theorem word_p (r : Nat) : Ieee.double.word false r = r := rfl
theorem fb : Ieee.double.fractionBits = 52 := rfl
theorem cut_nil (b : Bool) (X : Nat) : Ieee.Toward.even.cut b X 0 = X := by
  unfold Ieee.Toward.cut
  rw [show min 0 (X.log2 + 2) = 0 by omega]
  have h1 : (1 : Nat) <<< 0 = 1 := rfl
  simp only [h1, Nat.div_one, Nat.mod_one]
  simp
theorem cut_near (b : Bool) (X d : Nat) (hd : 0 < d) (hx : d ≤ X.log2) : X / 2 ^ d ≤ Ieee.Toward.even.cut b X d ∧ Ieee.Toward.even.cut b X d ≤ X / 2 ^ d + 1 ∧
    Ieee.Toward.even.cut b X d * 2 ^ d ≤ X + 2 ^ (d - 1) ∧ X ≤ Ieee.Toward.even.cut b X d * 2 ^ d + 2 ^ (d - 1) := by
  have hp : 2 ^ d = 2 * 2 ^ (d - 1) := by
    obtain ⟨j, rfl⟩ : ∃ j, d = j + 1 := ⟨d - 1, by omega⟩
    rw [Nat.pow_succ, Nat.mul_comm]; rfl
  have h1 := Nat.div_add_mod X (2 ^ d)
  have hm := Nat.mod_lt X (Nat.two_pow_pos d)
  unfold Ieee.Toward.cut
  rw [show min d (X.log2 + 2) = d by omega, Nat.one_shiftLeft]
  simp only
  generalize hq : X / 2 ^ d = q at *
  generalize hr : X % 2 ^ d = r at *
  obtain ⟨c, hc⟩ : ∃ c, (decide (2 ^ d < 2 * r) || (2 ^ d == 2 * r && q % 2 == 1)) = c := ⟨_, rfl⟩
  rw [hc]
  cases c with
  | true =>
    have : 2 ^ d ≤ 2 * r := by
      simp only [Bool.or_eq_true, decide_eq_true_eq, Bool.and_eq_true, beq_iff_eq] at hc
      omega
    have e : (q + true.toNat) * 2 ^ d = 2 ^ d * q + 2 ^ d := by
      show (q + 1) * 2 ^ d = _
      rw [Nat.add_mul, Nat.one_mul, Nat.mul_comm]
    rw [e]
    refine ⟨Nat.le_add_right _ _, Nat.le_refl _, by omega, by omega⟩
  | false =>
    have : 2 * r ≤ 2 ^ d := by
      simp only [Bool.or_eq_false_iff, decide_eq_false_iff_not] at hc
      omega
    have e : (q + false.toNat) * 2 ^ d = 2 ^ d * q := by
      show (q + 0) * 2 ^ d = _
      rw [Nat.add_zero, Nat.mul_comm]
    rw [e]
    refine ⟨Nat.le_add_right _ _, Nat.le_succ _, by omega, by omega⟩
theorem near_fit (M l E : Nat) (p : Int) (hM : 0 < M) (hl : M.log2 = l) (hl2 : l ≤ 52) (hE : (E : Int) = p + l - 52 + 1074) (hE2 : E ≤ 2044) :
    Ieee.double.nearest false M p = E * 4503599627370496 + M * 2 ^ (52 - l) ∧ 4503599627370496 ≤ M * 2 ^ (52 - l) ∧ M * 2 ^ (52 - l) < 9007199254740992 := by
  have hlo : 2 ^ l ≤ M := by rw [← hl]; exact Nat.log2_self_le (by omega)
  have hhi : M < 2 ^ (l + 1) := by rw [← hl]; exact Nat.lt_log2_self
  have hp1 : 2 ^ l * 2 ^ (52 - l) = 4503599627370496 := by rw [← Nat.pow_add, show l + (52 - l) = 52 by omega]
  have hp2 : 2 ^ (l + 1) * 2 ^ (52 - l) = 9007199254740992 := by rw [← Nat.pow_add, show l + 1 + (52 - l) = 53 by omega]
  have hq1 : 4503599627370496 ≤ M * 2 ^ (52 - l) := by rw [← hp1]; exact Nat.mul_le_mul_right _ hlo
  have hq2 : M * 2 ^ (52 - l) < 9007199254740992 := by rw [← hp2]; exact Nat.mul_lt_mul_of_pos_right hhi (Nat.two_pow_pos _)
  refine ⟨?_, hq1, hq2⟩
  unfold Ieee.Format.nearest
  rw [if_neg (by omega), hl, lp, bn, ir, fb]
  have hmx : max (p + ((l : Nat) : Int) - ((52 : Nat) : Int)) (-1074) = p + l - 52 := by omega
  rw [hmx]
  show Ieee.double.word false (min (((p + l - 52) - -1074).toNat * 4503599627370496 + Ieee.Toward.even.cut false (M <<< (p - (p + l - 52)).toNat) ((p + l - 52) - p).toNat) 9218868437227405312) = _
  rw [show (p - (p + l - 52)).toNat = 52 - l by omega, show ((p + l - 52) - p).toNat = 0 by omega, show ((p + l - 52) - -1074).toNat = E by omega, cut_nil, Nat.shiftLeft_eq, word_p]
  clear hmx hhi hlo hp1 hp2
  generalize M * 2 ^ (52 - l) = q at *
  have : E * 4503599627370496 ≤ 2044 * 4503599627370496 := Nat.mul_le_mul_right _ hE2
  omega
theorem near_cut (M l E : Nat) (p : Int) (hM : 0 < M) (hl : M.log2 = l) (hl2 : 52 < l) (hE : (E : Int) = p + l - 52 + 1074) (hE2 : E ≤ 2044) :
    ∃ Q, Ieee.double.nearest false M p = E * 4503599627370496 + Q ∧ 4503599627370496 ≤ Q ∧ Q ≤ 9007199254740992 ∧ Q * 2 ^ (l - 52) ≤ M + 2 ^ (l - 53) ∧ M ≤ Q * 2 ^ (l - 52) + 2 ^ (l - 53) := by
  have hlo : 2 ^ l ≤ M := by rw [← hl]; exact Nat.log2_self_le (by omega)
  have hhi : M < 2 ^ (l + 1) := by rw [← hl]; exact Nat.lt_log2_self
  have hp1 : 2 ^ l = 4503599627370496 * 2 ^ (l - 52) := by
    have : (4503599627370496 : Nat) = 2 ^ 52 := by decide
    rw [this, ← Nat.pow_add]; congr 1; omega
  have hp2 : 2 ^ (l + 1) = 9007199254740992 * 2 ^ (l - 52) := by rw [Nat.pow_succ, hp1]; omega
  have hq1 : 4503599627370496 ≤ M / 2 ^ (l - 52) := by rw [Nat.le_div_iff_mul_le (Nat.two_pow_pos _), ← hp1]; exact hlo
  have hq2 : M / 2 ^ (l - 52) < 9007199254740992 := by rw [Nat.div_lt_iff_lt_mul (Nat.two_pow_pos _), ← hp2]; exact hhi
  obtain ⟨c1, c2, c3, c4⟩ := cut_near false M (l - 52) (by omega) (by omega)
  refine ⟨Ieee.Toward.even.cut false M (l - 52), ?_, by omega, by omega, by rw [show l - 52 - 1 = l - 53 by omega] at c3; exact c3, by rw [show l - 52 - 1 = l - 53 by omega] at c4; exact c4⟩
  unfold Ieee.Format.nearest
  rw [if_neg (by omega), hl, lp, bn, ir, fb]
  have hmx : max (p + ((l : Nat) : Int) - ((52 : Nat) : Int)) (-1074) = p + l - 52 := by omega
  rw [hmx]
  show Ieee.double.word false (min (((p + l - 52) - -1074).toNat * 4503599627370496 + Ieee.Toward.even.cut false (M <<< (p - (p + l - 52)).toNat) ((p + l - 52) - p).toNat) 9218868437227405312) = _
  rw [show (p - (p + l - 52)).toNat = 0 by omega, show ((p + l - 52) - p).toNat = l - 52 by omega, show ((p + l - 52) - -1074).toNat = E by omega, Nat.shiftLeft_zero, word_p]
  clear hmx hhi hlo hp1 hp2 c3 c4
  generalize Ieee.Toward.even.cut false M (l - 52) = q at *
  generalize M / 2 ^ (l - 52) = q2 at *
  have : E * 4503599627370496 ≤ 2044 * 4503599627370496 := Nat.mul_le_mul_right _ hE2
  omega
end Go.Proofs.Yticgmjnilpmkpaa.Re
