/- What a good word is worth, and Take of it by its worth. -/
import Derived.Test.YticgmjnilpmkpaaH1
namespace Go.Proofs.Yticgmjnilpmkpaa.Re
open Go.RowKit

/-- The word's worth, in units of the least place. -/
def vl (x : Nat) : Nat := mant x * 2 ^ (expo x - 1)
def tv (T K : Nat) : Int × Int := if 10000000000000 < rnd T K then (0, 14) else ((rnd T K : Int), 0)
theorem rnd_scale (W k j : Nat) (hk : 0 < k) : rnd (W * 2 ^ j) (k + j) = rnd W k := by
  have e1 : W * 2 ^ j / 2 ^ (k + j) = W / 2 ^ k := by rw [Nat.pow_add, Nat.mul_div_mul_right _ _ (Nat.two_pow_pos j)]
  have e2 : W * 2 ^ j % 2 ^ (k + j) = W % 2 ^ k * 2 ^ j := by rw [Nat.pow_add, Nat.mul_mod_mul_right]
  have e3 : 2 ^ (k + j - 1) = 2 ^ (k - 1) * 2 ^ j := by rw [← Nat.pow_add]; congr 1; omega
  unfold rnd
  rw [e1, e2, e3]
  have hp := Nat.two_pow_pos j
  have c1 : (2 ^ (k - 1) * 2 ^ j < W % 2 ^ k * 2 ^ j) ↔ (2 ^ (k - 1) < W % 2 ^ k) := Nat.mul_lt_mul_right hp
  have c2 : (W % 2 ^ k * 2 ^ j = 2 ^ (k - 1) * 2 ^ j) ↔ (W % 2 ^ k = 2 ^ (k - 1)) := Nat.mul_left_inj (by omega)
  simp only [c1, c2]
theorem rnd_whole (n k : Nat) (_hk : 0 < k) : rnd (n * 2 ^ k) k = n := by
  have hp := Nat.two_pow_pos (k - 1)
  unfold rnd
  rw [Nat.mul_mod_left, Nat.mul_div_cancel _ (Nat.two_pow_pos k), if_neg (by omega)]
theorem rnd_mono (W W' k : Nat) (h : W ≤ W') : rnd W k ≤ rnd W' k := by
  have hq : W / 2 ^ k ≤ W' / 2 ^ k := Nat.div_le_div_right h
  have h1 := Nat.div_add_mod W (2 ^ k)
  have h2 := Nat.div_add_mod W' (2 ^ k)
  have hr : W / 2 ^ k = W' / 2 ^ k → W % 2 ^ k ≤ W' % 2 ^ k := by
    intro e
    rw [e] at h1
    omega
  have hu : rnd W k ≤ W / 2 ^ k + 1 := by unfold rnd; split <;> omega
  have hl := rnd_ge W' k
  by_cases c : W / 2 ^ k = W' / 2 ^ k
  · have hr := hr c
    unfold rnd
    rw [← c]
    generalize W / 2 ^ k = q at *
    generalize W % 2 ^ k = r at *
    generalize W' % 2 ^ k = r' at *
    generalize 2 ^ (k - 1) = H at *
    split <;> split <;> omega
  · omega
/-- 100 times as much, rounded, is within 50 of 100 times the rounded. -/
theorem rnd_near (W k : Nat) (hk : 0 < k) : 100 * rnd W k ≤ rnd (100 * W) k + 50 ∧ rnd (100 * W) k ≤ 100 * rnd W k + 50 := by
  have hp : 2 ^ k = 2 * 2 ^ (k - 1) := by
    obtain ⟨j, rfl⟩ : ∃ j, k = j + 1 := ⟨k - 1, by omega⟩
    rw [Nat.pow_succ, Nat.mul_comm]; rfl
  have h1 := Nat.div_add_mod W (2 ^ k)
  have hm := Nat.mod_lt W (Nat.two_pow_pos k)
  have hb : 2 ^ k * rnd W k ≤ W + 2 ^ (k - 1) ∧ W ≤ 2 ^ k * rnd W k + 2 ^ (k - 1) := by
    unfold rnd
    split
    · rw [Nat.mul_add]; omega
    · omega
  obtain ⟨b1, b2⟩ := hb
  constructor
  · by_cases c : rnd W k = 0
    · omega
    · have : (100 * rnd W k - 50) * 2 ^ k ≤ 100 * W := by
        rw [Nat.mul_sub_right_distrib]
        have : 100 * rnd W k * 2 ^ k = 100 * (2 ^ k * rnd W k) := by rw [Nat.mul_assoc, Nat.mul_comm (rnd W k)]
        omega
      have := rnd_mono _ _ k this
      rw [rnd_whole _ _ hk] at this
      omega
  · have : 100 * W ≤ (100 * rnd W k + 50) * 2 ^ k := by
      rw [Nat.add_mul]
      have : 100 * rnd W k * 2 ^ k = 100 * (2 ^ k * rnd W k) := by rw [Nat.mul_assoc, Nat.mul_comm (rnd W k)]
      omega
    have := rnd_mono _ _ k this
    rw [rnd_whole _ _ hk] at this
    omega
theorem tk_vl (x s K : Nat) (hK : K = 1074) (hs : 0 < s) : tkN x s = tv (vl x * s) K := by
  unfold tkN tv vl
  have hE : 1 ≤ expo x := by unfold expo; omega
  by_cases h : 1075 ≤ expo x
  · rw [if_pos h]
    have hm : 4503599627370496 ≤ mant x := by
      have : x / 4503599627370496 % 2048 ≠ 0 := by unfold expo at h; omega
      unfold mant
      rw [if_neg this]
      omega
    have : 4503599627370496 * 2 ^ K ≤ mant x * 2 ^ (expo x - 1) * s := by
      have h1 : 2 ^ K ≤ 2 ^ (expo x - 1) := Nat.pow_le_pow_right (by decide) (by omega)
      have h2 := Nat.mul_le_mul hm h1
      have h3 := Nat.mul_le_mul h2 hs
      omega
    have := rnd_mono _ _ K this
    rw [rnd_whole _ _ (by omega)] at this
    rw [if_pos (by omega)]
  · rw [if_neg h]
    have : rnd (mant x * 2 ^ (expo x - 1) * s) K = rnd (mant x * s) (1075 - expo x) := by
      rw [Nat.mul_right_comm, ← rnd_scale (mant x * s) (1075 - expo x) (expo x - 1) (by omega)]
      congr 1
      omega
    rw [this]
/-- A word put together. -/
theorem vl_word (E Q : Nat) (hE : E ≤ 2044) (h1 : 4503599627370496 ≤ Q) (h2 : Q ≤ 9007199254740992) :
    vl (E * 4503599627370496 + Q) = Q * 2 ^ E ∧ goodR (E * 4503599627370496 + Q) = true := by
  by_cases c : Q = 9007199254740992
  · subst c
    have e1 : E * 4503599627370496 + 9007199254740992 = (E + 2) * 4503599627370496 + 0 := by omega
    refine ⟨?_, by rw [e1]; exact (nrm_word (E + 2) 0 (by omega) (by omega) (by decide)).2⟩
    have hm : mant ((E + 2) * 4503599627370496 + 0) = 4503599627370496 := by unfold mant; rw [if_neg (by omega)]; omega
    have he : expo ((E + 2) * 4503599627370496 + 0) = E + 2 := by unfold expo; omega
    rw [e1]
    unfold vl
    rw [hm, he, show E + 2 - 1 = E + 1 by omega, Nat.pow_succ]
    omega
  · have e1 : E * 4503599627370496 + Q = (E + 1) * 4503599627370496 + (Q - 4503599627370496) := by omega
    refine ⟨?_, by rw [e1]; exact (nrm_word (E + 1) _ (by omega) (by omega) (by omega)).2⟩
    have hm : mant ((E + 1) * 4503599627370496 + (Q - 4503599627370496)) = Q := by unfold mant; rw [if_neg (by omega)]; omega
    have he : expo ((E + 1) * 4503599627370496 + (Q - 4503599627370496)) = E + 1 := by unfold expo; omega
    rw [e1]
    unfold vl
    rw [hm, he]
    rfl
end Go.Proofs.Yticgmjnilpmkpaa.Re
