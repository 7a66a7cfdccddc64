/- shift, for every number and every count of places below 64. -/
import Derived.Test.YtadcpdpcpecooaaF4
import Derived.Laws.Bits64
import Derived.Laws.Bits64b
namespace Go.Proofs.Ytadcpdpcpecooaa.Re
open Go.RowKit

/-- The whole number nearest to W halved k times; of two the even one. -/
def rnd (W k : Nat) : Nat := if 2 ^ (k - 1) < W % 2 ^ k ∨ (W % 2 ^ k = 2 ^ (k - 1) ∧ W / 2 ^ k % 2 = 1) then W / 2 ^ k + 1 else W / 2 ^ k
theorem or_sum (hi lo k : Nat) (hk : k < 64) (_hh : hi < 2 ^ k) (hl : lo < 2 ^ 64) : (hi * 2 ^ (64 - k)) ||| (lo / 2 ^ k) = hi * 2 ^ (64 - k) + lo / 2 ^ k := by
  have h1 : lo / 2 ^ k < 2 ^ (64 - k) := by
    rw [Nat.div_lt_iff_lt_mul (Nat.two_pow_pos k), ← Nat.pow_add]
    rw [show 64 - k + k = 64 by omega]
    exact hl
  rw [Nat.mul_comm, ← Nat.two_pow_add_eq_or_of_lt h1]
theorem whole (hi lo k : Nat) (hk : k < 64) : (hi * 2 ^ 64 + lo) / 2 ^ k = hi * 2 ^ (64 - k) + lo / 2 ^ k ∧ (hi * 2 ^ 64 + lo) % 2 ^ k = lo % 2 ^ k := by
  have e : hi * 2 ^ 64 = 2 ^ k * (hi * 2 ^ (64 - k)) := by
    rw [← Nat.mul_assoc, Nat.mul_comm (2 ^ k) hi, Nat.mul_assoc, ← Nat.pow_add, show k + (64 - k) = 64 by omega]
  rw [e]
  exact ⟨Nat.mul_add_div (Nat.two_pow_pos k) _ _, Nat.mul_add_mod _ _ _⟩
theorem u64w (n : Nat) (h : n < 18446744073709551616) : IntKind.u64.wrap (n : Int) = (n : Int) := by rw [IntKind.wrap_u64]; omega

set_option maxRecDepth 20000 in
set_option maxHeartbeats 4000000 in
theorem shift_lo (hi lo k : Nat) (w : World) (h0 : 0 < k) (hk : k < 64) (_hh : hi < 18446744073709551616) (hl : lo < 18446744073709551616) :
    Calls Try.prog 86 #[.int .u64 (hi : Int), .int .u64 (lo : Int), .int .u64 (k : Int)] w fun e w' =>
      e = .returned (if 2 ^ k ≤ hi then .tuple #[.int .u64 0, .bool false] else if 10000000000000 < (hi * 2 ^ 64 + lo) / 2 ^ k then .tuple #[.int .u64 0, .bool false] else .tuple #[.int .u64 (rnd (hi * 2 ^ 64 + lo) k : Int), .bool true]) ∧ w' = w := by
  have hk' : (k : Int) < 64 := by omega
  have hp : 0 < 2 ^ k := Nat.two_pow_pos k
  by_cases hz : 2 ^ k ≤ hi
  · have hz' : (0 : Int) < (hi : Int) / 2 ^ k := by
      have : 0 < hi / 2 ^ k := Nat.div_pos hz hp
      exact_mod_cast this
    rw [if_pos hz]
    clear hz
    go_enter Try.func86, Try.ntmps86
    go_wp2_with fail
    go_ret2
    exact ⟨rfl, rfl⟩
  · have hhk : hi < 2 ^ k := by omega
    have hz' : ¬ (0 : Int) < (hi : Int) / 2 ^ k := by
      have : hi / 2 ^ k = 0 := Nat.div_eq_of_lt hhk
      have e : (hi : Int) / 2 ^ k = ((hi / 2 ^ k : Nat) : Int) := by simp
      rw [e, this]; decide
    rw [if_neg hz]
    obtain ⟨ew, em⟩ := whole hi lo k hk
    have eor := or_sum hi lo k hk hhk hl
    have l1 : hi * 2 ^ (64 - k) + lo / 2 ^ k < 18446744073709551616 := by
      rw [← ew]
      rw [Nat.div_lt_iff_lt_mul hp]
      have : hi * 2 ^ 64 + lo < (hi + 1) * 2 ^ 64 := by rw [Nat.add_mul]; omega
      have h2 : (hi + 1) * 2 ^ 64 ≤ 2 ^ k * 2 ^ 64 := Nat.mul_le_mul_right _ hhk
      have h3 : 2 ^ k * 2 ^ 64 = 18446744073709551616 * 2 ^ k := by rw [Nat.mul_comm]
      omega
    have l0 : hi * 2 ^ (64 - k) < 18446744073709551616 := Nat.lt_of_le_of_lt (Nat.le_add_right _ _) l1
    have l2 : 2 ^ k ≤ 2 ^ 63 := Nat.pow_le_pow_right (by decide) (by omega)
    have l3 : 2 ^ (k - 1) ≤ 2 ^ 63 := Nat.pow_le_pow_right (by decide) (by omega)
    have l4 : (2 : Nat) ^ 63 = 9223372036854775808 := by decide
    have e1 : ((64 : Int) - (k : Int)).toNat = 64 - k := by omega
    have e2 : ((k : Int) - 1).toNat = k - 1 := by omega
    have e3 : (64 : Int) - (k : Int) = ((64 - k : Nat) : Int) := by omega
    have e4 : (k : Int) - 1 = ((k - 1 : Nat) : Int) := by omega
    have w1 : IntKind.u64.wrap ((hi : Int) * 2 ^ (64 - k)) = ((hi * 2 ^ (64 - k) : Nat) : Int) := by
      simpa using u64w (hi * 2 ^ (64 - k)) l0
    have w2 : IntKind.u64.wrap ((2 : Int) ^ k) = ((2 ^ k : Nat) : Int) := by
      simpa using u64w (2 ^ k) (by omega)
    have w3 : IntKind.u64.wrap (((2 ^ k : Nat) : Int) - 1) = ((2 ^ k - 1 : Nat) : Int) := by
      have := u64w (2 ^ k - 1) (by omega)
      rw [← this]; congr 1; omega
    have w4 : IntKind.u64.wrap ((2 : Int) ^ (k - 1)) = ((2 ^ (k - 1) : Nat) : Int) := by
      simpa using u64w (2 ^ (k - 1)) (by omega)
    have w5 : (lo : Int) / 2 ^ k = ((lo / 2 ^ k : Nat) : Int) := by simp
    have b1 : bits .or .u64 ((hi * 2 ^ (64 - k) : Nat) : Int) ((lo / 2 ^ k : Nat) : Int) = (((hi * 2 ^ 64 + lo) / 2 ^ k : Nat) : Int) := by
      rw [bits_or_u64_nat _ _ l0 (Nat.lt_of_le_of_lt (Nat.div_le_self lo (2 ^ k)) hl), eor, ew]
    have b2 : bits .and .u64 (lo : Int) ((2 ^ k - 1 : Nat) : Int) = (((hi * 2 ^ 64 + lo) % 2 ^ k : Nat) : Int) := by
      rw [bits_and_u64_nat _ _ hl (by omega), Nat.and_two_pow_sub_one_eq_mod, em]
    have l5 : (hi * 2 ^ 64 + lo) / 2 ^ k < 18446744073709551616 := by rw [ew]; exact l1
    have b3 : bits .and .u64 (((hi * 2 ^ 64 + lo) / 2 ^ k : Nat) : Int) 1 = (((hi * 2 ^ 64 + lo) / 2 ^ k % 2 : Nat) : Int) := by
      have := bits_and_u64_nat ((hi * 2 ^ 64 + lo) / 2 ^ k) 1 l5 (by decide)
      rw [Nat.and_one_is_mod] at this
      exact this
    unfold rnd
    obtain ⟨N, hN⟩ : ∃ N, (hi * 2 ^ 64 + lo) / 2 ^ k = N := ⟨_, rfl⟩
    obtain ⟨r, hr⟩ : ∃ r, (hi * 2 ^ 64 + lo) % 2 ^ k = r := ⟨_, rfl⟩
    obtain ⟨hf, hhf⟩ : ∃ h, 2 ^ (k - 1) = h := ⟨_, rfl⟩
    obtain ⟨q, hq⟩ : ∃ q, lo / 2 ^ k = q := ⟨_, rfl⟩
    obtain ⟨sh, hsh⟩ : ∃ q, hi * 2 ^ (64 - k) = q := ⟨_, rfl⟩
    obtain ⟨P, hP⟩ : ∃ q, 2 ^ k = q := ⟨_, rfl⟩
    obtain ⟨P1, hP1⟩ : ∃ q, 2 ^ k - 1 = q := ⟨_, rfl⟩
    obtain ⟨k1, hk1⟩ : ∃ q, k - 1 = q := ⟨_, rfl⟩
    obtain ⟨k2, hk2⟩ : ∃ q, 64 - k = q := ⟨_, rfl⟩
    rw [hN, hr, hhf]
    rw [hN] at b1 b3 l5
    rw [hr] at b2
    rw [hhf] at w4
    rw [hq] at b1 w5
    rw [hsh] at b1 w1
    rw [hP1] at b2 w3
    rw [hP] at w2 w3
    rw [hk1] at e2 e4 w4
    rw [hk2] at e1 e3 w1
    obtain ⟨m2, hm2⟩ : ∃ m, N % 2 = m := ⟨_, rfl⟩
    rw [hm2] at b3 ⊢
    clear hq hsh hP hP1 hk1 hk2
    clear ew em eor l1 l0 l2 l3 l4 hz hhk hN hr hhf hp
    by_cases hM : 10000000000000 < N
    · have hM' : (10000000000000 : Int) < (N : Int) := by omega
      rw [if_pos hM]
      go_enter Try.func86, Try.ntmps86
      go_wp2_with fail
      go_ret2
      exact ⟨rfl, rfl⟩
    · have hM' : ¬ (10000000000000 : Int) < (N : Int) := by omega
      rw [if_neg hM]
      have hN1 : IntKind.u64.wrap ((N : Int) + 1) = ((N + 1 : Nat) : Int) := by rw [IntKind.wrap_u64]; omega
      by_cases hg : hf < r
      · have hg' : (hf : Int) < (r : Int) := by omega
        rw [if_pos (.inl hg)]
        go_enter Try.func86, Try.ntmps86
        go_wp2_with fail
        go_ret2
        exact ⟨rfl, rfl⟩
      · have hg' : ¬ (hf : Int) < (r : Int) := by omega
        by_cases he : r = hf
        · subst he
          by_cases hm : m2 = 1
          · subst hm
            rw [if_pos (.inr ⟨rfl, rfl⟩)]
            go_enter Try.func86, Try.ntmps86
            go_wp2_with fail
            go_ret2
            exact ⟨rfl, rfl⟩
          · have hm' : ((m2 : Int) == 1) = false := by simp; omega
            have hm3 : ¬ (m2 : Int) = 1 := by omega
            rw [if_neg (by omega)]
            go_enter Try.func86, Try.ntmps86
            go_wp2_with fail
            go_ret2
            exact ⟨rfl, rfl⟩
        · have he' : ((r : Int) == (hf : Int)) = false := by simp; omega
          have he3 : ¬ (r : Int) = (hf : Int) := by omega
          rw [if_neg (by omega)]
          go_enter Try.func86, Try.ntmps86
          go_wp2_with fail
          go_ret2
          exact ⟨rfl, rfl⟩
end Go.Proofs.Ytadcpdpcpecooaa.Re
