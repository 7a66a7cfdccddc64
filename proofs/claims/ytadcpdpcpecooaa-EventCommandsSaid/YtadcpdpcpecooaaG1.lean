/- shift, for every number and 64 to 127 places. -/
import Derived.Test.YtadcpdpcpecooaaG0
namespace Go.Proofs.Ytadcpdpcpecooaa.Re
open Go.RowKit

theorem whole_hi (hi lo j : Nat) (hl : lo < 2 ^ 64) : (hi * 2 ^ 64 + lo) / 2 ^ (64 + j) = hi / 2 ^ j ∧ (hi * 2 ^ 64 + lo) % 2 ^ (64 + j) = (hi % 2 ^ j) * 2 ^ 64 + lo := by
  have e1 : (hi * 2 ^ 64 + lo) / 2 ^ 64 = hi := by omega
  have e2 : (hi * 2 ^ 64 + lo) % 2 ^ 64 = lo := by omega
  refine ⟨by rw [Nat.pow_add, ← Nat.div_div_eq_div_mul, e1], ?_⟩
  rw [Nat.pow_add, Nat.mod_mul, e1, e2]
  omega
/-- .. as the program tells it. -/
def rndHi (hi lo j : Nat) : Nat := if 2 ^ (63 + j) < (hi % 2 ^ j) * 2 ^ 64 + lo ∨ ((hi % 2 ^ j) * 2 ^ 64 + lo = 2 ^ (63 + j) ∧ hi / 2 ^ j % 2 = 1) then hi / 2 ^ j + 1 else hi / 2 ^ j
theorem rnd_hi (hi lo j : Nat) (hl : lo < 2 ^ 64) : rnd (hi * 2 ^ 64 + lo) (64 + j) = rndHi hi lo j := by
  obtain ⟨a, b⟩ := whole_hi hi lo j hl
  unfold rnd rndHi
  rw [a, b, show 64 + j - 1 = 63 + j by omega]
set_option maxRecDepth 20000 in
set_option maxHeartbeats 4000000 in
theorem shift_64 (hi lo : Nat) (w : World) (hh : hi < 18446744073709551616) (hl : lo < 18446744073709551616) :
    Calls Try.prog 86 #[.int .u64 (hi : Int), .int .u64 (lo : Int), .int .u64 64] w fun e w' =>
      e = .returned (if 10000000000000 < hi then .tuple #[.int .u64 0, .bool false] else .tuple #[.int .u64 (rndHi hi lo 0 : Int), .bool true]) ∧ w' = w := by
  have hr : rndHi hi lo 0 = if 9223372036854775808 < lo ∨ (lo = 9223372036854775808 ∧ hi % 2 = 1) then hi + 1 else hi := by
    unfold rndHi
    simp [Nat.mod_one]
  rw [hr]
  clear hr
  have b1 : bits .and .u64 (hi : Int) 0 = 0 := by
    have := bits_and_u64_nat hi 0 hh (by decide)
    simpa using this
  have b3 : bits .and .u64 (hi : Int) 1 = ((hi % 2 : Nat) : Int) := by
    have := bits_and_u64_nat hi 1 hh (by decide)
    rw [Nat.and_one_is_mod] at this
    exact this
  obtain ⟨m2, hm2⟩ : ∃ m, hi % 2 = m := ⟨_, rfl⟩
  rw [hm2] at b3 ⊢
  clear hm2
  by_cases hM : 10000000000000 < hi
  · have hM' : (10000000000000 : Int) < (hi : Int) := by omega
    rw [if_pos hM]
    go_enter Try.func86, Try.ntmps86
    go_wp2_with fail
    all_goals (go_ret2; exact ⟨rfl, rfl⟩)
  · have hM' : ¬ (10000000000000 : Int) < (hi : Int) := by omega
    rw [if_neg hM]
    have hN1 : IntKind.u64.wrap ((hi : Int) + 1) = ((hi + 1 : Nat) : Int) := by rw [IntKind.wrap_u64]; omega
    by_cases hg : 9223372036854775808 < lo
    · have hg' : (9223372036854775808 : Int) < (lo : Int) := by omega
      rw [if_pos (.inl hg)]
      go_enter Try.func86, Try.ntmps86
      go_wp2_with fail
      all_goals (go_ret2; exact ⟨rfl, rfl⟩)
    · have hg' : ¬ (9223372036854775808 : Int) < (lo : Int) := by omega
      by_cases he : lo = 9223372036854775808
      · have he1 : (lo : Int) = 9223372036854775808 := by omega
        by_cases hm : m2 = 1
        · subst hm
          rw [if_pos (.inr ⟨he, rfl⟩)]
          subst he
          go_enter Try.func86, Try.ntmps86
          go_wp2_with fail
          all_goals (go_ret2; exact ⟨rfl, rfl⟩)
        · have hm' : ((m2 : Int) == 1) = false := by simp; omega
          have hm3 : ¬ (m2 : Int) = 1 := by omega
          rw [if_neg (by omega)]
          subst he
          go_enter Try.func86, Try.ntmps86
          go_wp2_with fail
          all_goals (go_ret2; exact ⟨rfl, rfl⟩)
      · have he' : ((lo : Int) == 9223372036854775808) = false := by simp; omega
        have he3 : ¬ (lo : Int) = 9223372036854775808 := by omega
        rw [if_neg (by omega)]
        go_enter Try.func86, Try.ntmps86
        go_wp2_with fail
        all_goals (go_ret2; exact ⟨rfl, rfl⟩)
set_option maxRecDepth 20000 in
set_option maxHeartbeats 4000000 in
theorem shift_hi (hi lo j : Nat) (w : World) (h0 : 0 < j) (hj : j < 64) (hh : hi < 18446744073709551616) (hl : lo < 18446744073709551616) :
    Calls Try.prog 86 #[.int .u64 (hi : Int), .int .u64 (lo : Int), .int .u64 ((64 + j : Nat) : Int)] w fun e w' =>
      e = .returned (if 10000000000000 < hi / 2 ^ j then .tuple #[.int .u64 0, .bool false] else .tuple #[.int .u64 (rndHi hi lo j : Int), .bool true]) ∧ w' = w := by
  have hp : 0 < 2 ^ j := Nat.two_pow_pos j
  have hdl : hi / 2 ^ j ≤ hi := Nat.div_le_self _ _
  have l2 : 2 ^ j ≤ 2 ^ 63 := Nat.pow_le_pow_right (by decide) (by omega)
  have l3 : 2 ^ (j - 1) ≤ 2 ^ 63 := Nat.pow_le_pow_right (by decide) (by omega)
  have l4 : (2 : Nat) ^ 63 = 9223372036854775808 := by decide
  have hsp : (2 : Nat) ^ (63 + j) = 2 ^ (j - 1) * 2 ^ 64 := by rw [← Nat.pow_add]; congr 1; omega
  have l6 : (2 : Nat) ^ 64 = 18446744073709551616 := by decide
  have a0 : ((64 + j : Nat) : Int) - 64 = (j : Int) := by omega
  have a1 : IntKind.u64.wrap (((64 + j : Nat) : Int) - 64) = (j : Int) := by rw [IntKind.wrap_u64]; omega
  have a2 : ¬ ((64 + j : Nat) : Int) < 64 := by omega
  have a3 : IntKind.u64.wrap ((j : Int) - 1) = ((j - 1 : Nat) : Int) := by rw [IntKind.wrap_u64]; omega
  have a4 : (j : Int) - 1 = ((j - 1 : Nat) : Int) := by omega
  have a5 : (0 : Int) < (j : Int) := by omega
  have w2 : IntKind.u64.wrap ((2 : Int) ^ j) = ((2 ^ j : Nat) : Int) := by simpa using u64w (2 ^ j) (by omega)
  have w3 : IntKind.u64.wrap (((2 ^ j : Nat) : Int) - 1) = ((2 ^ j - 1 : Nat) : Int) := by
    have := u64w (2 ^ j - 1) (by omega)
    rw [← this]; congr 1; omega
  have w4 : IntKind.u64.wrap ((2 : Int) ^ (j - 1)) = ((2 ^ (j - 1) : Nat) : Int) := by simpa using u64w (2 ^ (j - 1)) (by omega)
  have w5 : (hi : Int) / 2 ^ j = ((hi / 2 ^ j : Nat) : Int) := by simp
  have b2 : bits .and .u64 (hi : Int) ((2 ^ j - 1 : Nat) : Int) = ((hi % 2 ^ j : Nat) : Int) := by
    rw [bits_and_u64_nat _ _ hh (by omega), Nat.and_two_pow_sub_one_eq_mod]
  have b3 : bits .and .u64 ((hi / 2 ^ j : Nat) : Int) 1 = ((hi / 2 ^ j % 2 : Nat) : Int) := by
    have := bits_and_u64_nat (hi / 2 ^ j) 1 (by omega) (by decide)
    rw [Nat.and_one_is_mod] at this
    exact this
  unfold rndHi
  rw [hsp]
  obtain ⟨N, hN⟩ : ∃ N, hi / 2 ^ j = N := ⟨_, rfl⟩
  obtain ⟨r, hr⟩ : ∃ r, hi % 2 ^ j = r := ⟨_, rfl⟩
  obtain ⟨hf, hhf⟩ : ∃ h, 2 ^ (j - 1) = h := ⟨_, rfl⟩
  obtain ⟨P, hP⟩ : ∃ q, 2 ^ j = q := ⟨_, rfl⟩
  obtain ⟨P1, hP1⟩ : ∃ q, 2 ^ j - 1 = q := ⟨_, rfl⟩
  obtain ⟨k1, hk1⟩ : ∃ q, j - 1 = q := ⟨_, rfl⟩
  obtain ⟨K, hK⟩ : ∃ q, 64 + j = q := ⟨_, rfl⟩
  rw [hN, hr, hhf, hK]
  rw [hN] at w5 b3 hdl
  rw [hr] at b2
  rw [hhf] at w4
  rw [hP1] at b2 w3
  rw [hP] at w2 w3
  rw [hk1] at a3 a4 w4
  rw [hK] at a0 a1 a2
  obtain ⟨m2, hm2⟩ : ∃ m, N % 2 = m := ⟨_, rfl⟩
  rw [hm2] at b3 ⊢
  rw [l6] at ⊢
  clear hP hP1 hk1 hm2 l2 l3 l4 l6 hsp hp hN hr hhf hK
  have hsim : ∀ (hb : Prop) [Decidable hb], (hf * 18446744073709551616 < r * 18446744073709551616 + lo ∨ (r * 18446744073709551616 + lo = hf * 18446744073709551616 ∧ hb)) ↔ (hf < r ∨ (r = hf ∧ (0 < lo ∨ hb))) := by
    intro hb _
    by_cases hb' : hb <;> simp only [hb', and_true, and_false, or_true, or_false] <;> omega
  by_cases hM : 10000000000000 < N
  · have hM' : (10000000000000 : Int) < (N : Int) := by omega
    rw [if_pos hM]
    by_cases hlo : 0 < lo
    · have hlo' : (0 : Int) < (lo : Int) := by omega
      go_enter Try.func86, Try.ntmps86
      go_wp2_with fail
      go_ret2
      exact ⟨rfl, rfl⟩
    · obtain rfl : lo = 0 := by omega
      go_enter Try.func86, Try.ntmps86
      go_wp2_with fail
      go_ret2
      exact ⟨rfl, rfl⟩
  · have hM' : ¬ (10000000000000 : Int) < (N : Int) := by omega
    have hN1 : IntKind.u64.wrap ((N : Int) + 1) = ((N + 1 : Nat) : Int) := by rw [IntKind.wrap_u64]; omega
    rw [if_neg hM]
    simp only [hsim (m2 = 1)]
    clear hsim
    by_cases hg : hf < r
    · have hg' : (hf : Int) < (r : Int) := by omega
      rw [if_pos (.inl hg)]
      by_cases hlo : 0 < lo
      · have hlo' : (0 : Int) < (lo : Int) := by omega
        go_enter Try.func86, Try.ntmps86
        go_wp2_with fail
        go_ret2
        exact ⟨rfl, rfl⟩
      · obtain rfl : lo = 0 := by omega
        go_enter Try.func86, Try.ntmps86
        go_wp2_with fail
        go_ret2
        exact ⟨rfl, rfl⟩
    · have hg' : ¬ (hf : Int) < (r : Int) := by omega
      by_cases he : r = hf
      · subst he
        by_cases hlo : 0 < lo
        · have hlo' : (0 : Int) < (lo : Int) := by omega
          rw [if_pos (.inr ⟨rfl, .inl hlo⟩)]
          go_enter Try.func86, Try.ntmps86
          go_wp2_with fail
          go_ret2
          exact ⟨rfl, rfl⟩
        · obtain rfl : lo = 0 := by omega
          by_cases hm : m2 = 1
          · subst hm
            rw [if_pos (.inr ⟨rfl, .inr rfl⟩)]
            go_enter Try.func86, Try.ntmps86
            go_wp2_with fail
            go_ret2
            exact ⟨rfl, rfl⟩
          · have hm' : ((m2 : Int) == 1) = false := by simp; omega
            have hm3 : ¬ (m2 : Int) = 1 := by omega
            rw [if_neg (by omega)]
            go_enter Try.func86, Try.ntmps86
            go_wp2_with fail
            go_ret2
            exact ⟨rfl, rfl⟩
      · have he' : ((r : Int) == (hf : Int)) = false := by simp; omega
        have he3 : ¬ (r : Int) = (hf : Int) := by omega
        rw [if_neg (by omega)]
        by_cases hlo : 0 < lo
        · have hlo' : (0 : Int) < (lo : Int) := by omega
          go_enter Try.func86, Try.ntmps86
          go_wp2_with fail
          go_ret2
          exact ⟨rfl, rfl⟩
        · obtain rfl : lo = 0 := by omega
          go_enter Try.func86, Try.ntmps86
          go_wp2_with fail
          go_ret2
          exact ⟨rfl, rfl⟩
end Go.Proofs.Ytadcpdpcpecooaa.Re
