/- What Take comes to, of any word: the program's. -/
import Derived.Test.YtadcpdpcpecooaaG6
namespace Go.Proofs.Ytadcpdpcpecooaa.Re
open Go.RowKit

def mant (x : Nat) : Nat := if x / 4503599627370496 % 2048 = 0 then x % 4503599627370496 else 4503599627370496 + x % 4503599627370496
def expo (x : Nat) : Nat := max (x / 4503599627370496 % 2048) 1
def tkN (x s : Nat) : Int × Int := if 1075 ≤ expo x then (0, 14) else if 10000000000000 < rnd (mant x * s) (1075 - expo x) then (0, 14) else ((rnd (mant x * s) (1075 - expo x) : Int), 0)
def tk (x : Nat) (S : Int) : Int × Int := if goodR x = false then (0, 13) else if S < 1 ∨ 1000000 < S then (0, 1) else tkN x S.toNat
theorem rnd_ge (W k : Nat) : W / 2 ^ k ≤ rnd W k := by unfold rnd; split <;> omega
theorem rnd_nil (W k : Nat) (hk : 0 < k) (h : W < 2 ^ (k - 1)) : rnd W k = 0 := by
  have hp : 2 ^ k = 2 * 2 ^ (k - 1) := by
    obtain ⟨j, rfl⟩ : ∃ j, k = j + 1 := ⟨k - 1, by omega⟩
    rw [Nat.pow_succ, Nat.mul_comm]; rfl
  unfold rnd
  rw [Nat.mod_eq_of_lt (by omega), Nat.div_eq_of_lt (by omega), if_neg (by omega)]
theorem mant_lt (x : Nat) : mant x < 9007199254740992 := by unfold mant; split <;> omega
theorem prod_lt (m s : Nat) (h : m < 9007199254740992) (hs : s ≤ 1000000) : m * s < 2 ^ 73 := by
  have : m * s ≤ 9007199254740992 * 1000000 := Nat.mul_le_mul (by omega) hs
  have : (9007199254740992 * 1000000 : Nat) < 2 ^ 73 := by decide
  omega
theorem shift_all (W k : Nat) (w : World) (h0 : 0 < k) (hk : k < 128) (hW : W < 2 ^ 128) :
    Calls Try.prog 86 #[.int .u64 ((W / 18446744073709551616 : Nat) : Int), .int .u64 ((W % 18446744073709551616 : Nat) : Int), .int .u64 (k : Int)] w fun e w' =>
      e = .returned (.tuple #[.int .u64 (if 10000000000000 < W / 2 ^ k then 0 else (rnd W k : Int)), .bool (!decide (10000000000000 < W / 2 ^ k))]) ∧ w' = w := by
  have hW' : W < 18446744073709551616 * 18446744073709551616 := by
    have : (2 : Nat) ^ 128 = 18446744073709551616 * 18446744073709551616 := by decide
    omega
  have hh : W / 18446744073709551616 < 18446744073709551616 := by rw [Nat.div_lt_iff_lt_mul (by decide)]; exact hW'
  have hl : W % 18446744073709551616 < 18446744073709551616 := Nat.mod_lt _ (by decide)
  have hj : W / 18446744073709551616 * 2 ^ 64 + W % 18446744073709551616 = W := by
    have : (2 : Nat) ^ 64 = 18446744073709551616 := by decide
    rw [this]; omega
  rcases Nat.lt_trichotomy k 64 with h | h | h
  · refine (shift_lo _ _ k w h0 h hh hl).mono ?_
    rintro e w' ⟨rfl, rfl⟩
    refine ⟨?_, rfl⟩
    rw [hj]
    by_cases h1 : 2 ^ k ≤ W / 18446744073709551616
    · have h2 : 10000000000000 < W / 2 ^ k := by
        have h3 : 18446744073709551616 ≤ W / 2 ^ k := by
          rw [Nat.le_div_iff_mul_le (Nat.two_pow_pos k)]
          have := Nat.mul_le_mul_left 18446744073709551616 h1
          omega
        omega
      rw [if_pos h1, if_pos h2]
      simp [h2]
    · rw [if_neg h1]
      by_cases h2 : 10000000000000 < W / 2 ^ k
      · rw [if_pos h2, if_pos h2]; simp [h2]
      · rw [if_neg h2, if_neg h2]; simp [h2]
  · subst h
    refine (shift_64 _ _ w hh hl).mono ?_
    rintro e w' ⟨rfl, rfl⟩
    refine ⟨?_, rfl⟩
    have e1 := rnd_hi (W / 18446744073709551616) (W % 18446744073709551616) 0 hl
    rw [hj] at e1
    have e2 : W / 2 ^ 64 = W / 18446744073709551616 := rfl
    rw [e2]
    by_cases h2 : 10000000000000 < W / 18446744073709551616
    · rw [if_pos h2, if_pos h2]; simp [h2]
    · rw [if_neg h2, if_neg h2, ← e1]; simp [h2]
  · obtain ⟨j, rfl⟩ : ∃ j, k = 64 + j := ⟨k - 64, by omega⟩
    refine (shift_hi _ _ j w (by omega) (by omega) hh hl).mono ?_
    rintro e w' ⟨rfl, rfl⟩
    refine ⟨?_, rfl⟩
    have e1 := rnd_hi (W / 18446744073709551616) (W % 18446744073709551616) j hl
    have e2 := (whole_hi (W / 18446744073709551616) (W % 18446744073709551616) j hl).1
    rw [hj] at e1 e2
    rw [e2, ← e1]
    by_cases h2 : 10000000000000 < W / 18446744073709551616 / 2 ^ j
    · rw [if_pos h2, if_pos h2]; simp [h2]
    · rw [if_neg h2, if_neg h2]; simp [h2]
theorem take_norm (e f s : Nat) (w : World) (h1 : 1 ≤ e) (h2 : e ≤ 2046) (hf : f < 4503599627370496) (hs1 : 1 ≤ s) (hs2 : s ≤ 1000000) :
    Calls Try.prog 78 #[.float .f64 (e * 4503599627370496 + f), .int .i64 (s : Int)] w fun e' w' => e' = .returned (.tuple #[.int .i64 (tkN (e * 4503599627370496 + f) s).1, .int .i64 (tkN (e * 4503599627370496 + f) s).2]) ∧ w' = w := by
  obtain ⟨hN, hG⟩ := nrm_word e f h1 h2 hf
  have hA : Nrm (1022 * 4503599627370496 + f) := (nrm_word 1022 f (by decide) (by decide) hf).1
  have hx := frA_word e f (by omega) hf
  have hE := frE_word e f (by omega) hf
  have hm : mant (e * 4503599627370496 + f) = 4503599627370496 + f := by unfold mant; rw [if_neg (by omega)]; omega
  have he : expo (e * 4503599627370496 + f) = e := by unfold expo; omega
  have hml : 4503599627370496 + f < 9007199254740992 := by omega
  have hW := prod_lt (4503599627370496 + f) s hml hs2
  have hmul := fun W => mul_calls (4503599627370496 + f) s W (by omega) (by omega)
  have hWm : 4503599627370496 ≤ (4503599627370496 + f) * s := by
    have := Nat.mul_le_mul (show 4503599627370496 ≤ 4503599627370496 + f by omega) hs1
    omega
  obtain ⟨P, hP⟩ : ∃ P, (4503599627370496 + f) * s = P := ⟨_, rfl⟩
  unfold tkN
  rw [hm, he]
  rw [hP] at hmul hW hWm ⊢
  have hlY := ldY_word 1022 f (by decide) hf
  have hbE : bits .and .i64 (wrap64 (((1022 * 4503599627370496 + f : Nat) : Int) / 4503599627370496)) 2047 = 1022 := by
    rw [show ((1022 * 4503599627370496 + f : Nat) : Int) / 4503599627370496 = 1022 by omega]
    kernel_rfl
  have hFr := fun w => Frexp_calls (e * 4503599627370496 + f) w hN
  have hLd := fun w => Ldexp_calls (1022 * 4503599627370496 + f) (1075 * 4503599627370496 + f) w hA hbE (by rw [hlY]; exact mul_one f hf)
  rw [hx, hE] at hFr
  have hVr : (0 : Int) ≤ (if 10000000000000 < P / 2 ^ (1075 - e) then 0 else (rnd P (1075 - e) : Int)) ∧ (if 10000000000000 < P / 2 ^ (1075 - e) then 0 else (rnd P (1075 - e) : Int)) ≤ 18446744073709551615 := by
    by_cases c : 10000000000000 < P / 2 ^ (1075 - e)
    · rw [if_pos c]; decide
    · rw [if_neg c]
      have : rnd P (1075 - e) ≤ P / 2 ^ (1075 - e) + 1 := by unfold rnd; split <;> omega
      omega
  have hSh : (e : Int) - 1022 - 53 < 0 → -74 ≤ (e : Int) - 1022 - 53 → ∀ W, Calls Try.prog 86 #[.int .u64 ((P / 18446744073709551616 : Nat) : Int), .int .u64 ((P % 18446744073709551616 : Nat) : Int), .int .u64 (-((e : Int) - 1022 - 53))] W fun e' w' =>
      e' = .returned (.tuple #[.int .u64 (if 10000000000000 < P / 2 ^ (1075 - e) then 0 else (rnd P (1075 - e) : Int)), .bool (!decide (10000000000000 < P / 2 ^ (1075 - e)))]) ∧ w' = W := by
    intro c1 c2 W
    have := shift_all P (1075 - e) W (by omega) (by omega) (by omega)
    rw [show ((1075 - e : Nat) : Int) = -((e : Int) - 1022 - 53) by omega] at this
    exact this
  have key := take_gen (e * 4503599627370496 + f) (1022 * 4503599627370496 + f) (1075 * 4503599627370496 + f) (s : Int)
    (if 10000000000000 < P / 2 ^ (1075 - e) then 0 else (rnd P (1075 - e) : Int)) ((e : Int) - 1022) ((4503599627370496 + f : Nat) : Int)
    ((P / 18446744073709551616 : Nat) : Int) ((P % 18446744073709551616 : Nat) : Int) (!decide (10000000000000 < P / 2 ^ (1075 - e))) w hG hN.z (by omega) (by omega) hFr hLd (to_int f hf) (by rw [IntKind.wrap_u64]; omega) (by omega) hmul
    (by intro _; omega) (by omega) hSh hVr
  refine key.mono ?_
  rintro e' w' ⟨rfl, rfl⟩
  refine ⟨?_, rfl⟩
  clear key hSh hFr hLd hmul hVr hbE
  unfold tkV
  by_cases c1 : 1075 ≤ e
  · rw [if_pos c1, if_pos (by omega)]
  · rw [if_neg c1, if_neg (by omega)]
    by_cases c2 : (e : Int) - 1022 - 53 < -74
    · rw [if_pos c2]
      have hz : rnd P (1075 - e) = 0 := rnd_nil P _ (by omega) (by
        have : 2 ^ 74 ≤ 2 ^ (1075 - e - 1) := Nat.pow_le_pow_right (by decide) (by omega)
        omega)
      rw [hz, if_neg (by decide)]
      rfl
    · rw [if_neg c2]
      have hr := rnd_ge P (1075 - e)
      by_cases c3 : 10000000000000 < P / 2 ^ (1075 - e)
      · have c4 : (!decide (10000000000000 < P / 2 ^ (1075 - e))) = false := by simp [c3]
        rw [c4, if_neg (by decide), if_pos (show 10000000000000 < rnd P (1075 - e) by omega)]
      · have c4 : (!decide (10000000000000 < P / 2 ^ (1075 - e))) = true := by simp [c3]
        rw [c4, if_pos rfl, if_neg c3]
        by_cases c5 : 10000000000000 < rnd P (1075 - e)
        · rw [if_pos c5, if_pos (by omega)]
        · rw [if_neg c5, if_neg (by omega)]
theorem take_low (f s : Nat) (w : World) (h0 : 0 < f) (hf : f < 4503599627370496) (hs1 : 1 ≤ s) (hs2 : s ≤ 1000000) :
    Calls Try.prog 78 #[.float .f64 f, .int .i64 (s : Int)] w fun e' w' => e' = .returned (.tuple #[.int .i64 (tkN f s).1, .int .i64 (tkN f s).2]) ∧ w' = w := by
  obtain ⟨hG, hz, hi, hn, hsm⟩ := good_low f h0 hf
  obtain ⟨e, g, h1, h2, hg, hM⟩ := mul_low f h0 hf
  have hA : Nrm (1022 * 4503599627370496 + g) := (nrm_word 1022 g (by decide) (by decide) hg).1
  have hx := frA_word e g (by omega) hg
  have hE : wrap64 (-52 + wrap64 (wrap64 (wrap64 (bits .and .u64 (((e * 4503599627370496 + g : Nat) : Int) / 4503599627370496) 2047) - 1023) + 1)) = (e : Int) - 1074 := by
    rw [exp_word e g (by omega) hg, wr64 (e : Int) (by omega), wr64 ((e : Int) - 1023) (by omega), wr64 ((e : Int) - 1023 + 1) (by omega), wr64 _ (by omega)]
    omega
  have hFr := fun w => Frexp_of f _ _ w (frexp_low f _ _ w hz hi hn hsm hM hE)
  rw [hx] at hFr
  have hlY := ldY_word 1022 g (by decide) hg
  have hbE : bits .and .i64 (wrap64 (((1022 * 4503599627370496 + g : Nat) : Int) / 4503599627370496)) 2047 = 1022 := by
    rw [show ((1022 * 4503599627370496 + g : Nat) : Int) / 4503599627370496 = 1022 by omega]
    kernel_rfl
  have hLd := fun w => Ldexp_calls (1022 * 4503599627370496 + g) (1075 * 4503599627370496 + g) w hA hbE (by rw [hlY]; exact mul_one g hg)
  have hmul := fun W => mul_calls (4503599627370496 + g) s W (by omega) (by omega)
  have key := take_gen f (1022 * 4503599627370496 + g) (1075 * 4503599627370496 + g) (s : Int) 0 ((e : Int) - 1074) ((4503599627370496 + g : Nat) : Int) _ _ true w hG hz (by omega) (by omega) hFr hLd (to_int g hg) (by rw [IntKind.wrap_u64]; omega) (by omega) hmul
    (by intro _; omega) (by omega) (by intro _ _; omega) (by omega)
  refine key.mono ?_
  rintro e' w' ⟨rfl, rfl⟩
  refine ⟨?_, rfl⟩
  clear key hFr hLd hmul hbE hE hM
  have hm : mant f = f := by unfold mant; rw [if_pos (by omega)]; omega
  have he : expo f = 1 := by unfold expo; omega
  have hW := prod_lt f s (by omega) hs2
  unfold tkV tkN
  rw [hm, he, if_neg (by omega), if_pos (by omega), if_neg (by omega)]
  have hz : ∀ K, K = 1075 - 1 → rnd (f * s) K = 0 := by
    intro K hK
    refine rnd_nil _ _ (by omega) ?_
    have : 2 ^ 74 ≤ 2 ^ (K - 1) := Nat.pow_le_pow_right (by decide) (by omega)
    omega
  rw [hz _ rfl, if_neg (by decide)]
  rfl
theorem tk_nil (x s : Nat) (h : x = 0 ∨ x = 9223372036854775808) : tkN x s = (0, 0) := by
  have hm : mant x = 0 := by rcases h with rfl | rfl <;> rfl
  have he : expo x = 1 := by rcases h with rfl | rfl <;> rfl
  unfold tkN
  rw [hm, he, Nat.zero_mul, rnd_nil 0 (1075 - 1) (by decide) (Nat.two_pow_pos _), if_neg (by decide), if_neg (by decide)]
  rfl
/-- Take, of any word and any scale. -/
theorem take_all (x : Nat) (S : Int) (w : World) (hx : x < 18446744073709551616) :
    Calls Try.prog 78 #[.float .f64 x, .int .i64 S] w fun e' w' => e' = .returned (.tuple #[.int .i64 (tk x S).1, .int .i64 (tk x S).2]) ∧ w' = w := by
  unfold tk
  rcases Bool.eq_false_or_eq_true (goodR x) with hg | hg
  · rw [if_neg (by rw [hg]; decide)]
    by_cases hS : S < 1 ∨ 1000000 < S
    · rw [if_pos hS]
      exact take_arg x S w hg hS
    · rw [if_neg hS]
      obtain ⟨s, rfl⟩ : ∃ s : Nat, S = (s : Int) := ⟨S.toNat, by omega⟩
      rw [show ((s : Int)).toNat = s by omega]
      rcases good_cases x hx hg with h | ⟨e, f, h1, h2, rfl⟩
      · rw [tk_nil x s (.inr h)]
        subst h
        exact take_nil _ _ w hg good_nil2.2 (by omega) (by omega)
      · rcases Nat.eq_zero_or_pos e with rfl | he
        · rw [show 0 * 4503599627370496 + f = f by omega] at hg ⊢
          rcases Nat.eq_zero_or_pos f with rfl | hf
          · rw [tk_nil 0 s (.inl rfl)]
            exact take_nil _ _ w hg good_nil.2 (by omega) (by omega)
          · exact take_low f s w hf h2 (by omega) (by omega)
        · exact take_norm e f s w he h1 h2 (by omega) (by omega)
  · rw [if_pos hg]
    exact take_bad x S w hg
end Go.Proofs.Ytadcpdpcpecooaa.Re
