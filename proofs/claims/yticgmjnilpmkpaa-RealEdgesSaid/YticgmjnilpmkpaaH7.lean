/- Nextafter; k and a half, and the next number, rounded. -/
import Derived.Test.YticgmjnilpmkpaaH5
import Derived.Deep.CutRange
namespace Go.Proofs.Yticgmjnilpmkpaa.Re
open Go.RowKit

theorem pos_gt (x m : Nat) (i : Int) (hx : Ieee.double.read x = .number false m i) (hm : 0 < m) : Ieee.double.order x 0 = some .gt := by
  have h0 := order_num x 0 m 0 i (-1074) hx zero_read
  have hc := cmp_gt (a := ((m <<< (i - min i (-1074)).toNat : Nat) : Int)) (b := ((0 <<< (-1074 - min i (-1074)).toNat : Nat) : Int)) (by
    have := sh_pos m (i - min i (-1074)).toNat hm
    rw [Nat.zero_shiftLeft]; omega)
  rw [hc] at h0
  exact h0
theorem edge_half (n K : Nat) (hK : K = 1074) : rnd ((2 * n + 1) * 2 ^ (K - 1)) K = n + n % 2 := by
  have := rnd_scale (2 * n + 1) 1 (K - 1) (by decide)
  rw [show 1 + (K - 1) = K by omega] at this
  rw [this]
  unfold rnd
  rw [show (2 : Nat) ^ (1 - 1) = 1 by decide, show (2 : Nat) ^ 1 = 2 by decide]
  split <;> omega
theorem edge_next (n K d : Nat) (hK : K = 1074) (h0 : 0 < d) (hd : d < 2 ^ (K - 1)) : rnd ((2 * n + 1) * 2 ^ (K - 1) + d) K = n + 1 := by
  have hp : 2 ^ K = 2 * 2 ^ (K - 1) := by
    obtain ⟨j, rfl⟩ : ∃ j, K = j + 1 := ⟨K - 1, by omega⟩
    rw [Nat.pow_succ, Nat.mul_comm]; rfl
  have e : (2 * n + 1) * 2 ^ (K - 1) + d = 2 ^ K * n + (2 ^ (K - 1) + d) := by
    rw [hp, Nat.add_mul, Nat.one_mul, Nat.mul_right_comm]
    omega
  unfold rnd
  rw [e, Nat.mul_add_mod, Nat.mul_add_div (Nat.two_pow_pos K), Nat.mod_eq_of_lt (by omega), Nat.div_eq_of_lt (by omega), if_pos (by omega)]
theorem edge_word (n : Nat) (hn : n < 65536) : ∃ X, floatBits .add .f64 (floatOfInt .f64 (n : Int)) 4602678819172646912 = some X ∧ X < 9218868437227405312 ∧
    (∃ m i, 0 < m ∧ Ieee.double.read X = .number false m i) ∧ tk X 1 = ((n : Int) + (n : Int) % 2, 0) ∧ tk (X + 1) 1 = ((n : Int) + 1, 0) := by
  obtain ⟨E, Q, h1, h2, h3, h4, h5⟩ := half_word n hn
  refine ⟨_, h1, by omega, ⟨Q, _, by omega, read_word2 E Q (by omega) h2 h3⟩, ?_, ?_⟩
  · obtain ⟨v1, v2⟩ := vl_word E Q (by omega) h2 (by omega)
    unfold tk
    rw [v2, if_neg (by decide), if_neg (by decide), show (1 : Int).toNat = 1 by decide]
    obtain ⟨K, hK⟩ : ∃ K, K = 1074 := ⟨_, rfl⟩
    rw [tk_vl _ 1 K hK (by decide), v1, Nat.mul_one, h5 (K - 1) (by omega)]
    unfold tv
    rw [edge_half n K hK, if_neg (by omega)]
    congr 1
  · rw [Nat.add_assoc]
    obtain ⟨v1, v2⟩ := vl_word E (Q + 1) (by omega) (by omega) (by omega)
    unfold tk
    rw [v2, if_neg (by decide), if_neg (by decide), show (1 : Int).toNat = 1 by decide]
    obtain ⟨K, hK⟩ : ∃ K, K = 1074 := ⟨_, rfl⟩
    rw [tk_vl _ 1 K hK (by decide), v1, Nat.mul_one, Nat.add_mul, Nat.one_mul, h5 (K - 1) (by omega)]
    unfold tv
    rw [edge_next n K _ hK (Nat.two_pow_pos E) (Nat.pow_lt_pow_right (by decide) (by omega)), if_neg (by omega)]
    rfl
set_option maxHeartbeats 1000000 in
theorem next_calls (x : Nat) (w : World) (hr : ∃ m i, 0 < m ∧ Ieee.double.read x = .number false m i) (hx : x < 9218868437227405312) :
    Calls Try.prog 16 #[.float .f64 x, .float .f64 9218868437227405312] w fun e w' => e = .returned (.float .f64 (x + 1)) ∧ w' = w := by
  obtain ⟨m, i, hm, hr⟩ := hr
  obtain ⟨p1, p2, p3⟩ := pos_word x m i hr hm
  have p4 := pos_gt x m i hr hm
  have hI : Ieee.double.read 9218868437227405312 = .infinity false := by kernel_rfl
  have o1 : (FloatKind.f64.format.order x 9218868437227405312 == some Ordering.eq) = false := by
    rw [fmt]; unfold Ieee.Format.order; rw [hr, hI]; rfl
  have o2 : (FloatKind.f64.format.order 9218868437227405312 x == some Ordering.gt) = true := by
    rw [fmt]; unfold Ieee.Format.order; rw [hr, hI]; rfl
  have o3 : (FloatKind.f64.format.order x 0 == some Ordering.eq) = false := p1
  have o4 : (FloatKind.f64.format.order x 0 == some Ordering.gt) = true := by rw [fmt, p4]; rfl
  have HN1 := Lib.hid (isnan_calls x w)
  have HN2 := Lib.hid (isnan_calls 9218868437227405312 w)
  rw [p3] at HN1
  rw [show nanB 9218868437227405312 = false by kernel_rfl] at HN2
  have h1 := bits_run
  have h2 := frombits_run
  clear p1 p2 p3 p4 hI hr
  go_enter Try.func16, Try.ntmps16
  go_wp2_with fail
  refine HN1.out.mono ?_
  rintro e w1 ⟨rfl, rfl⟩
  go_wp2_with fail
  refine HN2.out.mono ?_
  rintro e w1 ⟨rfl, rfl⟩
  go_wp2_with fail
  go_ret
  exact ⟨rfl, rfl⟩
theorem inf1_calls (w : World) : Calls Try.prog 14 #[.int .i64 1] w fun e w' => e = .returned (.float .f64 9218868437227405312) ∧ w' = w := by
  have h2 := frombits_run
  go_enter Try.func14, Try.ntmps14
  go_wp2_with fail
  go_ret
  exact ⟨rfl, rfl⟩
theorem inf2_calls (w : World) : Calls Try.prog 14 #[.int .i64 (-1)] w fun e w' => e = .returned (.float .f64 18442240474082181120) ∧ w' = w := by
  have h2 := frombits_run
  go_enter Try.func14, Try.ntmps14
  go_wp2_with fail
  go_ret
  exact ⟨rfl, rfl⟩
set_option maxHeartbeats 2000000 in
theorem edges_walk (n : Nat) (up : Bool) (w : World) (hn : n < 65536) :
    Calls Try.prog 4 #[.int .u16 (n : Int), .bool up] w fun e w' => e = .returned (.bool true) ∧ Below w.heap.size w w' := by
  obtain ⟨X, x1, x2, x3, x4, x5⟩ := edge_word n hn
  have hadd := fun W => run_float_arith (P := Try.prog) W .add 22 .f64 _ _ _ x1
  have HN := Lib.hid (fun W => nan_calls W)
  have HI1 := Lib.hid (fun W => inf1_calls W)
  have HI2 := Lib.hid (fun W => inf2_calls W)
  go_enter Try.func4, Try.ntmps4
  go_wp2_with fail
  refine (HN.out _).mono ?_
  rintro e w1 ⟨rfl, rfl⟩
  go_wp2_with fail
  refine (HI1.out _).mono ?_
  rintro e w1 ⟨rfl, rfl⟩
  go_wp2_with fail
  refine (HI2.out _).mono ?_
  rintro e w1 ⟨rfl, rfl⟩
  go_wp2_with fail
  have hn5 := heap_alloc_new w1 (.cells #[.float .f64 9221120237041090561, .float .f64 9218868437227405312, .float .f64 18442240474082181120, .float .f64 13830554455654793216, .float .f64 9223372036854775809] 22)
  have HB0 := Lib.hid ((Below.refl w1.heap.size w1).alloc (Nat.le_refl _) (.cells #[.float .f64 9221120237041090561, .float .f64 9218868437227405312, .float .f64 18442240474082181120, .float .f64 13830554455654793216, .float .f64 9223372036854775809] 22))
  generalize w1.alloc (.cells #[.float .f64 9221120237041090561, .float .f64 9218868437227405312, .float .f64 18442240474082181120, .float .f64 13830554455654793216, .float .f64 9223372036854775809] 22) = W1 at hn5 HB0 ⊢
  have hbad : ∀ k, k < 5 → ∃ b, W1.cell? ⟨w1.heap.size, k, none⟩ = some (.float .f64 b) ∧ goodR b = false ∧ b < 18446744073709551616 := by
    intro k hk
    obtain rfl | rfl | rfl | rfl | rfl : k = 0 ∨ k = 1 ∨ k = 2 ∨ k = 3 ∨ k = 4 := by omega
    · exact ⟨_, cell_of_row _ _ 0 _ _ _ hn5, by kernel_rfl, by decide⟩
    · exact ⟨_, cell_of_row _ _ 1 _ _ _ hn5, by kernel_rfl, by decide⟩
    · exact ⟨_, cell_of_row _ _ 2 _ _ _ hn5, by kernel_rfl, by decide⟩
    · exact ⟨_, cell_of_row _ _ 3 _ _ _ hn5, by kernel_rfl, by decide⟩
    · exact ⟨_, cell_of_row _ _ 4 _ _ _ hn5, by kernel_rfl, by decide⟩
  have HBad := Lib.hid hbad
  clear hn5 hbad
  go_loopw [6] (fun i wr => ∃ k : Nat, k ≤ 5 ∧ i = .int .i64 (k : Int) ∧ wr = W1) (fun i _ => 5 - (intOf i).toNat)
  case atStart => exact ⟨0, by decide, rfl, rfl⟩
  case round =>
    obtain ⟨k, hk, rfl, rfl⟩ := hrel
    by_cases hk5 : k < 5
    · obtain ⟨b, hc, hg, hb⟩ := HBad.out k hk5
      have htk : tk b 100 = (0, 13) := by unfold tk; rw [if_pos hg]
      have HC := Lib.hid (fun W => cents_calls b W hb)
      rw [htk] at HC
      have HG := Lib.hid (fun W => good_calls b W)
      rw [hg] at HG
      clear htk hg
      go_wp2_with fail
      refine (HC.out _).mono ?_
      rintro e w2 ⟨rfl, rfl⟩
      go_wp2_with fail
      refine (HG.out _).mono ?_
      rintro e w2 ⟨rfl, rfl⟩
      go_wp2_with fail
      exact ⟨⟨k + 1, by omega, by go_num, trivial⟩, by simp [intOf]; omega⟩
    · obtain rfl : k = 5 := by omega
      have HT1 := Lib.hid (fun W => take_all X 1 W (by omega))
      have HT2 := Lib.hid (fun W => take_all (X + 1) 1 W (by omega))
      have HT3 := Lib.hid (fun W => take_all 1 1000000 W (by decide))
      have HT4 := Lib.hid (fun W => take_all 9218868437227405311 1 W (by decide))
      have HX := Lib.hid (fun W => next_calls X W x3 x2)
      rw [x4] at HT1
      rw [x5] at HT2
      rw [show tk 1 1000000 = (0, 0) by kernel_rfl] at HT3
      rw [show tk 9218868437227405311 1 = (0, 14) by kernel_rfl] at HT4
      clear x1 x3 x4 x5
      cases up with
      | true =>
        go_wp2_with fail
        refine (HI1.out _).mono ?_
        rintro e w2 ⟨rfl, rfl⟩
        go_wp2_with fail
        refine (HX.out _).mono ?_
        rintro e w2 ⟨rfl, rfl⟩
        go_wp2_with fail
        refine (HT2.out _).mono ?_
        rintro e w2 ⟨rfl, rfl⟩
        have hq : ((n : Int) + 1 == (n : Int) + 1) = true := by simp
        go_wp2_with fail
        refine (HT3.out _).mono ?_
        rintro e w2 ⟨rfl, rfl⟩
        go_wp2_with fail
        refine (HT4.out _).mono ?_
        rintro e w2 ⟨rfl, rfl⟩
        go_wp2_with fail
        refine (wakes_calls _).mono ?_
        rintro e w2 ⟨rfl, rfl⟩
        go_wp2_with fail
        go_ret
        exact ⟨rfl, HB0.out⟩
      | false =>
        go_wp2_with fail
        refine (HT1.out _).mono ?_
        rintro e w2 ⟨rfl, rfl⟩
        have hq : ((n : Int) + (n : Int) % 2 == (n : Int) + (n : Int) % 2) = true := by simp
        go_wp2_with fail
        refine (HT3.out _).mono ?_
        rintro e w2 ⟨rfl, rfl⟩
        go_wp2_with fail
        refine (HT4.out _).mono ?_
        rintro e w2 ⟨rfl, rfl⟩
        go_wp2_with fail
        refine (wakes_calls _).mono ?_
        rintro e w2 ⟨rfl, rfl⟩
        go_wp2_with fail
        go_ret
        exact ⟨rfl, HB0.out⟩
end Go.Proofs.Yticgmjnilpmkpaa.Re
