/- money.Mul, shift, Take at the numbers of wakes; wakes. -/
import Derived.Test.YticgmjnilpmkpaaF3
namespace Go.Proofs.Yticgmjnilpmkpaa.Re
open Go.RowKit

set_option maxHeartbeats 2000000 in
theorem mul64_1 (w : World) : Calls Try.prog 53 #[.int .u64 5764607523034235, .int .u64 100] w fun e w' => e = .returned (.tuple #[.int .u64 0, .int .u64 576460752303423500]) ∧ w' = w := by
  have b0 : bits .and .u64 5764607523034235 4294967295 = 1202590843 := by kernel_rfl
  have b1 : bits .and .u64 100 4294967295 = 100 := by kernel_rfl
  have b2 : bits .and .u64 134217728 4294967295 = 134217728 := by kernel_rfl
  go_enter Try.func53, Try.ntmps53
  go_wp2_with fail
  go_ret2
  exact ⟨rfl, rfl⟩
set_option maxHeartbeats 2000000 in
theorem mul_1 (w : World) : Calls Try.prog 39 #[.int .u64 5764607523034235, .int .u64 100] w fun e w' => e = .returned (.tuple #[.int .u64 0, .int .u64 576460752303423500]) ∧ w' = w := by
  have HI := Lib.hid (mul64_1 w)
  go_enter Try.func39, Try.ntmps39
  go_wp2_with fail
  refine HI.out.mono ?_
  rintro e w1 ⟨rfl, rfl⟩
  go_wp2_with fail
  go_ret2
  exact ⟨rfl, rfl⟩
set_option maxHeartbeats 2000000 in
theorem shift_1 (w : World) : Calls Try.prog 40 #[.int .u64 0, .int .u64 576460752303423500, .int .u64 60] w fun e w' => e = .returned (.tuple #[.int .u64 1, .bool true]) ∧ w' = w := by
  have b0 : bits .or .u64 0 0 = 0 := by kernel_rfl
  have b1 : bits .and .u64 576460752303423500 1152921504606846975 = 576460752303423500 := by kernel_rfl
  go_enter Try.func40, Try.ntmps40
  go_wp2_with fail
  go_ret2
  exact ⟨rfl, rfl⟩
set_option maxHeartbeats 2000000 in
theorem mul64_2 (w : World) : Calls Try.prog 53 #[.int .u64 5910974510923776, .int .u64 10000] w fun e w' => e = .returned (.tuple #[.int .u64 3, .int .u64 3769512888109105152]) ∧ w' = w := by
  have b0 : bits .and .u64 5910974510923776 4294967295 = 0 := by kernel_rfl
  have b1 : bits .and .u64 10000 4294967295 = 10000 := by kernel_rfl
  have b2 : bits .and .u64 13762560000 4294967295 = 877658112 := by kernel_rfl
  go_enter Try.func53, Try.ntmps53
  go_wp2_with fail
  go_ret2
  exact ⟨rfl, rfl⟩
set_option maxHeartbeats 2000000 in
theorem mul_2 (w : World) : Calls Try.prog 39 #[.int .u64 5910974510923776, .int .u64 10000] w fun e w' => e = .returned (.tuple #[.int .u64 3, .int .u64 3769512888109105152]) ∧ w' = w := by
  have HI := Lib.hid (mul64_2 w)
  go_enter Try.func39, Try.ntmps39
  go_wp2_with fail
  refine HI.out.mono ?_
  rintro e w1 ⟨rfl, rfl⟩
  go_wp2_with fail
  go_ret2
  exact ⟨rfl, rfl⟩
set_option maxHeartbeats 2000000 in
theorem shift_2 (w : World) : Calls Try.prog 40 #[.int .u64 3, .int .u64 3769512888109105152, .int .u64 50] w fun e w' => e = .returned (.tuple #[.int .u64 52500, .bool true]) ∧ w' = w := by
  have b0 : bits .or .u64 49152 3348 = 52500 := by kernel_rfl
  have b1 : bits .and .u64 3769512888109105152 1125899906842623 = 0 := by kernel_rfl
  go_enter Try.func40, Try.ntmps40
  go_wp2_with fail
  go_ret2
  exact ⟨rfl, rfl⟩
theorem nrm_x1 : Nrm 4572414629676717179 := ⟨by kernel_rfl, by kernel_rfl, by kernel_rfl, by kernel_rfl⟩
theorem nrm_x2 : Nrm 4617596992938311680 := ⟨by kernel_rfl, by kernel_rfl, by kernel_rfl, by kernel_rfl⟩
theorem fr_1 : frA 4572414629676717179 = 4603939827068310651 := by kernel_rfl
theorem fr_2 : frA 4617596992938311680 = 4604086194056200192 := by kernel_rfl
theorem nrm_a1 : Nrm 4603939827068310651 := ⟨by kernel_rfl, by kernel_rfl, by kernel_rfl, by kernel_rfl⟩
theorem nrm_a2 : Nrm 4604086194056200192 := ⟨by kernel_rfl, by kernel_rfl, by kernel_rfl, by kernel_rfl⟩
theorem take_1 (w : World) : Calls Try.prog 17 #[.float .f64 4572414629676717179, .int .i64 100] w fun e w' => e = .returned (.tuple #[.int .i64 1, .int .i64 0]) ∧ w' = w :=
  take_calls 4572414629676717179 4842630607318946939 100 1 (-7) 5764607523034235 0 576460752303423500 60 w nrm_x1 (by kernel_rfl) (by decide) (by decide) (by kernel_rfl) (by rw [fr_1]; exact nrm_a1) (by rw [fr_1]; kernel_rfl) (by rw [fr_1]; kernel_rfl) (by kernel_rfl) (by kernel_rfl) (by kernel_rfl) (by decide) mul_1 shift_1 (by decide)
theorem take_2 (w : World) : Calls Try.prog 17 #[.float .f64 4617596992938311680, .int .i64 10000] w fun e w' => e = .returned (.tuple #[.int .i64 52500, .int .i64 0]) ∧ w' = w :=
  take_calls 4617596992938311680 4842776974306836480 10000 52500 3 5910974510923776 3 3769512888109105152 50 w nrm_x2 (by kernel_rfl) (by decide) (by decide) (by kernel_rfl) (by rw [fr_2]; exact nrm_a2) (by rw [fr_2]; kernel_rfl) (by rw [fr_2]; kernel_rfl) (by kernel_rfl) (by kernel_rfl) (by kernel_rfl) (by decide) mul_2 shift_2 (by decide)
/-- Of none there is none; of a nought nothing. -/
theorem take_bad (x : Nat) (S : Int) (w : World) (h : goodR x = false) : Calls Try.prog 17 #[.float .f64 x, .int .i64 S] w fun e w' => e = .returned (.tuple #[.int .i64 0, .int .i64 13]) ∧ w' = w := by
  have HG := Lib.hid (good_calls x w)
  rw [h] at HG
  go_enter Try.func17, Try.ntmps17
  go_wp2_with fail
  refine HG.out.mono ?_
  rintro e w1 ⟨rfl, rfl⟩
  go_wp2_with fail
  go_ret2
  exact ⟨rfl, rfl⟩
theorem take_zero (x : Nat) (w : World) (h : goodR x = true) (hz : isZ x = true) : Calls Try.prog 17 #[.float .f64 x, .int .i64 100] w fun e w' => e = .returned (.tuple #[.int .i64 0, .int .i64 0]) ∧ w' = w := by
  have HG := Lib.hid (good_calls x w)
  rw [h] at HG
  unfold isZ at hz
  go_enter Try.func17, Try.ntmps17
  go_wp2_with fail
  refine HG.out.mono ?_
  rintro e w1 ⟨rfl, rfl⟩
  go_wp2_with fail
  go_ret2
  exact ⟨rfl, rfl⟩
set_option maxHeartbeats 2000000 in
theorem cents_1 (w : World) : Calls Try.prog 8 #[.float .f64 4572414629676717179] w fun e w' => e = .returned (.tuple #[.int .i64 1, .int .i64 0]) ∧ w' = w := by
  have HI := Lib.hid (take_1 w)
  go_enter Try.func8, Try.ntmps8
  go_wp2_with fail
  refine HI.out.mono ?_
  rintro e w1 ⟨rfl, rfl⟩
  go_wp2_with fail
  go_ret2
  exact ⟨rfl, rfl⟩
set_option maxHeartbeats 2000000 in
theorem ppm_2 (w : World) : Calls Try.prog 10 #[.float .f64 4617596992938311680] w fun e w' => e = .returned (.tuple #[.int .i64 52500, .int .i64 0]) ∧ w' = w := by
  have HI := Lib.hid (take_2 w)
  go_enter Try.func10, Try.ntmps10
  go_wp2_with fail
  refine HI.out.mono ?_
  rintro e w1 ⟨rfl, rfl⟩
  go_wp2_with fail
  go_ret2
  exact ⟨rfl, rfl⟩
set_option maxHeartbeats 2000000 in
theorem cents_nan (w : World) : Calls Try.prog 8 #[.float .f64 9221120237041090561] w fun e w' => e = .returned (.tuple #[.int .i64 0, .int .i64 13]) ∧ w' = w := by
  have HI := Lib.hid ((fun w => take_bad 9221120237041090561 100 w (by kernel_rfl)) w)
  go_enter Try.func8, Try.ntmps8
  go_wp2_with fail
  refine HI.out.mono ?_
  rintro e w1 ⟨rfl, rfl⟩
  go_wp2_with fail
  go_ret2
  exact ⟨rfl, rfl⟩
set_option maxHeartbeats 2000000 in
theorem cents_neg0 (w : World) : Calls Try.prog 8 #[.float .f64 9223372036854775808] w fun e w' => e = .returned (.tuple #[.int .i64 0, .int .i64 0]) ∧ w' = w := by
  have HI := Lib.hid ((fun w => take_zero 9223372036854775808 w (by kernel_rfl) (by kernel_rfl)) w)
  go_enter Try.func8, Try.ntmps8
  go_wp2_with fail
  refine HI.out.mono ?_
  rintro e w1 ⟨rfl, rfl⟩
  go_wp2_with fail
  go_ret2
  exact ⟨rfl, rfl⟩
theorem nan_calls (w : World) : Calls Try.prog 13 #[] w fun e w' => e = .returned (.float .f64 9221120237041090561) ∧ w' = w := by
  have h2 := frombits_run
  go_enter Try.func13, Try.ntmps13
  go_wp2_with fail
  go_ret
  exact ⟨rfl, rfl⟩
theorem copy_calls (y : Nat) (w : World) (hy : bits .and .u64 (y : Int) 9223372036854775808 = 9223372036854775808) : Calls Try.prog 32 #[.float .f64 0, .float .f64 y] w fun e w' => e = .returned (.float .f64 9223372036854775808) ∧ w' = w := by
  have h1 := bits_run
  have h2 := frombits_run
  have b1 : bits .andNot .u64 0 9223372036854775808 = 0 := by kernel_rfl
  have b2 : bits .or .u64 0 9223372036854775808 = 9223372036854775808 := by kernel_rfl
  go_enter Try.func32, Try.ntmps32
  go_wp2_with fail
  go_ret
  exact ⟨rfl, rfl⟩
theorem dol5 : dolN 5 = 4587366580439587226 := by kernel_rfl
end Go.Proofs.Yticgmjnilpmkpaa.Re
