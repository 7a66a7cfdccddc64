/- money.Mul, shift, Take at the numbers of wakes; wakes. -/
import Derived.Test.YtadcpdpcpecooaaF3
namespace Go.Proofs.Ytadcpdpcpecooaa.Re
open Go.RowKit

set_option maxRecDepth 20000 in
set_option maxHeartbeats 2000000 in
theorem shift_1 (w : World) : Calls Try.prog 86 #[.int .u64 0, .int .u64 576460752303423500, .int .u64 60] w fun e w' => e = .returned (.tuple #[.int .u64 1, .bool true]) ∧ w' = w := by
  have b0 : bits .or .u64 0 0 = 0 := by kernel_rfl
  have b1 : bits .and .u64 576460752303423500 1152921504606846975 = 576460752303423500 := by kernel_rfl
  go_enter Try.func86, Try.ntmps86
  go_wp2_with fail
  go_ret2
  exact ⟨rfl, rfl⟩
set_option maxRecDepth 20000 in
set_option maxHeartbeats 2000000 in
theorem shift_2 (w : World) : Calls Try.prog 86 #[.int .u64 3, .int .u64 3769512888109105152, .int .u64 50] w fun e w' => e = .returned (.tuple #[.int .u64 52500, .bool true]) ∧ w' = w := by
  have b0 : bits .or .u64 49152 3348 = 52500 := by kernel_rfl
  have b1 : bits .and .u64 3769512888109105152 1125899906842623 = 0 := by kernel_rfl
  go_enter Try.func86, Try.ntmps86
  go_wp2_with fail
  go_ret2
  exact ⟨rfl, rfl⟩
theorem nrm_x1 : Nrm 4572414629676717179 := ⟨by kernel_rfl, by kernel_rfl, by kernel_rfl, by kernel_rfl⟩
theorem nrm_x2 : Nrm 4617596992938311680 := ⟨by kernel_rfl, by kernel_rfl, by kernel_rfl, by kernel_rfl⟩
theorem fr_1 : frA 4572414629676717179 = 4603939827068310651 := by kernel_rfl
theorem fr_2 : frA 4617596992938311680 = 4604086194056200192 := by kernel_rfl
theorem nrm_a1 : Nrm 4603939827068310651 := ⟨by kernel_rfl, by kernel_rfl, by kernel_rfl, by kernel_rfl⟩
theorem nrm_a2 : Nrm 4604086194056200192 := ⟨by kernel_rfl, by kernel_rfl, by kernel_rfl, by kernel_rfl⟩
set_option maxRecDepth 20000 in
/-- Of none there is none; of a nought nothing. -/
theorem take_bad (x : Nat) (S : Int) (w : World) (h : goodR x = false) : Calls Try.prog 78 #[.float .f64 x, .int .i64 S] w fun e w' => e = .returned (.tuple #[.int .i64 0, .int .i64 13]) ∧ w' = w := by
  have HG := Lib.hid (good_calls x w)
  rw [h] at HG
  go_enter Try.func78, Try.ntmps78
  go_wp2_with fail
  refine HG.out.mono ?_
  rintro e w1 ⟨rfl, rfl⟩
  go_wp2_with fail
  go_ret2
  exact ⟨rfl, rfl⟩
set_option maxRecDepth 20000 in
theorem take_zero (x : Nat) (w : World) (h : goodR x = true) (hz : isZ x = true) : Calls Try.prog 78 #[.float .f64 x, .int .i64 100] w fun e w' => e = .returned (.tuple #[.int .i64 0, .int .i64 0]) ∧ w' = w := by
  have HG := Lib.hid (good_calls x w)
  rw [h] at HG
  unfold isZ at hz
  go_enter Try.func78, Try.ntmps78
  go_wp2_with fail
  refine HG.out.mono ?_
  rintro e w1 ⟨rfl, rfl⟩
  go_wp2_with fail
  go_ret2
  exact ⟨rfl, rfl⟩
set_option maxRecDepth 20000 in
set_option maxHeartbeats 2000000 in
theorem cents_nan (w : World) : Calls Try.prog 67 #[.float .f64 9221120237041090561] w fun e w' => e = .returned (.tuple #[.int .i64 0, .int .i64 13]) ∧ w' = w := by
  have HI := Lib.hid ((fun w => take_bad 9221120237041090561 100 w (by kernel_rfl)) w)
  go_enter Try.func67, Try.ntmps67
  go_wp2_with fail
  refine HI.out.mono ?_
  rintro e w1 ⟨rfl, rfl⟩
  go_wp2_with fail
  go_ret2
  exact ⟨rfl, rfl⟩
set_option maxRecDepth 20000 in
set_option maxHeartbeats 2000000 in
theorem cents_neg0 (w : World) : Calls Try.prog 67 #[.float .f64 9223372036854775808] w fun e w' => e = .returned (.tuple #[.int .i64 0, .int .i64 0]) ∧ w' = w := by
  have HI := Lib.hid ((fun w => take_zero 9223372036854775808 w (by kernel_rfl) (by kernel_rfl)) w)
  go_enter Try.func67, Try.ntmps67
  go_wp2_with fail
  refine HI.out.mono ?_
  rintro e w1 ⟨rfl, rfl⟩
  go_wp2_with fail
  go_ret2
  exact ⟨rfl, rfl⟩
set_option maxRecDepth 20000 in
theorem copy_calls (y : Nat) (w : World) (hy : bits .and .u64 (y : Int) 9223372036854775808 = 9223372036854775808) : Calls Try.prog 94 #[.float .f64 0, .float .f64 y] w fun e w' => e = .returned (.float .f64 9223372036854775808) ∧ w' = w := by
  have h1 := bits_run
  have h2 := frombits_run
  have b1 : bits .andNot .u64 0 9223372036854775808 = 0 := by kernel_rfl
  have b2 : bits .or .u64 0 9223372036854775808 = 9223372036854775808 := by kernel_rfl
  go_enter Try.func94, Try.ntmps94
  go_wp2_with fail
  go_ret
  exact ⟨rfl, rfl⟩
end Go.Proofs.Ytadcpdpcpecooaa.Re
