/- Mul64, in general. -/
import Derived.Test.YtadcpdpcpecooaaG1
import Derived.Laws.MathBits
namespace Go.Proofs.Ytadcpdpcpecooaa.Re
open Go.RowKit

theorem and32 (T : Int) (h0 : 0 ≤ T) (h1 : T < 18446744073709551616) : bits .and .u64 T 4294967295 = T % 4294967296 := by
  obtain ⟨a, rfl⟩ : ∃ a : Nat, T = (a : Int) := ⟨T.toNat, by omega⟩
  have := bits_and_u64_nat a 4294967295 (by omega) (by decide)
  rw [show (4294967295 : Nat) = 2 ^ 32 - 1 by decide, Nat.and_two_pow_sub_one_eq_mod] at this
  simpa using this
theorem mul_hi (x y : Nat) (hx : x < 18446744073709551616) (hy : y < 18446744073709551616) :
    IntKind.u64.wrap (IntKind.u64.wrap (IntKind.u64.wrap ((x : Int) / 4294967296 * ((y : Int) / 4294967296)) + IntKind.u64.wrap (IntKind.u64.wrap ((x : Int) / 4294967296 * ((y : Int) % 4294967296)) + IntKind.u64.wrap ((x : Int) % 4294967296 * ((y : Int) % 4294967296)) / 4294967296) / 4294967296) +
      IntKind.u64.wrap (bits .and .u64 (IntKind.u64.wrap (IntKind.u64.wrap ((x : Int) / 4294967296 * ((y : Int) % 4294967296)) + IntKind.u64.wrap ((x : Int) % 4294967296 * ((y : Int) % 4294967296)) / 4294967296)) 4294967295 + IntKind.u64.wrap ((x : Int) % 4294967296 * ((y : Int) / 4294967296))) / 4294967296) = ((x * y / 18446744073709551616 : Nat) : Int) := by
  have key := mul64_arith (x : Int) (y : Int) (by omega) (by omega) (by omega) (by omega)
  rw [and32 _ (by rw [IntKind.wrap_u64]; omega) (by rw [IntKind.wrap_u64]; omega)]
  simp only [IntKind.wrap_u64]
  rw [key]
  simp
set_option maxRecDepth 20000 in
set_option maxHeartbeats 4000000 in
theorem mul64_calls (x y : Nat) (w : World) (hx : x < 18446744073709551616) (hy : y < 18446744073709551616) :
    Calls Try.prog 91 #[.int .u64 (x : Int), .int .u64 (y : Int)] w fun e w' => e = .returned (.tuple #[.int .u64 ((x * y / 18446744073709551616 : Nat) : Int), .int .u64 ((x * y % 18446744073709551616 : Nat) : Int)]) ∧ w' = w := by
  have b1 : bits .and .u64 (x : Int) 4294967295 = (x : Int) % 4294967296 := and32 _ (by omega) (by omega)
  have b2 : bits .and .u64 (y : Int) 4294967295 = (y : Int) % 4294967296 := and32 _ (by omega) (by omega)
  have HH := Lib.hid (mul_hi x y hx hy)
  have HL : Hid (IntKind.u64.wrap ((x : Int) * (y : Int)) = ((x * y % 18446744073709551616 : Nat) : Int)) := Lib.hid (by rw [IntKind.wrap_u64]; simp)
  go_enter Try.func91, Try.ntmps91
  go_wp2_with fail
  go_ret2
  refine ⟨?_, rfl⟩
  show Ending.returned (.tuple #[.int .u64 (IntKind.u64.wrap _), .int .u64 (IntKind.u64.wrap _)]) = _
  rw [HH.out, HL.out]
set_option maxRecDepth 20000 in
theorem mul_calls (x y : Nat) (w : World) (hx : x < 18446744073709551616) (hy : y < 18446744073709551616) :
    Calls Try.prog 85 #[.int .u64 (x : Int), .int .u64 (y : Int)] w fun e w' => e = .returned (.tuple #[.int .u64 ((x * y / 18446744073709551616 : Nat) : Int), .int .u64 ((x * y % 18446744073709551616 : Nat) : Int)]) ∧ w' = w := by
  have HM := Lib.hid (mul64_calls x y w hx hy)
  obtain ⟨a, ha⟩ : ∃ a, x * y / 18446744073709551616 = a := ⟨_, rfl⟩
  obtain ⟨b, hb⟩ : ∃ a, x * y % 18446744073709551616 = a := ⟨_, rfl⟩
  rw [ha, hb] at HM ⊢
  clear ha hb
  go_enter Try.func85, Try.ntmps85
  go_wp2_with fail
  refine HM.out.mono ?_
  rintro e w1 ⟨rfl, rfl⟩
  go_wp2_with fail
  go_ret2
  exact ⟨rfl, rfl⟩
end Go.Proofs.Ytadcpdpcpecooaa.Re
