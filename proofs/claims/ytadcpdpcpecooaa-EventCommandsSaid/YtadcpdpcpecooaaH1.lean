/- Cents, Ppm: the program's and the reference's; the walk of RealMoney. -/
import Derived.Test.YtadcpdpcpecooaaH0
namespace Go.Proofs.Ytadcpdpcpecooaa.Re
open Go.RowKit

theorem tk_zero (x : Nat) (S : Int) : (tk x S).2 ≠ 0 → (tk x S).1 = 0 := by
  unfold tk tkN
  intro h
  repeat' split
  all_goals first | rfl | (split at h; all_goals simp_all)
set_option maxRecDepth 20000 in
theorem cents_calls (x : Nat) (w : World) (hx : x < 18446744073709551616) :
    Calls Try.prog 67 #[.float .f64 x] w fun e' w' => e' = .returned (.tuple #[.int .i64 (tk x 100).1, .int .i64 (tk x 100).2]) ∧ w' = w := by
  have HT := Lib.hid (take_all x 100 w hx)
  go_enter Try.func67, Try.ntmps67
  go_wp2_with fail
  refine HT.out.mono ?_
  rintro e w1 ⟨rfl, rfl⟩
  go_wp2_with fail
  go_ret2
  exact ⟨rfl, rfl⟩
set_option maxRecDepth 20000 in
theorem rcents_calls (x : Nat) (w : World) (hx : x < 18446744073709551616) :
    Calls Try.prog 44 #[.float .f64 x] w fun e' w' => e' = .returned (.tuple #[.int .i64 (tk x 100).1, .int .i64 (tk x 100).2]) ∧ Below w.heap.size w w' := by
  have HT := Lib.hid (rtake_all x 100 w hx)
  go_enter Try.func44, Try.ntmps44
  go_wp2_with fail
  refine HT.out.mono ?_
  rintro e w1 ⟨rfl, b1⟩
  go_wp2_with fail
  go_ret2
  exact ⟨rfl, b1⟩
def pm (x : Nat) : Int × Int := if (tk x 10000).2 ≠ 0 then (0, (tk x 10000).2) else if 1000000 < (tk x 10000).1 then (0, 14) else ((tk x 10000).1, 0)
set_option maxRecDepth 20000 in
theorem ppm_calls (x : Nat) (w : World) (hx : x < 18446744073709551616) :
    Calls Try.prog 62 #[.float .f64 x] w fun e' w' => e' = .returned (.tuple #[.int .i64 (pm x).1, .int .i64 (pm x).2]) ∧ w' = w := by
  have HT := Lib.hid (take_all x 10000 w hx)
  unfold pm
  obtain ⟨a, ha⟩ : ∃ a, (tk x 10000).1 = a := ⟨_, rfl⟩
  obtain ⟨b, hb⟩ : ∃ a, (tk x 10000).2 = a := ⟨_, rfl⟩
  rw [ha, hb] at HT ⊢
  clear ha hb
  by_cases h1 : b = 0
  · subst h1
    rw [if_neg (by decide)]
    by_cases h2 : 1000000 < a
    · rw [if_pos h2]
      go_enter Try.func62, Try.ntmps62
      go_wp2_with fail
      refine HT.out.mono ?_
      rintro e w1 ⟨rfl, rfl⟩
      go_wp2_with fail
      go_ret2
      exact ⟨rfl, rfl⟩
    · rw [if_neg h2]
      go_enter Try.func62, Try.ntmps62
      go_wp2_with fail
      refine HT.out.mono ?_
      rintro e w1 ⟨rfl, rfl⟩
      go_wp2_with fail
      go_ret2
      exact ⟨rfl, rfl⟩
  · rw [if_pos h1]
    have hb : (b != 0) = true := by simpa using h1
    go_enter Try.func62, Try.ntmps62
    go_wp2_with fail
    refine HT.out.mono ?_
    rintro e w1 ⟨rfl, rfl⟩
    go_wp2_with fail
    go_ret2
    exact ⟨rfl, rfl⟩
set_option maxRecDepth 20000 in
theorem rppm_calls (x : Nat) (w : World) (hx : x < 18446744073709551616) :
    Calls Try.prog 42 #[.float .f64 x] w fun e' w' => e' = .returned (.tuple #[.int .i64 (pm x).1, .int .i64 (pm x).2]) ∧ Below w.heap.size w w' := by
  have HT := Lib.hid (rtake_all x 10000 w hx)
  have hz := tk_zero x 10000
  unfold pm
  obtain ⟨a, ha⟩ : ∃ a, (tk x 10000).1 = a := ⟨_, rfl⟩
  obtain ⟨b, hb⟩ : ∃ a, (tk x 10000).2 = a := ⟨_, rfl⟩
  rw [ha, hb] at HT hz ⊢
  clear ha hb
  by_cases h1 : b = 0
  · subst h1
    clear hz
    rw [if_neg (by decide)]
    by_cases h2 : 1000000 < a
    · rw [if_pos h2]
      go_enter Try.func42, Try.ntmps42
      go_wp2_with fail
      refine HT.out.mono ?_
      rintro e w1 ⟨rfl, b1⟩
      go_wp2_with fail
      go_ret2
      exact ⟨rfl, b1⟩
    · rw [if_neg h2]
      go_enter Try.func42, Try.ntmps42
      go_wp2_with fail
      refine HT.out.mono ?_
      rintro e w1 ⟨rfl, b1⟩
      go_wp2_with fail
      go_ret2
      exact ⟨rfl, b1⟩
  · rw [if_pos h1]
    obtain rfl := hz h1
    have hb : (b == 0) = false := by simpa using h1
    go_enter Try.func42, Try.ntmps42
    go_wp2_with fail
    refine HT.out.mono ?_
    rintro e w1 ⟨rfl, b1⟩
    go_wp2_with fail
    go_ret2
    exact ⟨rfl, b1⟩
end Go.Proofs.Ytadcpdpcpecooaa.Re
