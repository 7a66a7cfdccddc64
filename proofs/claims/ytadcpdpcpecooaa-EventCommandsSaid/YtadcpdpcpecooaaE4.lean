/- The reference's Has, Only, minus. -/
import Derived.Test.YtadcpdpcpecooaaE1
import Derived.Deep.CutRange
namespace Go.Proofs.Ytadcpdpcpecooaa.Ev
open Go.RowKit Go.Proofs.Ytadcpdpcpecooaa.Pk Go.Proofs.Ytadcpdpcpecooaa.Re

/-- The letters of a kind's fields: the reference's. -/
def hasR (k : Int) : ByteArray :=
  if k = 1 then ⟨#[76, 65, 82, 83]⟩ else if k = 2 then ⟨#[76, 84]⟩ else if k = 3 then ⟨#[65]⟩ else if k = 4 then ⟨#[76, 65]⟩ else if k = 5 then ⟨#[80]⟩ else if k = 7 then ⟨#[76]⟩ else if k = 8 then ⟨#[76]⟩ else ByteArray.empty
set_option maxRecDepth 20000 in
theorem has_calls (k : Int) (w : World) : Calls Try.prog 41 #[.int .i64 k] w fun e w' => e = .returned (.string (hasR k)) ∧ w' = w := by
  go_enter Try.func41, Try.ntmps41
  go_wp2
  all_goals go_ret
  all_goals refine ⟨?_, rfl⟩
  all_goals (unfold hasR; simp_all; try rfl)
theorem minus_calls (x : Nat) (w : World) (hx : x < 18446744073709551616) : Calls Try.prog 43 #[.float .f64 x] w fun e w' => e = .returned (.bool (isZ x && decide (9223372036854775808 ≤ x))) ∧ w' = w := by
  have h1 := bits_run
  have HS : ∀ W, Calls Try.prog 70 #[.float .f64 x] W fun e w' => e = .returned (.bool (decide (9223372036854775808 ≤ x))) ∧ w' = W := by
    intro W
    have hw : wrap64 (x : Int) = if 9223372036854775808 ≤ x then (x : Int) - 18446744073709551616 else (x : Int) := by
      split
      · unfold wrap64; omega
      · exact wr64 _ (by omega)
    by_cases c : 9223372036854775808 ≤ x
    · rw [if_pos c] at hw
      go_enter Try.func70, Try.ntmps70
      go_wp2_with fail
      go_ret
      exact ⟨ret_bool (by simp; omega), rfl⟩
    · rw [if_neg c] at hw
      go_enter Try.func70, Try.ntmps70
      go_wp2_with fail
      go_ret
      exact ⟨ret_bool (by simp; omega), rfl⟩
  have HS := Lib.hid HS
  obtain ⟨b, hb⟩ : ∃ b, isZ x = b := ⟨_, rfl⟩
  rw [hb]
  unfold isZ at hb
  go_enter Try.func43, Try.ntmps43
  cases b
  · go_wp2_with fail
    go_ret
    exact ⟨rfl, rfl⟩
  · go_wp2_with fail
    refine (HS.out _).mono ?_
    rintro r w1 ⟨rfl, rfl⟩
    go_wp2_with fail
    go_ret
    exact ⟨ret_bool (by simp), rfl⟩
end Go.Proofs.Ytadcpdpcpecooaa.Ev
