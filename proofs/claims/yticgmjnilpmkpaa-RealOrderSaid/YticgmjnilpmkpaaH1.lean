/- Cents, Ppm: the program's and the reference's; the walk of RealMoney. -/
import Derived.Test.YticgmjnilpmkpaaH0
namespace Go.Proofs.Yticgmjnilpmkpaa.Re
open Go.RowKit

theorem tk_zero (x : Nat) (S : Int) : (tk x S).2 ≠ 0 → (tk x S).1 = 0 := by
  unfold tk tkN
  intro h
  repeat' split
  all_goals first | rfl | (split at h; all_goals simp_all)
theorem cents_calls (x : Nat) (w : World) (hx : x < 18446744073709551616) :
    Calls Try.prog 8 #[.float .f64 x] w fun e' w' => e' = .returned (.tuple #[.int .i64 (tk x 100).1, .int .i64 (tk x 100).2]) ∧ w' = w := by
  have HT := Lib.hid (take_all x 100 w hx)
  go_enter Try.func8, Try.ntmps8
  go_wp2_with fail
  refine HT.out.mono ?_
  rintro e w1 ⟨rfl, rfl⟩
  go_wp2_with fail
  go_ret2
  exact ⟨rfl, rfl⟩
theorem rcents_calls (x : Nat) (w : World) (hx : x < 18446744073709551616) :
    Calls Try.prog 9 #[.float .f64 x] w fun e' w' => e' = .returned (.tuple #[.int .i64 (tk x 100).1, .int .i64 (tk x 100).2]) ∧ Below w.heap.size w w' := by
  have HT := Lib.hid (rtake_all x 100 w hx)
  go_enter Try.func9, Try.ntmps9
  go_wp2_with fail
  refine HT.out.mono ?_
  rintro e w1 ⟨rfl, b1⟩
  go_wp2_with fail
  go_ret2
  exact ⟨rfl, b1⟩
def pm (x : Nat) : Int × Int := if (tk x 10000).2 ≠ 0 then (0, (tk x 10000).2) else if 1000000 < (tk x 10000).1 then (0, 14) else ((tk x 10000).1, 0)
theorem ppm_calls (x : Nat) (w : World) (hx : x < 18446744073709551616) :
    Calls Try.prog 10 #[.float .f64 x] w fun e' w' => e' = .returned (.tuple #[.int .i64 (pm x).1, .int .i64 (pm x).2]) ∧ w' = w := by
  have HT := Lib.hid (take_all x 10000 w hx)
  unfold pm
  obtain ⟨a, ha⟩ : ∃ a, (tk x 10000).1 = a := ⟨_, rfl⟩
  obtain ⟨b, hb⟩ : ∃ a, (tk x 10000).2 = a := ⟨_, rfl⟩
  rw [ha, hb] at HT ⊢
  clear ha hb
  by_cases h1 : b = 0
  · subst h1
    rw [if_neg (by decide)]
    by_cases h2 : 1000000 < a
    · rw [if_pos h2]
      go_enter Try.func10, Try.ntmps10
      go_wp2_with fail
      refine HT.out.mono ?_
      rintro e w1 ⟨rfl, rfl⟩
      go_wp2_with fail
      go_ret2
      exact ⟨rfl, rfl⟩
    · rw [if_neg h2]
      go_enter Try.func10, Try.ntmps10
      go_wp2_with fail
      refine HT.out.mono ?_
      rintro e w1 ⟨rfl, rfl⟩
      go_wp2_with fail
      go_ret2
      exact ⟨rfl, rfl⟩
  · rw [if_pos h1]
    have hb : (b != 0) = true := by simpa using h1
    go_enter Try.func10, Try.ntmps10
    go_wp2_with fail
    refine HT.out.mono ?_
    rintro e w1 ⟨rfl, rfl⟩
    go_wp2_with fail
    go_ret2
    exact ⟨rfl, rfl⟩
theorem rppm_calls (x : Nat) (w : World) (hx : x < 18446744073709551616) :
    Calls Try.prog 11 #[.float .f64 x] w fun e' w' => e' = .returned (.tuple #[.int .i64 (pm x).1, .int .i64 (pm x).2]) ∧ Below w.heap.size w w' := by
  have HT := Lib.hid (rtake_all x 10000 w hx)
  have hz := tk_zero x 10000
  unfold pm
  obtain ⟨a, ha⟩ : ∃ a, (tk x 10000).1 = a := ⟨_, rfl⟩
  obtain ⟨b, hb⟩ : ∃ a, (tk x 10000).2 = a := ⟨_, rfl⟩
  rw [ha, hb] at HT hz ⊢
  clear ha hb
  by_cases h1 : b = 0
  · subst h1
    clear hz
    rw [if_neg (by decide)]
    by_cases h2 : 1000000 < a
    · rw [if_pos h2]
      go_enter Try.func11, Try.ntmps11
      go_wp2_with fail
      refine HT.out.mono ?_
      rintro e w1 ⟨rfl, b1⟩
      go_wp2_with fail
      go_ret2
      exact ⟨rfl, b1⟩
    · rw [if_neg h2]
      go_enter Try.func11, Try.ntmps11
      go_wp2_with fail
      refine HT.out.mono ?_
      rintro e w1 ⟨rfl, b1⟩
      go_wp2_with fail
      go_ret2
      exact ⟨rfl, b1⟩
  · rw [if_pos h1]
    obtain rfl := hz h1
    have hb : (b == 0) = false := by simpa using h1
    go_enter Try.func11, Try.ntmps11
    go_wp2_with fail
    refine HT.out.mono ?_
    rintro e w1 ⟨rfl, b1⟩
    go_wp2_with fail
    go_ret2
    exact ⟨rfl, b1⟩
theorem money_walk (x : Nat) (w : World) (hx : x < 18446744073709551616) :
    Calls Try.prog 3 #[.float .f64 x] w fun e w' => e = .returned (.bool true) ∧ Below w.heap.size w w' := by
  have H1 := Lib.hid (fun W => cents_calls x W hx)
  have H2 := Lib.hid (fun W => rcents_calls x W hx)
  have H3 := Lib.hid (fun W => ppm_calls x W hx)
  have H4 := Lib.hid (fun W => rppm_calls x W hx)
  generalize tk x 100 = a at *
  generalize pm x = b at *
  have h1 : (a.1 == a.1) = true := by simp
  have h2 : (a.2 == a.2) = true := by simp
  have h3 : (b.1 == b.1) = true := by simp
  have h4 : (b.2 == b.2) = true := by simp
  go_enter Try.func3, Try.ntmps3
  go_wp2_with fail
  refine (H1.out _).mono ?_
  rintro e w1 ⟨rfl, rfl⟩
  go_wp2_with fail
  refine (H2.out _).mono ?_
  rintro e w2 ⟨rfl, b2⟩
  have B2 := Lib.hid b2
  clear b2
  go_wp2_with fail
  refine (H3.out _).mono ?_
  rintro e w3 ⟨rfl, rfl⟩
  go_wp2_with fail
  refine (H4.out _).mono ?_
  rintro e w4 ⟨rfl, b4⟩
  have B4 := Lib.hid (B2.out.trans (b4.mono B2.out.size))
  clear b4
  go_wp2_with fail
  refine (wakes_calls _).mono ?_
  rintro e w5 ⟨rfl, rfl⟩
  go_wp2_with fail
  go_ret
  exact ⟨rfl, B4.out⟩
end Go.Proofs.Yticgmjnilpmkpaa.Re
