/- Dollars, Percent: the program's and the reference's. -/
import Derived.Test.YticgmjnilpmkpaaF1
namespace Go.Proofs.Yticgmjnilpmkpaa.Re
open Go.RowKit

def mg (c : Int) : Bool := decide (-10000000000000 ≤ c) && decide (c ≤ 10000000000000)
theorem mgood_calls (c : Int) (w : World) : Calls Try.prog 41 #[.int .i64 c] w fun e w' => e = .returned (.bool (mg c)) ∧ w' = w := by
  unfold mg
  by_cases h1 : -10000000000000 ≤ c
  · have e1 : decide (-10000000000000 ≤ c) = true := by simpa using h1
    rw [e1]
    go_enter Try.func41, Try.ntmps41
    go_wp2_with fail
    go_ret
    exact ⟨by simp, rfl⟩
  · have e1 : decide (-10000000000000 ≤ c) = false := by simpa using h1
    rw [e1]
    go_enter Try.func41, Try.ntmps41
    go_wp2_with fail
    go_ret
    exact ⟨rfl, rfl⟩
theorem rmgood_calls (c : Int) (w : World) : Calls Try.prog 42 #[.int .i64 c] w fun e w' => e = .returned (.bool (mg c)) ∧ w' = w := by
  unfold mg
  by_cases h1 : -10000000000000 ≤ c
  · have e1 : decide (-10000000000000 ≤ c) = true := by simpa using h1
    rw [e1]
    go_enter Try.func42, Try.ntmps42
    go_wp2_with fail
    go_ret
    exact ⟨by simp, rfl⟩
  · have e1 : decide (-10000000000000 ≤ c) = false := by simpa using h1
    rw [e1]
    go_enter Try.func42, Try.ntmps42
    go_wp2_with fail
    go_ret
    exact ⟨rfl, rfl⟩
def dv (c : Int) (K : Nat) : Nat := (floatBits .quo .f64 (floatOfInt .f64 c) K).getD 0
theorem dv_run (c : Int) (K : Nat) (hK : ∃ m i, FloatKind.f64.format.read K = .number false (m + 1) i) (W : World) : (binOp .quo 22 (.float .f64 (floatOfInt .f64 c)) (.float .f64 K)).run Try.prog W = .ok (.float .f64 (dv c K)) W := by
  obtain ⟨r, hr⟩ := div_some c K hK
  have : dv c K = r := by unfold dv; rw [hr]; rfl
  rw [this]
  exact run_float_arith W .quo 22 .f64 _ _ _ hr
def dolN (c : Int) : Nat := if mg c = true then dv c 4636737291354636288 else 0
theorem dol_calls (c : Int) (w : World) : Calls Try.prog 21 #[.int .i64 c] w fun e w' => e = .returned (.float .f64 (dolN c)) ∧ w' = w := by
  have HG := Lib.hid (mgood_calls c w)
  have hq := dv_run c _ read100
  unfold dolN
  obtain ⟨b, hb⟩ : ∃ b, mg c = b := ⟨_, rfl⟩
  rw [hb] at HG ⊢
  obtain ⟨r, hr⟩ : ∃ r, dv c 4636737291354636288 = r := ⟨_, rfl⟩
  rw [hr] at hq ⊢
  clear hb hr
  go_enter Try.func21, Try.ntmps21
  go_wp2_with fail
  refine HG.out.mono ?_
  rintro e w1 ⟨rfl, rfl⟩
  cases b <;>
    (go_wp2_with fail
     go_ret
     exact ⟨rfl, rfl⟩)
theorem rdol_calls (c : Int) (w : World) : Calls Try.prog 22 #[.int .i64 c] w fun e w' => e = .returned (.float .f64 (dolN c)) ∧ w' = w := by
  have HG := Lib.hid (rmgood_calls c w)
  have hq := dv_run c _ read100
  unfold dolN
  obtain ⟨b, hb⟩ : ∃ b, mg c = b := ⟨_, rfl⟩
  rw [hb] at HG ⊢
  obtain ⟨r, hr⟩ : ∃ r, dv c 4636737291354636288 = r := ⟨_, rfl⟩
  rw [hr] at hq ⊢
  clear hb hr
  go_enter Try.func22, Try.ntmps22
  go_wp2_with fail
  refine HG.out.mono ?_
  rintro e w1 ⟨rfl, rfl⟩
  cases b <;>
    (go_wp2_with fail
     go_ret
     exact ⟨rfl, rfl⟩)
def pctN (p : Int) : Nat := if p < 0 then 0 else if 1000000 < p then 0 else dv p 4666723172467343360
theorem pct_calls (p : Int) (w : World) : Calls Try.prog 23 #[.int .i64 p] w fun e w' => e = .returned (.float .f64 (pctN p)) ∧ w' = w := by
  have hq := dv_run p _ read10000
  unfold pctN
  obtain ⟨r, hr⟩ : ∃ r, dv p 4666723172467343360 = r := ⟨_, rfl⟩
  rw [hr] at hq ⊢
  clear hr
  by_cases h1 : p < 0
  · rw [if_pos h1]
    go_enter Try.func23, Try.ntmps23
    go_wp2_with fail
    go_ret
    exact ⟨rfl, rfl⟩
  · rw [if_neg h1]
    by_cases h2 : 1000000 < p
    · rw [if_pos h2]
      go_enter Try.func23, Try.ntmps23
      go_wp2_with fail
      go_ret
      exact ⟨rfl, rfl⟩
    · rw [if_neg h2]
      go_enter Try.func23, Try.ntmps23
      go_wp2_with fail
      go_ret
      exact ⟨rfl, rfl⟩
theorem rpct_calls (p : Int) (w : World) : Calls Try.prog 24 #[.int .i64 p] w fun e w' => e = .returned (.float .f64 (pctN p)) ∧ w' = w := by
  have hq := dv_run p _ read10000
  unfold pctN
  obtain ⟨r, hr⟩ : ∃ r, dv p 4666723172467343360 = r := ⟨_, rfl⟩
  rw [hr] at hq ⊢
  clear hr
  by_cases h1 : p < 0
  · rw [if_pos h1]
    go_enter Try.func24, Try.ntmps24
    go_wp2_with fail
    go_ret
    exact ⟨rfl, rfl⟩
  · rw [if_neg h1]
    by_cases h2 : 1000000 < p
    · rw [if_pos h2]
      go_enter Try.func24, Try.ntmps24
      go_wp2_with fail
      go_ret
      exact ⟨rfl, rfl⟩
    · rw [if_neg h2]
      go_enter Try.func24, Try.ntmps24
      go_wp2_with fail
      go_ret
      exact ⟨rfl, rfl⟩
end Go.Proofs.Yticgmjnilpmkpaa.Re
