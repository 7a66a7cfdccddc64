/- Both calendars walked: long years, days of a month, days ahead of a year, good days. -/
import Derived.Test.YtkifkjgkdfnhcaaDoorV1
import Derived.Test.YtkifkjgkdfnhcaaDoorV2
namespace Go.Proofs.YtkifkjgkdfnhcaaDoor.Vw
open Go.RowKit Go.Sort Go.Lib Go.Shelf

theorem ret_bool {a b : Bool} (h : a = b) : Ending.returned (.bool a) = .returned (.bool b) := by rw [h]
set_option maxRecDepth 20000 in
theorem long_calls (y : Int) (h0 : 0 ≤ y) (h1 : y ≤ 3000) (w : World) : Calls Tryd.prog 59 #[.int .i64 y] w fun e w' => e = .returned (.bool (longB y)) ∧ w' = w := by
  unfold longB
  obtain ⟨a, ha⟩ : ∃ x, (y % 4 == 0) = x := ⟨_, rfl⟩
  obtain ⟨b, hb⟩ : ∃ x, (y % 100 != 0) = x := ⟨_, rfl⟩
  obtain ⟨c, hc⟩ : ∃ x, (y % 400 == 0) = x := ⟨_, rfl⟩
  rw [ha, hb, hc]
  cases a <;> cases b <;> cases c <;>
    (go_enter Tryd.func59, Tryd.ntmps59
     go_wp2_with fail
     go_ret
     exact ⟨rfl, rfl⟩)
set_option maxRecDepth 20000 in
theorem rlong_calls (y : Int) (h0 : 0 ≤ y) (h1 : y ≤ 3000) (w : World) : Calls Tryd.prog 60 #[.int .i64 y] w fun e w' => e = .returned (.bool (longB y)) ∧ w' = w := by
  have hz : (y % 4 == 0) = false → (y % 400 == 0) = false := fun h => by
    have h2 : ¬ y % 4 = 0 := by simpa using h
    simp
    omega
  unfold longB
  obtain ⟨a, ha⟩ : ∃ x, (y % 4 == 0) = x := ⟨_, rfl⟩
  obtain ⟨b, hb⟩ : ∃ x, (y % 100 != 0) = x := ⟨_, rfl⟩
  obtain ⟨c, hc⟩ : ∃ x, (y % 400 == 0) = x := ⟨_, rfl⟩
  rw [ha, hc] at hz
  rw [ha, hb, hc]
  have HZ := Lib.hid hz
  clear hz
  cases a <;> cases b <;> cases c <;> first
    | exact absurd (HZ.out rfl) (by decide)
    | (go_enter Tryd.func60, Tryd.ntmps60
       go_wp2_with fail
       go_ret
       exact ⟨rfl, rfl⟩)
set_option maxRecDepth 20000 in
set_option maxHeartbeats 4000000 in
theorem days_calls (y m : Int) (h0 : 0 ≤ y) (h1 : y ≤ 3000) (hm : 1 ≤ m ∧ m ≤ 12) (w : World) : Calls Tryd.prog 41 #[.int .i64 y, .int .i64 m] w fun e w' => e = .returned (.int .i64 (mdN y m)) ∧ w' = w := by
  have HL := Lib.hid (fun W => long_calls y h0 h1 W)
  have h12 : m = 1 ∨ m = 2 ∨ m = 3 ∨ m = 4 ∨ m = 5 ∨ m = 6 ∨ m = 7 ∨ m = 8 ∨ m = 9 ∨ m = 10 ∨ m = 11 ∨ m = 12 := by omega
  rcases h12 with rfl | rfl | rfl | rfl | rfl | rfl | rfl | rfl | rfl | rfl | rfl | rfl
  · have hi : ∀ W, (Instr.index 96 (.agg #[.int .i64 0, .int .i64 31, .int .i64 28, .int .i64 31, .int .i64 30, .int .i64 31, .int .i64 30, .int .i64 31, .int .i64 31, .int .i64 30, .int .i64 31, .int .i64 30, .int .i64 31]) (.int .i64 1)).run Tryd.prog W = .ok (.int .i64 31) W := fun W => by kernel_rfl
    go_enter Tryd.func41, Tryd.ntmps41
    go_wp2_with fail
    go_ret
    exact ⟨rfl, rfl⟩
  · have hi : ∀ W, (Instr.index 96 (.agg #[.int .i64 0, .int .i64 31, .int .i64 28, .int .i64 31, .int .i64 30, .int .i64 31, .int .i64 30, .int .i64 31, .int .i64 31, .int .i64 30, .int .i64 31, .int .i64 30, .int .i64 31]) (.int .i64 2)).run Tryd.prog W = .ok (.int .i64 28) W := fun W => by kernel_rfl
    have HD : Hid (mdN y 2 = if longB y then 29 else 28) := Lib.hid rfl
    generalize longB y = l at *
    cases l
    · go_enter Tryd.func41, Tryd.ntmps41
      go_wp2_with fail
      refine (HL.out _).mono ?_
      rintro e w1 ⟨rfl, rfl⟩
      go_wp2_with fail
      go_ret
      exact ⟨by rw [HD.out]; rfl, rfl⟩
    · go_enter Tryd.func41, Tryd.ntmps41
      go_wp2_with fail
      refine (HL.out _).mono ?_
      rintro e w1 ⟨rfl, rfl⟩
      go_wp2_with fail
      go_ret
      exact ⟨by rw [HD.out]; rfl, rfl⟩
  · have hi : ∀ W, (Instr.index 96 (.agg #[.int .i64 0, .int .i64 31, .int .i64 28, .int .i64 31, .int .i64 30, .int .i64 31, .int .i64 30, .int .i64 31, .int .i64 31, .int .i64 30, .int .i64 31, .int .i64 30, .int .i64 31]) (.int .i64 3)).run Tryd.prog W = .ok (.int .i64 31) W := fun W => by kernel_rfl
    go_enter Tryd.func41, Tryd.ntmps41
    go_wp2_with fail
    go_ret
    exact ⟨rfl, rfl⟩
  · have hi : ∀ W, (Instr.index 96 (.agg #[.int .i64 0, .int .i64 31, .int .i64 28, .int .i64 31, .int .i64 30, .int .i64 31, .int .i64 30, .int .i64 31, .int .i64 31, .int .i64 30, .int .i64 31, .int .i64 30, .int .i64 31]) (.int .i64 4)).run Tryd.prog W = .ok (.int .i64 30) W := fun W => by kernel_rfl
    go_enter Tryd.func41, Tryd.ntmps41
    go_wp2_with fail
    go_ret
    exact ⟨rfl, rfl⟩
  · have hi : ∀ W, (Instr.index 96 (.agg #[.int .i64 0, .int .i64 31, .int .i64 28, .int .i64 31, .int .i64 30, .int .i64 31, .int .i64 30, .int .i64 31, .int .i64 31, .int .i64 30, .int .i64 31, .int .i64 30, .int .i64 31]) (.int .i64 5)).run Tryd.prog W = .ok (.int .i64 31) W := fun W => by kernel_rfl
    go_enter Tryd.func41, Tryd.ntmps41
    go_wp2_with fail
    go_ret
    exact ⟨rfl, rfl⟩
  · have hi : ∀ W, (Instr.index 96 (.agg #[.int .i64 0, .int .i64 31, .int .i64 28, .int .i64 31, .int .i64 30, .int .i64 31, .int .i64 30, .int .i64 31, .int .i64 31, .int .i64 30, .int .i64 31, .int .i64 30, .int .i64 31]) (.int .i64 6)).run Tryd.prog W = .ok (.int .i64 30) W := fun W => by kernel_rfl
    go_enter Tryd.func41, Tryd.ntmps41
    go_wp2_with fail
    go_ret
    exact ⟨rfl, rfl⟩
  · have hi : ∀ W, (Instr.index 96 (.agg #[.int .i64 0, .int .i64 31, .int .i64 28, .int .i64 31, .int .i64 30, .int .i64 31, .int .i64 30, .int .i64 31, .int .i64 31, .int .i64 30, .int .i64 31, .int .i64 30, .int .i64 31]) (.int .i64 7)).run Tryd.prog W = .ok (.int .i64 31) W := fun W => by kernel_rfl
    go_enter Tryd.func41, Tryd.ntmps41
    go_wp2_with fail
    go_ret
    exact ⟨rfl, rfl⟩
  · have hi : ∀ W, (Instr.index 96 (.agg #[.int .i64 0, .int .i64 31, .int .i64 28, .int .i64 31, .int .i64 30, .int .i64 31, .int .i64 30, .int .i64 31, .int .i64 31, .int .i64 30, .int .i64 31, .int .i64 30, .int .i64 31]) (.int .i64 8)).run Tryd.prog W = .ok (.int .i64 31) W := fun W => by kernel_rfl
    go_enter Tryd.func41, Tryd.ntmps41
    go_wp2_with fail
    go_ret
    exact ⟨rfl, rfl⟩
  · have hi : ∀ W, (Instr.index 96 (.agg #[.int .i64 0, .int .i64 31, .int .i64 28, .int .i64 31, .int .i64 30, .int .i64 31, .int .i64 30, .int .i64 31, .int .i64 31, .int .i64 30, .int .i64 31, .int .i64 30, .int .i64 31]) (.int .i64 9)).run Tryd.prog W = .ok (.int .i64 30) W := fun W => by kernel_rfl
    go_enter Tryd.func41, Tryd.ntmps41
    go_wp2_with fail
    go_ret
    exact ⟨rfl, rfl⟩
  · have hi : ∀ W, (Instr.index 96 (.agg #[.int .i64 0, .int .i64 31, .int .i64 28, .int .i64 31, .int .i64 30, .int .i64 31, .int .i64 30, .int .i64 31, .int .i64 31, .int .i64 30, .int .i64 31, .int .i64 30, .int .i64 31]) (.int .i64 10)).run Tryd.prog W = .ok (.int .i64 31) W := fun W => by kernel_rfl
    go_enter Tryd.func41, Tryd.ntmps41
    go_wp2_with fail
    go_ret
    exact ⟨rfl, rfl⟩
  · have hi : ∀ W, (Instr.index 96 (.agg #[.int .i64 0, .int .i64 31, .int .i64 28, .int .i64 31, .int .i64 30, .int .i64 31, .int .i64 30, .int .i64 31, .int .i64 31, .int .i64 30, .int .i64 31, .int .i64 30, .int .i64 31]) (.int .i64 11)).run Tryd.prog W = .ok (.int .i64 30) W := fun W => by kernel_rfl
    go_enter Tryd.func41, Tryd.ntmps41
    go_wp2_with fail
    go_ret
    exact ⟨rfl, rfl⟩
  · have hi : ∀ W, (Instr.index 96 (.agg #[.int .i64 0, .int .i64 31, .int .i64 28, .int .i64 31, .int .i64 30, .int .i64 31, .int .i64 30, .int .i64 31, .int .i64 31, .int .i64 30, .int .i64 31, .int .i64 30, .int .i64 31]) (.int .i64 12)).run Tryd.prog W = .ok (.int .i64 31) W := fun W => by kernel_rfl
    go_enter Tryd.func41, Tryd.ntmps41
    go_wp2_with fail
    go_ret
    exact ⟨rfl, rfl⟩
set_option maxRecDepth 20000 in
set_option maxHeartbeats 4000000 in
theorem rdays_calls (y m : Int) (h0 : 0 ≤ y) (h1 : y ≤ 3000) (hm : 1 ≤ m ∧ m ≤ 12) (w : World) : Calls Tryd.prog 43 #[.int .i64 y, .int .i64 m] w fun e w' => e = .returned (.int .i64 (mdN y m)) ∧ w' = w := by
  have HL := Lib.hid (fun W => rlong_calls y h0 h1 W)
  have h12 : m = 1 ∨ m = 2 ∨ m = 3 ∨ m = 4 ∨ m = 5 ∨ m = 6 ∨ m = 7 ∨ m = 8 ∨ m = 9 ∨ m = 10 ∨ m = 11 ∨ m = 12 := by omega
  clear hm
  rcases h12 with rfl | rfl | rfl | rfl | rfl | rfl | rfl | rfl | rfl | rfl | rfl | rfl
  · go_enter Tryd.func43, Tryd.ntmps43
    go_wp2_with fail
    go_ret
    exact ⟨rfl, rfl⟩
  · have HD : Hid (mdN y 2 = if longB y then 29 else 28) := Lib.hid rfl
    generalize longB y = l at *
    cases l
    · go_enter Tryd.func43, Tryd.ntmps43
      go_wp2_with fail
      refine (HL.out _).mono ?_
      rintro e w1 ⟨rfl, rfl⟩
      go_wp2_with fail
      go_ret
      exact ⟨by rw [HD.out]; rfl, rfl⟩
    · go_enter Tryd.func43, Tryd.ntmps43
      go_wp2_with fail
      refine (HL.out _).mono ?_
      rintro e w1 ⟨rfl, rfl⟩
      go_wp2_with fail
      go_ret
      exact ⟨by rw [HD.out]; rfl, rfl⟩
  · go_enter Tryd.func43, Tryd.ntmps43
    go_wp2_with fail
    go_ret
    exact ⟨rfl, rfl⟩
  · go_enter Tryd.func43, Tryd.ntmps43
    go_wp2_with fail
    go_ret
    exact ⟨rfl, rfl⟩
  · go_enter Tryd.func43, Tryd.ntmps43
    go_wp2_with fail
    go_ret
    exact ⟨rfl, rfl⟩
  · go_enter Tryd.func43, Tryd.ntmps43
    go_wp2_with fail
    go_ret
    exact ⟨rfl, rfl⟩
  · go_enter Tryd.func43, Tryd.ntmps43
    go_wp2_with fail
    go_ret
    exact ⟨rfl, rfl⟩
  · go_enter Tryd.func43, Tryd.ntmps43
    go_wp2_with fail
    go_ret
    exact ⟨rfl, rfl⟩
  · go_enter Tryd.func43, Tryd.ntmps43
    go_wp2_with fail
    go_ret
    exact ⟨rfl, rfl⟩
  · go_enter Tryd.func43, Tryd.ntmps43
    go_wp2_with fail
    go_ret
    exact ⟨rfl, rfl⟩
  · go_enter Tryd.func43, Tryd.ntmps43
    go_wp2_with fail
    go_ret
    exact ⟨rfl, rfl⟩
  · go_enter Tryd.func43, Tryd.ntmps43
    go_wp2_with fail
    go_ret
    exact ⟨rfl, rfl⟩
def goodD (n : Int) : Bool := decide (0 ≤ n) && decide (n ≤ 87658)
set_option maxRecDepth 20000 in
theorem gday_calls (n : Int) (w : World) : Calls Tryd.prog 39 #[.int .i64 n] w fun e w' => e = .returned (.bool (goodD n)) ∧ w' = w := by
  unfold goodD
  by_cases h1 : 0 ≤ n <;> by_cases h2 : n ≤ 87658 <;>
    (go_enter Tryd.func39, Tryd.ntmps39
     go_wp2_with fail
     go_ret
     exact ⟨ret_bool (by simp [h1, h2]), rfl⟩)
set_option maxRecDepth 20000 in
theorem rgday_calls (n : Int) (w : World) : Calls Tryd.prog 42 #[.int .i64 n] w fun e w' => e = .returned (.bool (goodD n)) ∧ w' = w := by
  unfold goodD
  by_cases h1 : 0 ≤ n <;> by_cases h2 : n ≤ 87658 <;>
    (go_enter Tryd.func42, Tryd.ntmps42
     go_wp2_with fail
     go_ret
     exact ⟨ret_bool (by simp [h1, h2]), rfl⟩)
set_option maxRecDepth 20000 in
theorem lg_calls (y : Int) (h0 : 0 ≤ y) (h1 : y ≤ 3000) (w : World) : Calls Tryd.prog 58 #[.int .i64 y] w fun e w' => e = .returned (.int .i64 (lg y)) ∧ w' = w := by
  go_enter Tryd.func58, Tryd.ntmps58
  go_wp2_with fail
  go_ret
  exact ⟨rfl, rfl⟩
set_option maxRecDepth 20000 in
theorem years_calls (y : Int) (h0 : 1960 ≤ y) (h1 : y ≤ 2300) (w : World) : Calls Tryd.prog 40 #[.int .i64 y] w fun e w' => e = .returned (.int .i64 (yr y)) ∧ w' = w := by
  have HA := Lib.hid (fun W => lg_calls (y - 1) (by omega) (by omega) W)
  have HB : Hid (∀ W, Calls Tryd.prog 58 #[.int .i64 1959] W fun e w' => e = .returned (.int .i64 474) ∧ w' = W) := Lib.hid (fun W => lg_calls 1959 (by omega) (by omega) W)
  have HY : Hid (yr y = (y - 1960) * 365 + lg (y - 1) - 474) := Lib.hid rfl
  have hl : 0 ≤ lg (y - 1) ∧ lg (y - 1) ≤ 1000 := by unfold lg; omega
  generalize lg (y - 1) = L at *
  go_enter Tryd.func40, Tryd.ntmps40
  go_wp2_with fail
  refine (HA.out _).mono ?_
  rintro e w1 ⟨rfl, rfl⟩
  go_wp2_with fail
  refine (HB.out _).mono ?_
  rintro e w1 ⟨rfl, rfl⟩
  go_wp2_with fail
  go_ret
  exact ⟨by rw [HY.out]; rfl, rfl⟩
end Go.Proofs.YtkifkjgkdfnhcaaDoor.Vw
