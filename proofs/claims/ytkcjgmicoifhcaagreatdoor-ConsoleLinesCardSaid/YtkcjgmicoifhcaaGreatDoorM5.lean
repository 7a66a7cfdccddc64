/- Texts joined: V3 V4 V5 P0 P1. -/
import Derived.Test.YtkcjgmicoifhcaaGreatDoorM4
import Derived.Lib.ItoaNum
import Derived.Lib.ItoaLen
import Derived.Lib.ParseIntB
import Derived.Lib.Hide
import GoSem.Op.String

/- V3: Both calendars walked: long years, days of a month, days ahead of a year, good days. -/
namespace Go.Proofs.YtkcjgmicoifhcaaGreatDoor.Vw
open Go.RowKit Go.Sort Go.Lib Go.Shelf

theorem ret_bool {a b : Bool} (h : a = b) : Ending.returned (.bool a) = .returned (.bool b) := by rw [h]
set_option maxRecDepth 20000 in
theorem long_calls (y : Int) (h0 : 0 ≤ y) (h1 : y ≤ 3000) (w : World) : Calls Tryz.prog 113 #[.int .i64 y] w fun e w' => e = .returned (.bool (longB y)) ∧ w' = w := by
  unfold longB
  obtain ⟨a, ha⟩ : ∃ x, (y % 4 == 0) = x := ⟨_, rfl⟩
  obtain ⟨b, hb⟩ : ∃ x, (y % 100 != 0) = x := ⟨_, rfl⟩
  obtain ⟨c, hc⟩ : ∃ x, (y % 400 == 0) = x := ⟨_, rfl⟩
  rw [ha, hb, hc]
  cases a <;> cases b <;> cases c <;>
    (go_enter Tryz.func113, Tryz.ntmps113
     go_wp2_with fail
     go_ret
     exact ⟨rfl, rfl⟩)
set_option maxRecDepth 20000 in
theorem rlong_calls (y : Int) (h0 : 0 ≤ y) (h1 : y ≤ 3000) (w : World) : Calls Tryz.prog 129 #[.int .i64 y] w fun e w' => e = .returned (.bool (longB y)) ∧ w' = w := by
  have hz : (y % 4 == 0) = false → (y % 400 == 0) = false := fun h => by
    have h2 : ¬ y % 4 = 0 := by simpa using h
    simp
    omega
  unfold longB
  obtain ⟨a, ha⟩ : ∃ x, (y % 4 == 0) = x := ⟨_, rfl⟩
  obtain ⟨b, hb⟩ : ∃ x, (y % 100 != 0) = x := ⟨_, rfl⟩
  obtain ⟨c, hc⟩ : ∃ x, (y % 400 == 0) = x := ⟨_, rfl⟩
  rw [ha, hc] at hz
  rw [ha, hb, hc]
  have HZ := Lib.hid hz
  clear hz
  cases a <;> cases b <;> cases c <;> first
    | exact absurd (HZ.out rfl) (by decide)
    | (go_enter Tryz.func129, Tryz.ntmps129
       go_wp2_with fail
       go_ret
       exact ⟨rfl, rfl⟩)
set_option maxRecDepth 20000 in
set_option maxHeartbeats 4000000 in
theorem days_calls (y m : Int) (h0 : 0 ≤ y) (h1 : y ≤ 3000) (hm : 1 ≤ m ∧ m ≤ 12) (w : World) : Calls Tryz.prog 71 #[.int .i64 y, .int .i64 m] w fun e w' => e = .returned (.int .i64 (mdN y m)) ∧ w' = w := by
  have HL := Lib.hid (fun W => long_calls y h0 h1 W)
  have h12 : m = 1 ∨ m = 2 ∨ m = 3 ∨ m = 4 ∨ m = 5 ∨ m = 6 ∨ m = 7 ∨ m = 8 ∨ m = 9 ∨ m = 10 ∨ m = 11 ∨ m = 12 := by omega
  rcases h12 with rfl | rfl | rfl | rfl | rfl | rfl | rfl | rfl | rfl | rfl | rfl | rfl
  · have hi : ∀ W, (Instr.index 148 (.agg #[.int .i64 0, .int .i64 31, .int .i64 28, .int .i64 31, .int .i64 30, .int .i64 31, .int .i64 30, .int .i64 31, .int .i64 31, .int .i64 30, .int .i64 31, .int .i64 30, .int .i64 31]) (.int .i64 1)).run Tryz.prog W = .ok (.int .i64 31) W := fun W => by kernel_rfl
    go_enter Tryz.func71, Tryz.ntmps71
    go_wp2_with fail
    go_ret
    exact ⟨rfl, rfl⟩
  · have hi : ∀ W, (Instr.index 148 (.agg #[.int .i64 0, .int .i64 31, .int .i64 28, .int .i64 31, .int .i64 30, .int .i64 31, .int .i64 30, .int .i64 31, .int .i64 31, .int .i64 30, .int .i64 31, .int .i64 30, .int .i64 31]) (.int .i64 2)).run Tryz.prog W = .ok (.int .i64 28) W := fun W => by kernel_rfl
    have HD : Hid (mdN y 2 = if longB y then 29 else 28) := Lib.hid rfl
    generalize longB y = l at *
    cases l
    · go_enter Tryz.func71, Tryz.ntmps71
      go_wp2_with fail
      refine (HL.out _).mono ?_
      rintro e w1 ⟨rfl, rfl⟩
      go_wp2_with fail
      go_ret
      exact ⟨by rw [HD.out]; rfl, rfl⟩
    · go_enter Tryz.func71, Tryz.ntmps71
      go_wp2_with fail
      refine (HL.out _).mono ?_
      rintro e w1 ⟨rfl, rfl⟩
      go_wp2_with fail
      go_ret
      exact ⟨by rw [HD.out]; rfl, rfl⟩
  · have hi : ∀ W, (Instr.index 148 (.agg #[.int .i64 0, .int .i64 31, .int .i64 28, .int .i64 31, .int .i64 30, .int .i64 31, .int .i64 30, .int .i64 31, .int .i64 31, .int .i64 30, .int .i64 31, .int .i64 30, .int .i64 31]) (.int .i64 3)).run Tryz.prog W = .ok (.int .i64 31) W := fun W => by kernel_rfl
    go_enter Tryz.func71, Tryz.ntmps71
    go_wp2_with fail
    go_ret
    exact ⟨rfl, rfl⟩
  · have hi : ∀ W, (Instr.index 148 (.agg #[.int .i64 0, .int .i64 31, .int .i64 28, .int .i64 31, .int .i64 30, .int .i64 31, .int .i64 30, .int .i64 31, .int .i64 31, .int .i64 30, .int .i64 31, .int .i64 30, .int .i64 31]) (.int .i64 4)).run Tryz.prog W = .ok (.int .i64 30) W := fun W => by kernel_rfl
    go_enter Tryz.func71, Tryz.ntmps71
    go_wp2_with fail
    go_ret
    exact ⟨rfl, rfl⟩
  · have hi : ∀ W, (Instr.index 148 (.agg #[.int .i64 0, .int .i64 31, .int .i64 28, .int .i64 31, .int .i64 30, .int .i64 31, .int .i64 30, .int .i64 31, .int .i64 31, .int .i64 30, .int .i64 31, .int .i64 30, .int .i64 31]) (.int .i64 5)).run Tryz.prog W = .ok (.int .i64 31) W := fun W => by kernel_rfl
    go_enter Tryz.func71, Tryz.ntmps71
    go_wp2_with fail
    go_ret
    exact ⟨rfl, rfl⟩
  · have hi : ∀ W, (Instr.index 148 (.agg #[.int .i64 0, .int .i64 31, .int .i64 28, .int .i64 31, .int .i64 30, .int .i64 31, .int .i64 30, .int .i64 31, .int .i64 31, .int .i64 30, .int .i64 31, .int .i64 30, .int .i64 31]) (.int .i64 6)).run Tryz.prog W = .ok (.int .i64 30) W := fun W => by kernel_rfl
    go_enter Tryz.func71, Tryz.ntmps71
    go_wp2_with fail
    go_ret
    exact ⟨rfl, rfl⟩
  · have hi : ∀ W, (Instr.index 148 (.agg #[.int .i64 0, .int .i64 31, .int .i64 28, .int .i64 31, .int .i64 30, .int .i64 31, .int .i64 30, .int .i64 31, .int .i64 31, .int .i64 30, .int .i64 31, .int .i64 30, .int .i64 31]) (.int .i64 7)).run Tryz.prog W = .ok (.int .i64 31) W := fun W => by kernel_rfl
    go_enter Tryz.func71, Tryz.ntmps71
    go_wp2_with fail
    go_ret
    exact ⟨rfl, rfl⟩
  · have hi : ∀ W, (Instr.index 148 (.agg #[.int .i64 0, .int .i64 31, .int .i64 28, .int .i64 31, .int .i64 30, .int .i64 31, .int .i64 30, .int .i64 31, .int .i64 31, .int .i64 30, .int .i64 31, .int .i64 30, .int .i64 31]) (.int .i64 8)).run Tryz.prog W = .ok (.int .i64 31) W := fun W => by kernel_rfl
    go_enter Tryz.func71, Tryz.ntmps71
    go_wp2_with fail
    go_ret
    exact ⟨rfl, rfl⟩
  · have hi : ∀ W, (Instr.index 148 (.agg #[.int .i64 0, .int .i64 31, .int .i64 28, .int .i64 31, .int .i64 30, .int .i64 31, .int .i64 30, .int .i64 31, .int .i64 31, .int .i64 30, .int .i64 31, .int .i64 30, .int .i64 31]) (.int .i64 9)).run Tryz.prog W = .ok (.int .i64 30) W := fun W => by kernel_rfl
    go_enter Tryz.func71, Tryz.ntmps71
    go_wp2_with fail
    go_ret
    exact ⟨rfl, rfl⟩
  · have hi : ∀ W, (Instr.index 148 (.agg #[.int .i64 0, .int .i64 31, .int .i64 28, .int .i64 31, .int .i64 30, .int .i64 31, .int .i64 30, .int .i64 31, .int .i64 31, .int .i64 30, .int .i64 31, .int .i64 30, .int .i64 31]) (.int .i64 10)).run Tryz.prog W = .ok (.int .i64 31) W := fun W => by kernel_rfl
    go_enter Tryz.func71, Tryz.ntmps71
    go_wp2_with fail
    go_ret
    exact ⟨rfl, rfl⟩
  · have hi : ∀ W, (Instr.index 148 (.agg #[.int .i64 0, .int .i64 31, .int .i64 28, .int .i64 31, .int .i64 30, .int .i64 31, .int .i64 30, .int .i64 31, .int .i64 31, .int .i64 30, .int .i64 31, .int .i64 30, .int .i64 31]) (.int .i64 11)).run Tryz.prog W = .ok (.int .i64 30) W := fun W => by kernel_rfl
    go_enter Tryz.func71, Tryz.ntmps71
    go_wp2_with fail
    go_ret
    exact ⟨rfl, rfl⟩
  · have hi : ∀ W, (Instr.index 148 (.agg #[.int .i64 0, .int .i64 31, .int .i64 28, .int .i64 31, .int .i64 30, .int .i64 31, .int .i64 30, .int .i64 31, .int .i64 31, .int .i64 30, .int .i64 31, .int .i64 30, .int .i64 31]) (.int .i64 12)).run Tryz.prog W = .ok (.int .i64 31) W := fun W => by kernel_rfl
    go_enter Tryz.func71, Tryz.ntmps71
    go_wp2_with fail
    go_ret
    exact ⟨rfl, rfl⟩
set_option maxRecDepth 20000 in
set_option maxHeartbeats 4000000 in
theorem rdays_calls (y m : Int) (h0 : 0 ≤ y) (h1 : y ≤ 3000) (hm : 1 ≤ m ∧ m ≤ 12) (w : World) : Calls Tryz.prog 94 #[.int .i64 y, .int .i64 m] w fun e w' => e = .returned (.int .i64 (mdN y m)) ∧ w' = w := by
  have HL := Lib.hid (fun W => rlong_calls y h0 h1 W)
  have h12 : m = 1 ∨ m = 2 ∨ m = 3 ∨ m = 4 ∨ m = 5 ∨ m = 6 ∨ m = 7 ∨ m = 8 ∨ m = 9 ∨ m = 10 ∨ m = 11 ∨ m = 12 := by omega
  clear hm
  rcases h12 with rfl | rfl | rfl | rfl | rfl | rfl | rfl | rfl | rfl | rfl | rfl | rfl
  · go_enter Tryz.func94, Tryz.ntmps94
    go_wp2_with fail
    go_ret
    exact ⟨rfl, rfl⟩
  · have HD : Hid (mdN y 2 = if longB y then 29 else 28) := Lib.hid rfl
    generalize longB y = l at *
    cases l
    · go_enter Tryz.func94, Tryz.ntmps94
      go_wp2_with fail
      refine (HL.out _).mono ?_
      rintro e w1 ⟨rfl, rfl⟩
      go_wp2_with fail
      go_ret
      exact ⟨by rw [HD.out]; rfl, rfl⟩
    · go_enter Tryz.func94, Tryz.ntmps94
      go_wp2_with fail
      refine (HL.out _).mono ?_
      rintro e w1 ⟨rfl, rfl⟩
      go_wp2_with fail
      go_ret
      exact ⟨by rw [HD.out]; rfl, rfl⟩
  · go_enter Tryz.func94, Tryz.ntmps94
    go_wp2_with fail
    go_ret
    exact ⟨rfl, rfl⟩
  · go_enter Tryz.func94, Tryz.ntmps94
    go_wp2_with fail
    go_ret
    exact ⟨rfl, rfl⟩
  · go_enter Tryz.func94, Tryz.ntmps94
    go_wp2_with fail
    go_ret
    exact ⟨rfl, rfl⟩
  · go_enter Tryz.func94, Tryz.ntmps94
    go_wp2_with fail
    go_ret
    exact ⟨rfl, rfl⟩
  · go_enter Tryz.func94, Tryz.ntmps94
    go_wp2_with fail
    go_ret
    exact ⟨rfl, rfl⟩
  · go_enter Tryz.func94, Tryz.ntmps94
    go_wp2_with fail
    go_ret
    exact ⟨rfl, rfl⟩
  · go_enter Tryz.func94, Tryz.ntmps94
    go_wp2_with fail
    go_ret
    exact ⟨rfl, rfl⟩
  · go_enter Tryz.func94, Tryz.ntmps94
    go_wp2_with fail
    go_ret
    exact ⟨rfl, rfl⟩
  · go_enter Tryz.func94, Tryz.ntmps94
    go_wp2_with fail
    go_ret
    exact ⟨rfl, rfl⟩
  · go_enter Tryz.func94, Tryz.ntmps94
    go_wp2_with fail
    go_ret
    exact ⟨rfl, rfl⟩
def goodD (n : Int) : Bool := decide (0 ≤ n) && decide (n ≤ 87658)
set_option maxRecDepth 20000 in
theorem gday_calls (n : Int) (w : World) : Calls Tryz.prog 64 #[.int .i64 n] w fun e w' => e = .returned (.bool (goodD n)) ∧ w' = w := by
  unfold goodD
  by_cases h1 : 0 ≤ n <;> by_cases h2 : n ≤ 87658 <;>
    (go_enter Tryz.func64, Tryz.ntmps64
     go_wp2_with fail
     go_ret
     exact ⟨ret_bool (by simp [h1, h2]), rfl⟩)
set_option maxRecDepth 20000 in
theorem rgday_calls (n : Int) (w : World) : Calls Tryz.prog 88 #[.int .i64 n] w fun e w' => e = .returned (.bool (goodD n)) ∧ w' = w := by
  unfold goodD
  by_cases h1 : 0 ≤ n <;> by_cases h2 : n ≤ 87658 <;>
    (go_enter Tryz.func88, Tryz.ntmps88
     go_wp2_with fail
     go_ret
     exact ⟨ret_bool (by simp [h1, h2]), rfl⟩)
set_option maxRecDepth 20000 in
theorem lg_calls (y : Int) (h0 : 0 ≤ y) (h1 : y ≤ 3000) (w : World) : Calls Tryz.prog 112 #[.int .i64 y] w fun e w' => e = .returned (.int .i64 (lg y)) ∧ w' = w := by
  go_enter Tryz.func112, Tryz.ntmps112
  go_wp2_with fail
  go_ret
  exact ⟨rfl, rfl⟩
set_option maxRecDepth 20000 in
theorem years_calls (y : Int) (h0 : 1960 ≤ y) (h1 : y ≤ 2300) (w : World) : Calls Tryz.prog 70 #[.int .i64 y] w fun e w' => e = .returned (.int .i64 (yr y)) ∧ w' = w := by
  have HA := Lib.hid (fun W => lg_calls (y - 1) (by omega) (by omega) W)
  have HB : Hid (∀ W, Calls Tryz.prog 112 #[.int .i64 1959] W fun e w' => e = .returned (.int .i64 474) ∧ w' = W) := Lib.hid (fun W => lg_calls 1959 (by omega) (by omega) W)
  have HY : Hid (yr y = (y - 1960) * 365 + lg (y - 1) - 474) := Lib.hid rfl
  have hl : 0 ≤ lg (y - 1) ∧ lg (y - 1) ≤ 1000 := by unfold lg; omega
  generalize lg (y - 1) = L at *
  go_enter Tryz.func70, Tryz.ntmps70
  go_wp2_with fail
  refine (HA.out _).mono ?_
  rintro e w1 ⟨rfl, rfl⟩
  go_wp2_with fail
  refine (HB.out _).mono ?_
  rintro e w1 ⟨rfl, rfl⟩
  go_wp2_with fail
  go_ret
  exact ⟨by rw [HY.out]; rfl, rfl⟩
end Go.Proofs.YtkcjgmicoifhcaaGreatDoor.Vw

/- V4: A day's year, month and day, of both calendars. -/
namespace Go.Proofs.YtkcjgmicoifhcaaGreatDoor.Vw
open Go.RowKit Go.Sort Go.Lib Go.Shelf

theorem day_range {n : Int} {k : Nat} (hk : k < 2880) (h : S k ≤ n ∧ n < S (k + 1)) : 0 ≤ n ∧ n ≤ 87658 := by
  have h1 : S 0 ≤ S k := S_le (by omega)
  have h2 : S (k + 1) ≤ S 2880 := S_le (by omega)
  rw [S_end] at h2
  have h3 : S 0 = 0 := rfl
  omega
theorem yr_iff {n : Int} {k : Nat} (h : S k ≤ n ∧ n < S (k + 1)) (j : Nat) : yr (1960 + (j : Int)) ≤ n ↔ j ≤ k / 12 := by
  rw [yr_S, S_iff h]
  omega
theorem S_part {n : Int} {k : Nat} (h : S k ≤ n ∧ n < S (k + 1)) (i : Nat) (hi : i ≤ k % 12) : (mdN (1960 + (k / 12 : Nat)) (1 + (i : Int)) ≤ n - S (12 * (k / 12) + i) ↔ i < k % 12) ∧ n - S (12 * (k / 12) + i) - mdN (1960 + (k / 12 : Nat)) (1 + (i : Int)) = n - S (12 * (k / 12) + (i + 1)) ∧ 0 ≤ n - S (12 * (k / 12) + i) := by
  have e : S (12 * (k / 12) + (i + 1)) = S (12 * (k / 12) + i) + mdN (1960 + (k / 12 : Nat)) (1 + (i : Int)) := by
    rw [← md_at (k / 12) i (by omega)]
    rfl
  have q := S_iff h (12 * (k / 12) + (i + 1))
  have q2 := (S_iff h (12 * (k / 12) + i)).2 (by omega)
  rw [e] at q
  refine ⟨?_, by rw [e]; omega, by omega⟩
  constructor
  · intro g
    have := q.1 (by omega)
    omega
  · intro g
    have := q.2 (by omega)
    omega
set_option maxRecDepth 20000 in
set_option maxHeartbeats 4000000 in
theorem civil_calls (n : Int) (k : Nat) (hk : k < 2880) (h : S k ≤ n ∧ n < S (k + 1)) (w : World) :
    Calls Tryz.prog 38 #[.int .i64 n] w fun e w' => e = .returned (.tuple #[.int .i64 (1960 + (k / 12 : Nat)), .int .i64 (1 + (k % 12 : Nat)), .int .i64 (n - S k + 1), .int .i64 0]) ∧ w' = w := by
  obtain ⟨n0, n1⟩ := day_range hk h
  have HG : Hid (∀ W, Calls Tryz.prog 64 #[.int .i64 n] W fun e w' => e = .returned (.bool true) ∧ w' = W) := Lib.hid (fun W => by
    have := gday_calls n W
    rw [show goodD n = true by unfold goodD; simp [n0, n1]] at this
    exact this)
  have HY := Lib.hid (fun j => yr_iff h j)
  have HP := Lib.hid (fun i hi => S_part h i hi)
  have HS : Hid (S (12 * (k / 12) + k % 12) = S k) := Lib.hid (by congr 1; omega)
  have hj : k / 12 ≤ 239 := by omega
  have hi : k % 12 ≤ 11 := by omega
  have hst : (n / 366).toNat ≤ k / 12 := by
    have := (yr_iff h (n / 366).toNat).1 (by
      have := yr_le (n / 366).toNat
      omega)
    exact this
  have HQ : Hid (yr (1960 + (k / 12 : Nat)) = S (12 * (k / 12) + 0)) := Lib.hid (yr_S _)
  obtain ⟨q, hq⟩ : ∃ q : Nat, n / 366 = (q : Int) := ⟨(n / 366).toNat, by omega⟩
  rw [hq, Int.toNat_natCast] at hst
  have HN := Lib.hid h
  have HQQ := Lib.hid hq
  generalize k / 12 = j0 at *
  generalize k % 12 = i0 at *
  clear h hk hq
  go_enter Tryz.func38, Tryz.ntmps38
  go_upto_block 0 with (go_at_call 64; refine (HG.out _).mono ?_; rintro e w1 ⟨rfl, rfl⟩)
  rw [HQQ.out]
  go_cut [2] from 12 to 22 (fun y W => y = .int .i64 (1960 + (j0 : Int)) ∧ W = w1)
  case first =>
    go_wp2_with fail
    go_loop [2] (fun y => ∃ j : Nat, j ≤ j0 ∧ y = .int .i64 (1960 + (j : Int))) (fun y => j0 + 1960 - (RowKit.intOf y).toNat)
    case atStart => exact ⟨q, hst, rfl⟩
    case round =>
      obtain ⟨j, hjj, rfl⟩ := hrel
      have hC := fun W => years_calls (1960 + ((j + 1 : Nat) : Int)) (by omega) (by omega) W
      have hY := HY.out (j + 1)
      generalize yr (1960 + ((j + 1 : Nat) : Int)) = Y1 at hC hY
      have HC := Lib.hid hC
      clear hC
      by_cases h2 : j < j0
      · have hy : Y1 ≤ n := hY.2 (by omega)
        have hlt : (1960 + (j : Int)) < 2199 := by omega
        clear hY
        go_wp2_with fail
        rw [show (1960 : Int) + (j : Int) + 1 = 1960 + ((j + 1 : Nat) : Int) by omega]
        refine (HC.out _).mono ?_
        rintro e w1 ⟨rfl, rfl⟩
        go_wp2_with fail
        go_round
        case rel => exact ⟨j + 1, by omega, by go_num⟩
        case measure => simp [RowKit.intOf]; omega
      · obtain rfl : j = j0 := by omega
        have hy : ¬ Y1 ≤ n := fun c => by have := hY.1 c; omega
        clear hY
        by_cases h9 : (1960 + (j : Int)) < 2199
        · go_wp2_with fail
          rw [show (1960 : Int) + (j : Int) + 1 = 1960 + ((j + 1 : Nat) : Int) by omega]
          refine (HC.out _).mono ?_
          rintro e w1 ⟨rfl, rfl⟩
          go_wp2_with fail
          go_meet
          exact ⟨rfl, rfl⟩
        · go_wp2_with fail
          go_meet
          exact ⟨rfl, rfl⟩
  case rest =>
    obtain ⟨rfl, rfl⟩ := hcut
    have HC0 := Lib.hid (fun W => years_calls (1960 + (j0 : Int)) (by omega) (by omega) W)
    rw [HQ.out] at HC0
    have hz : 0 ≤ S (12 * j0 + 0) ∧ S (12 * j0 + 0) ≤ n := by
      have a := (HP.out 0 (by omega)).2.2
      have b : S 0 ≤ S (12 * j0 + 0) := S_le (by omega)
      have c : S 0 = 0 := rfl
      omega
    have HZ : Hid (∀ i, 0 ≤ S (12 * j0 + i)) := Lib.hid (fun i => by
      have b : S 0 ≤ S (12 * j0 + i) := S_le (by omega)
      have c : S 0 = 0 := rfl
      omega)
    have HX : Hid (S (12 * j0 + 0) = S (12 * j0 + 0)) := Lib.hid rfl
    obtain ⟨Z, hZ⟩ : ∃ Z, S (12 * j0 + 0) = Z := ⟨_, rfl⟩
    rw [hZ] at hz HC0
    have HZZ := Lib.hid hZ
    clear hZ
    go_wp2_with fail
    refine (HC0.out _).mono ?_
    rintro e w1 ⟨rfl, rfl⟩
    go_wp2_with fail
    go_loop [0, 3] (fun r m => ∃ i : Nat, i ≤ i0 ∧ r = .int .i64 (n - S (12 * j0 + i)) ∧ m = .int .i64 (1 + (i : Int))) (fun _ m => i0 + 1 - (RowKit.intOf m).toNat)
    case atStart => exact ⟨0, by omega, by rw [HZZ.out], rfl⟩
    case round =>
      obtain ⟨i, hii, rfl, rfl⟩ := hrel
      obtain ⟨p1, p2, p3⟩ := HP.out i hii
      have HD := Lib.hid (fun W => days_calls (1960 + (j0 : Int)) (1 + (i : Int)) (by omega) (by omega) (by omega) W)
      have hd := mdN_le (1960 + (j0 : Int)) (1 + (i : Int)) (by omega)
      have hz := HZ.out i
      have HP2 := Lib.hid p2
      obtain ⟨D, hD⟩ : ∃ D, mdN (1960 + (j0 : Int)) (1 + (i : Int)) = D := ⟨_, rfl⟩
      obtain ⟨R, hR⟩ : ∃ R, S (12 * j0 + i) = R := ⟨_, rfl⟩
      rw [hD, hR] at HP2 p1
      rw [hD] at HD hd
      rw [hR] at p3 hz
      have HRR := Lib.hid hR
      rw [hR]
      clear p2 hD hR
      by_cases h2 : i < i0
      · have hge : D ≤ n - R := p1.2 h2
        clear p1
        go_wp2_with fail
        refine (HD.out _).mono ?_
        rintro e w1 ⟨rfl, rfl⟩
        go_wp2_with fail
        refine (HD.out _).mono ?_
        rintro e w1 ⟨rfl, rfl⟩
        go_wp2_with fail
        go_round
        case rel => exact ⟨i + 1, by omega, by rw [← HP2.out], by go_num⟩
        case measure => simp [RowKit.intOf]; omega
      · obtain rfl : i = i0 := by omega
        have hge : ¬ D ≤ n - R := fun c => by have := p1.1 c; omega
        have HF : Hid (R = S k) := Lib.hid (HRR.out.symm.trans HS.out)
        clear p1
        go_wp2_with fail
        refine (HD.out _).mono ?_
        rintro e w1 ⟨rfl, rfl⟩
        go_wp2_with fail
        refine bodyPost_ret (v := .tuple #[.int .i64 (1960 + (j0 : Int)), .int .i64 (1 + (i : Int)), .int .i64 (n - R + 1), .int .i64 0]) (by simp [results, Tryz.results38, go_sem]) rfl ⟨by rw [HF.out], rfl⟩
/-- A block known whole. -/
structure Blk (w : World) (g : Nat) (t : TypeId) (cs : Array Value) : Prop where
  heap : w.heap[g]? = some (.cells cs t (0, 0))
theorem Blk.new (w : World) (t : TypeId) (cs : Array Value) : Blk (w.alloc (.cells cs t)) w.heap.size t cs := ⟨heap_alloc_new w _⟩
theorem Blk.lt {w : World} {g : Nat} {t : TypeId} {cs : Array Value} (h : Blk w g t cs) : g < w.heap.size := by
  rcases Nat.lt_or_ge g w.heap.size with h1 | h1
  · exact h1
  · have := h.heap
    rw [Array.getElem?_eq_none h1] at this
    cases this
theorem Blk.cell {w : World} {g : Nat} {t : TypeId} {cs : Array Value} (h : Blk w g t cs) (k : Nat) : w.cell? ⟨g, k, none⟩ = cs[k]? := cell_of_row w g k cs t (0, 0) h.heap
theorem Blk.frozen {w : World} {g : Nat} {t : TypeId} {cs : Array Value} (h : Blk w g t cs) (k : Nat) : w.frozen? ⟨g, k, none⟩ = false := frozen_of_row w g k cs t h.heap
theorem Blk.below {w w1 : World} {g : Nat} {t : TypeId} {cs : Array Value} (h : Blk w g t cs) (hb : Below w.heap.size w w1) : Blk w1 g t cs := ⟨(hb.block g h.lt).trans h.heap⟩
theorem Blk.set_ {w : World} {g : Nat} {t : TypeId} {cs : Array Value} (h : Blk w g t cs) (k : Nat) (v : Value) : Blk (w.setCell ⟨g, k, none⟩ v) g t (cs.setIfInBounds k v) := ⟨heap_setCell_same w g k cs t v h.heap⟩
theorem results_cell_row2 {P : Program} {fn : Func} {p u : Tmp} {ty : TypeId} (h : fn.results = #[.cell p ty, .tmp u]) (tmps : Array Value) (w : World) (g : Nat) (t : TypeId) (cs : Array Value) (fr : Nat × Nat) (d : TypeDesc)
    (hp : tmps.getD p undef = .pointer (some ⟨g, 0, none⟩)) (hg : w.heap[g]? = some (.cells cs t fr))
    (hu : P.underlying ty = some d) (hd : (match d with | .struct _ | .array _ _ => true | _ => false) = true) (hi : (P.info? ty).map (·.size) = some cs.size) :
    (results fn tmps).run P w = .ok (.tuple #[.agg cs, tmps.getD u undef]) w := by
  have hp' : tmps[p]?.getD undef = .pointer (some ⟨g, 0, none⟩) := by simpa using hp
  simp [results, h, hp', asAddr, run_loadVar_row w g t ty cs fr d hg hu hd hi, Result.andThen]
set_option maxRecDepth 20000 in
theorem civil_bad (n : Int) (h : goodD n = false) (w : World) :
    Calls Tryz.prog 38 #[.int .i64 n] w fun e w' => e = .returned (.tuple #[.int .i64 0, .int .i64 0, .int .i64 0, .int .i64 15]) ∧ w' = w := by
  have HG := Lib.hid (fun W => gday_calls n W)
  rw [h] at HG
  clear h
  go_enter Tryz.func38, Tryz.ntmps38
  go_wp2_with fail
  refine (HG.out _).mono ?_
  rintro e w1 ⟨rfl, rfl⟩
  go_wp2_with fail
  refine bodyPost_ret (v := .tuple #[.int .i64 0, .int .i64 0, .int .i64 0, .int .i64 15]) (by simp [results, Tryz.results38, go_sem]) rfl ⟨rfl, rfl⟩
set_option maxRecDepth 20000 in
theorem rcivil_bad (n : Int) (h : goodD n = false) (w : World) :
    Calls Tryz.prog 58 #[.int .i64 n] w fun e w' => e = .returned (.tuple #[.agg #[.int .i64 0, .int .i64 0, .int .i64 0], .int .i64 15]) ∧ Below w.heap.size w w' := by
  have HG := Lib.hid (fun W => rgday_calls n W)
  rw [h] at HG
  have HR := Lib.hid (Blk.new w 98 #[.int .i64 0, .int .i64 0, .int .i64 0])
  have HB := Lib.hid ((Below.refl w.heap.size w).alloc (Nat.le_refl _) (.cells #[.int .i64 0, .int .i64 0, .int .i64 0] 98))
  clear h
  go_enter Tryz.func58, Tryz.ntmps58
  go_upto_region 1 with fail
  generalize w.alloc (.cells #[.int .i64 0, .int .i64 0, .int .i64 0] 98) = W1 at *
  go_wp2_with fail
  refine (HG.out _).mono ?_
  rintro e w1 ⟨rfl, rfl⟩
  have c0 : w1.cell? ⟨w.heap.size, 0, none⟩ = some (.int .i64 0) := HR.out.cell 0
  have c1 : w1.cell? ⟨w.heap.size, 1, none⟩ = some (.int .i64 0) := HR.out.cell 1
  have c2 : w1.cell? ⟨w.heap.size, 2, none⟩ = some (.int .i64 0) := HR.out.cell 2
  have f0 := HR.out.frozen 0
  have f1 := HR.out.frozen 1
  have f2 := HR.out.frozen 2
  go_wp2_with fail
  have S1 := ((HR.out.set_ 0 (.int .i64 0)).set_ 1 (.int .i64 0)).set_ 2 (.int .i64 0)
  have SB := ((HB.out.setCell (p := ⟨w.heap.size, 0, none⟩) (Nat.le_refl _) (.int .i64 0)).setCell (p := ⟨w.heap.size, 1, none⟩) (Nat.le_refl _) (.int .i64 0)).setCell (p := ⟨w.heap.size, 2, none⟩) (Nat.le_refl _) (.int .i64 0)
  (try simp only [Exit.inBlock, Exit.then])
  refine bodyPost_ret (results_cell_row2 (p := 2) (u := 3) (ty := 98) rfl _ _ w.heap.size 98 _ _ _ rfl S1.heap Tryz.underlying98 rfl (by kernel_rfl)) rfl ?_
  exact ⟨rfl, SB⟩
theorem md_walk (m : Nat) : mdN (1960 + (m : Int) / 12) (1 + (m : Int) % 12) = md m := by
  unfold md
  congr 1
set_option maxRecDepth 20000 in
set_option maxHeartbeats 4000000 in
theorem rcivil_calls (n : Int) (k : Nat) (hk : k < 2880) (h : S k ≤ n ∧ n < S (k + 1)) (w : World) :
    Calls Tryz.prog 58 #[.int .i64 n] w fun e w' => e = .returned (.tuple #[.agg #[.int .i64 (1960 + (k / 12 : Nat)), .int .i64 (1 + (k % 12 : Nat)), .int .i64 (n - S k + 1)], .int .i64 0]) ∧ Below w.heap.size w w' := by
  obtain ⟨n0, n1⟩ := day_range hk h
  have HG : Hid (∀ W, Calls Tryz.prog 88 #[.int .i64 n] W fun e w' => e = .returned (.bool true) ∧ w' = W) := Lib.hid (fun W => by
    have := rgday_calls n W
    rw [show goodD n = true by unfold goodD; simp [n0, n1]] at this
    exact this)
  have HS := Lib.hid (S_iff h)
  have HZ : Hid (∀ i, 0 ≤ S i) := Lib.hid (fun i => by
    have b : S 0 ≤ S i := S_le (by omega)
    have c : S 0 = 0 := rfl
    omega)
  have HR := Lib.hid (Blk.new w 98 #[.int .i64 0, .int .i64 0, .int .i64 0])
  have HB := Lib.hid ((Below.refl w.heap.size w).alloc (Nat.le_refl _) (.cells #[.int .i64 0, .int .i64 0, .int .i64 0] 98))
  have HN := Lib.hid h
  clear h
  go_enter Tryz.func58, Tryz.ntmps58
  go_upto_region 1 with fail
  generalize w.alloc (.cells #[.int .i64 0, .int .i64 0, .int .i64 0] 98) = W1 at *
  go_wp2_with fail
  refine (HG.out _).mono ?_
  rintro e w1 ⟨rfl, rfl⟩
  go_wp2_with fail
  go_loop [0, 4] (fun r m => ∃ i : Nat, i ≤ k ∧ r = .int .i64 (n - S i) ∧ m = .int .i64 (i : Int)) (fun _ m => k - (RowKit.intOf m).toNat)
  case atStart => exact ⟨0, by omega, by show _ = Value.int .i64 (n - 0); rw [Int.sub_zero], rfl⟩
  case round =>
    obtain ⟨i, hii, rfl, rfl⟩ := hrel
    have hD := fun W => rdays_calls (1960 + (i : Int) / 12) (1 + (i : Int) % 12) (by omega) (by omega) (by omega) W
    rw [md_walk] at hD
    have hd := md_le i
    have hz := HZ.out i
    have hz1 := (HS.out i).2 hii
    have p1 := HS.out (i + 1)
    have HP2 : Hid (n - S i - md i = n - S (i + 1)) := Lib.hid (by show _ = n - (S i + md i); omega)
    have p0 : S (i + 1) = S i + md i := rfl
    rw [p0] at p1
    obtain ⟨D, hDD⟩ : ∃ D, md i = D := ⟨_, rfl⟩
    obtain ⟨R, hR⟩ : ∃ R, S i = R := ⟨_, rfl⟩
    rw [hDD, hR] at p1 HP2
    rw [hDD] at hD hd
    rw [hR] at hz hz1
    have HRR := Lib.hid hR
    have HD := Lib.hid hD
    rw [hR]
    clear hDD hR hD p0
    by_cases h2 : i < k
    · have hge : D ≤ n - R := by have := p1.2 (by omega); omega
      clear p1
      go_wp2_with fail
      refine (HD.out _).mono ?_
      rintro e w1 ⟨rfl, rfl⟩
      go_wp2_with fail
      refine (HD.out _).mono ?_
      rintro e w1 ⟨rfl, rfl⟩
      go_wp2_with fail
      go_round
      case rel => exact ⟨i + 1, by omega, by rw [← HP2.out], by go_num⟩
      case measure => simp [RowKit.intOf]; omega
    · have hge : ¬ D ≤ n - R := fun c => by have := p1.1 (by omega); omega
      have hik : i = k := by omega
      have HF : Hid (R = S k) := Lib.hid (by rw [← HRR.out, hik])
      have HE : Hid ((1960 + (i : Int) / 12 = 1960 + ((k / 12 : Nat) : Int)) ∧ (1 + (i : Int) % 12 = 1 + ((k % 12 : Nat) : Int))) := Lib.hid (by subst hik; omega)
      clear p1 hik
      have c0 : w1.cell? ⟨w.heap.size, 0, none⟩ = some (.int .i64 0) := HR.out.cell 0
      have c1 : w1.cell? ⟨w.heap.size, 1, none⟩ = some (.int .i64 0) := HR.out.cell 1
      have c2 : w1.cell? ⟨w.heap.size, 2, none⟩ = some (.int .i64 0) := HR.out.cell 2
      have f0 := HR.out.frozen 0
      have f1 := HR.out.frozen 1
      have f2 := HR.out.frozen 2
      go_wp2_with fail
      refine (HD.out _).mono ?_
      rintro e w1 ⟨rfl, rfl⟩
      go_wp2_with fail
      have S1 := ((HR.out.set_ 0 (.int .i64 (1960 + (i : Int) / 12))).set_ 1 (.int .i64 (1 + (i : Int) % 12))).set_ 2 (.int .i64 (n - R + 1))
      have SB := ((HB.out.setCell (p := ⟨w.heap.size, 0, none⟩) (Nat.le_refl _) (.int .i64 (1960 + (i : Int) / 12))).setCell (p := ⟨w.heap.size, 1, none⟩) (Nat.le_refl _) (.int .i64 (1 + (i : Int) % 12))).setCell (p := ⟨w.heap.size, 2, none⟩) (Nat.le_refl _) (.int .i64 (n - R + 1))
      (try simp only [Exit.inBlock, Exit.then])
      refine bodyPost_ret (results_cell_row2 (p := 2) (u := 3) (ty := 98) rfl _ _ w.heap.size 98 _ _ _ rfl S1.heap Tryz.underlying98 rfl (by kernel_rfl)) rfl ?_
      exact ⟨by rw [← HE.out.1, ← HE.out.2, ← HF.out]; rfl, SB⟩
end Go.Proofs.YtkcjgmicoifhcaaGreatDoor.Vw

/- V5: Days as texts, of both. -/
namespace Go.Proofs.YtkcjgmicoifhcaaGreatDoor.Vw
open Go.RowKit Go.Sort Go.Lib Go.Shelf
attribute [local go_sem ↓] Go.wp_at_zero Go.wp_at_succ

/-- A date as a text. -/
def dayT (y m d : Nat) : List UInt8 := cat (cat (cat (cat (pad y 4) [45]) (pad m 2)) [45]) (pad d 2)
theorem dec_four (y : Nat) (h : 1000 ≤ y ∧ y < 10000) : pad y 4 = Lib.decDigits y := by
  have : (Lib.decDigits y).length = 4 := by
    rw [dec_more y (by omega), dec_more (y / 10) (by omega), dec_more (y / 10 / 10) (by omega), dec_one (y / 10 / 10 / 10) (by omega), dec_one (y / 10 / 10 % 10) (by omega), dec_one (y / 10 % 10) (by omega), dec_one (y % 10) (by omega)]
    rfl
  unfold pad
  rw [this]
  rfl
open Classical in
/-- A day as a text. -/
noncomputable def dayL (n : Int) : List UInt8 :=
  if h : ∃ k, k < 2880 ∧ S k ≤ n ∧ n < S (k + 1) then dayT (1960 + h.choose / 12) (1 + h.choose % 12) (n - S h.choose + 1).toNat else [45]
theorem dayL_at {n : Int} {k : Nat} (hk : k < 2880) (h : S k ≤ n ∧ n < S (k + 1)) : dayL n = dayT (1960 + k / 12) (1 + k % 12) (n - S k + 1).toNat := by
  have hx : ∃ k, k < 2880 ∧ S k ≤ n ∧ n < S (k + 1) := ⟨k, hk, h⟩
  unfold dayL
  rw [dif_pos hx, S_one hx.choose_spec.2 h]
theorem good_iff (n : Int) : goodD n = true ↔ 0 ≤ n ∧ n ≤ 87658 := by unfold goodD; simp
theorem dayL_none {n : Int} (h : goodD n = false) : dayL n = [45] := by
  unfold dayL
  rw [dif_neg]
  rintro ⟨k, hk, hn⟩
  have := (good_iff n).2 (day_range hk hn)
  rw [h] at this
  cases this
theorem day_month {n : Int} {k : Nat} (h : S k ≤ n ∧ n < S (k + 1)) : 1 ≤ (n - S k + 1).toNat ∧ (n - S k + 1).toNat ≤ 31 ∧ n - S k + 1 = (((n - S k + 1).toNat : Nat) : Int) := by
  have h1 := md_le k
  have h2 : S (k + 1) = S k + md k := rfl
  omega
set_option maxRecDepth 20000 in
set_option maxHeartbeats 4000000 in
theorem vday_calls (n : Int) (w : World) (htab : Tab w) : Calls Tryz.prog 18 #[.int .i64 n] w fun e w' => e = .returned (.string (str (dayL n))) ∧ Below w.heap.size w w' := by
  have HT := Lib.hid htab
  clear htab
  cases hg : goodD n with
  | false =>
    have HC := Lib.hid (fun W => civil_bad n hg W)
    have HD := Lib.hid (dayL_none hg)
    clear hg
    go_enter Tryz.func18, Tryz.ntmps18
    go_wp2_with fail
    refine (HC.out _).mono ?_
    rintro e w1 ⟨rfl, rfl⟩
    go_wp2_with fail
    go_ret
    exact ⟨by rw [HD.out]; rfl, Below.refl _ _⟩
  | true =>
    obtain ⟨k, hk, hn⟩ := S_all n ((good_iff n).1 hg)
    obtain ⟨d1, d2, d3⟩ := day_month hn
    have hC := fun W => civil_calls n k hk hn W
    rw [d3, show (1960 : Int) + ((k / 12 : Nat) : Int) = ((1960 + k / 12 : Nat) : Int) by omega, show (1 : Int) + ((k % 12 : Nat) : Int) = ((1 + k % 12 : Nat) : Int) by omega] at hC
    have hD := dayL_at hk hn
    have y1 : 1960 + k / 12 < 10000 := by omega
    have m1 : 1 + k % 12 < 100 := by omega
    generalize 1960 + k / 12 = Y at *
    generalize 1 + k % 12 = M at *
    generalize (n - S k + 1).toNat = D at *
    clear d3 hg
    have HC := Lib.hid hC
    have HD := Lib.hid hD
    clear hC hD hn hk
    have H1 := Lib.hid (fun W (hW : Tab W) => digits_calls Y 4 (by omega) (by decide) W hW)
    have H2 := Lib.hid (fun W (hW : Tab W) => digits_calls M 2 (by omega) (by decide) W hW)
    have H3 := Lib.hid (fun W (hW : Tab W) => digits_calls D 2 (by omega) (by decide) W hW)
    have wy : IntKind.u64.wrap (Y : Int) = (Y : Int) := by rw [IntKind.wrap_u64]; omega
    have wm : IntKind.u64.wrap (M : Int) = (M : Int) := by rw [IntKind.wrap_u64]; omega
    have wd : IntKind.u64.wrap (D : Int) = (D : Int) := by rw [IntKind.wrap_u64]; omega
    have l1 := pad_len Y 4 (by omega) (by decide)
    have l2 := pad_len M 2 (by omega) (by decide)
    have l3 := pad_len D 2 (by omega) (by decide)
    unfold dayT at HD
    generalize pad Y 4 = A at *
    generalize pad M 2 = B at *
    generalize pad D 2 = C at *
    have a1 := add_cat A [45] (by simp; omega)
    have a2 := add_cat (cat A [45]) B (by simp [cat_len]; omega)
    have a3 := add_cat (cat (cat A [45]) B) [45] (by simp [cat_len]; omega)
    have a4 := add_cat (cat (cat (cat A [45]) B) [45]) C (by simp [cat_len]; omega)
    clear l1 l2 l3
    go_enter Tryz.func18, Tryz.ntmps18
    go_wp2_with fail
    refine (HC.out _).mono ?_
    rintro e w1 ⟨rfl, rfl⟩
    go_wp2_with fail
    refine (H1.out _ HT.out).mono ?_
    rintro e w2 ⟨rfl, hb⟩
    have HT2 := Lib.hid (HT.out.below hb)
    have HB2 := Lib.hid hb
    clear hb
    go_wp2_with fail
    refine (H2.out _ HT2.out).mono ?_
    rintro e w3 ⟨rfl, hb⟩
    have HT3 := Lib.hid (HT2.out.below hb)
    have HB3 := Lib.hid (HB2.out.trans (hb.mono HB2.out.size))
    clear hb
    go_wp2_with fail
    refine (H3.out _ HT3.out).mono ?_
    rintro e w4 ⟨rfl, hb⟩
    have HB4 := Lib.hid (HB3.out.trans (hb.mono HB3.out.size))
    clear hb
    go_wp2_with fail
    go_ret
    exact ⟨by rw [HD.out]; rfl, HB4.out⟩
set_option maxRecDepth 20000 in
set_option maxHeartbeats 4000000 in
theorem rday_calls (n : Int) (w : World) : Calls Tryz.prog 30 #[.int .i64 n] w fun e w' => e = .returned (.string (str (dayL n))) ∧ Below w.heap.size w w' := by
  cases hg : goodD n with
  | false =>
    have HC := Lib.hid (fun W => rcivil_bad n hg W)
    have HD := Lib.hid (dayL_none hg)
    clear hg
    go_enter Tryz.func30, Tryz.ntmps30
    go_wp2_with fail
    refine (HC.out _).mono ?_
    rintro e w1 ⟨rfl, hb⟩
    have HB := Lib.hid (hb.alloc hb.size (.cells #[.int .i64 0, .int .i64 0, .int .i64 0] 98))
    clear hb
    go_wp2_with fail
    go_ret
    exact ⟨by rw [HD.out]; rfl, HB.out⟩
  | true =>
    obtain ⟨k, hk, hn⟩ := S_all n ((good_iff n).1 hg)
    obtain ⟨d1, d2, d3⟩ := day_month hn
    have hC := fun W => rcivil_calls n k hk hn W
    rw [d3, show (1960 : Int) + ((k / 12 : Nat) : Int) = ((1960 + k / 12 : Nat) : Int) by omega, show (1 : Int) + ((k % 12 : Nat) : Int) = ((1 + k % 12 : Nat) : Int) by omega] at hC
    have hD := dayL_at hk hn
    have y1 : 1000 ≤ 1960 + k / 12 ∧ 1960 + k / 12 < 10000 := by omega
    have m1 : 1 + k % 12 < 100 := by omega
    generalize 1960 + k / 12 = Y at *
    generalize 1 + k % 12 = M at *
    generalize (n - S k + 1).toNat = D at *
    clear d3 hg
    have HC := Lib.hid hC
    have HD := Lib.hid hD
    clear hC hD hn hk
    have H1 := Lib.hid (fun W => dec_calls Y W (by omega))
    have H2 := Lib.hid (fun W => two_calls M W m1)
    have H3 := Lib.hid (fun W => two_calls D W (by omega))
    have wy : IntKind.u64.wrap (Y : Int) = (Y : Int) := by rw [IntKind.wrap_u64]; omega
    have wm : IntKind.u64.wrap (M : Int) = (M : Int) := by rw [IntKind.wrap_u64]; omega
    have wd : IntKind.u64.wrap (D : Int) = (D : Int) := by rw [IntKind.wrap_u64]; omega
    obtain ⟨_, l1⟩ := dig_len Y (by omega)
    have l2 := pad_len M 2 (by omega) (by decide)
    have l3 := pad_len D 2 (by omega) (by decide)
    unfold dayT at HD
    rw [dec_four Y y1] at HD
    generalize Lib.decDigits Y = A at *
    generalize pad M 2 = B at *
    generalize pad D 2 = C at *
    have a1 := add_cat A [45] (by simp; omega)
    have a2 := add_cat (cat A [45]) B (by simp [cat_len]; omega)
    have a3 := add_cat (cat (cat A [45]) B) [45] (by simp [cat_len]; omega)
    have a4 := add_cat (cat (cat (cat A [45]) B) [45]) C (by simp [cat_len]; omega)
    clear l1 l2 l3
    go_enter Tryz.func30, Tryz.ntmps30
    go_wp2_with fail
    refine (HC.out _).mono ?_
    rintro e w1 ⟨rfl, hb⟩
    have HR := Lib.hid (Blk.new w1 98 #[.int .i64 (Y : Int), .int .i64 (M : Int), .int .i64 (D : Int)])
    have HB := Lib.hid (hb.alloc hb.size (.cells #[.int .i64 (Y : Int), .int .i64 (M : Int), .int .i64 (D : Int)] 98))
    clear hb
    go_upto_region 4 with fail
    generalize w1.alloc (.cells #[.int .i64 (Y : Int), .int .i64 (M : Int), .int .i64 (D : Int)] 98) = w2 at *
    generalize w1.heap.size = g at *
    have c0 : w2.cell? ⟨g, 0, none⟩ = some (.int .i64 (Y : Int)) := HR.out.cell 0
    have c1 : w2.cell? ⟨g, 1, none⟩ = some (.int .i64 (M : Int)) := HR.out.cell 1
    have c2 : w2.cell? ⟨g, 2, none⟩ = some (.int .i64 (D : Int)) := HR.out.cell 2
    go_region_held3 (fun w' => w'.cell? ⟨g, 0, none⟩ = some (.int .i64 (Y : Int)) ∧ w'.cell? ⟨g, 1, none⟩ = some (.int .i64 (M : Int)) ∧ w'.cell? ⟨g, 2, none⟩ = some (.int .i64 (D : Int))) (go_keep)
      (first
        | ((go_at_call 60; (with_reducible refine (H3.out _).mono ?_); rintro e wc ⟨rfl, rfl⟩))
        | ((go_at_call 60; (with_reducible refine (H2.out _).mono ?_); rintro e wc ⟨rfl, rfl⟩))
        | ((go_at_call 59; (with_reducible refine (H1.out _).mono ?_); rintro e wc ⟨rfl, rfl⟩)))
    go_wp2_with fail
    go_ret
    exact ⟨by rw [HD.out]; rfl, HB.out.drew⟩
end Go.Proofs.YtkcjgmicoifhcaaGreatDoor.Vw

/- P0: Digits and numerals, plain (View's, without its program). -/
namespace Go.Proofs.YtkcjgmicoifhcaaGreatDoor.Cn
open Go.Lib

theorem dec_one (u : Nat) (h : u < 10) : Lib.decDigits u = [UInt8.ofNat (48 + u)] := by rw [Lib.decDigits, dif_pos h]
theorem dec_more (u : Nat) (h : ¬ u < 10) : Lib.decDigits u = Lib.decDigits (u / 10) ++ Lib.decDigits (u % 10) := by
  rw [Lib.decDigits, dif_neg h, dec_one (u % 10) (by omega)]
def pad (u k : Nat) : List UInt8 := List.replicate (k - (Lib.decDigits u).length) 48 ++ Lib.decDigits u
theorem dig_len (u : Nat) (hu64 : u < 18446744073709551616) : 1 ≤ (Lib.decDigits u).length ∧ (Lib.decDigits u).length ≤ 20 := by
  rw [Lib.decDigits_length]
  by_cases h : 1 ≤ u
  · have := Lib.numDigits_eq u h hu64
    constructor
    · by_cases h10 : u < 10
      · rw [Lib.nDigits_small h10]; exact Nat.le_refl _
      · rw [Lib.nDigits_big h10]; exact Nat.le_add_left _ _
    · split at this <;> omega
  · obtain rfl : u = 0 := by omega
    rw [Lib.nDigits_small (by omega)]
    omega
theorem pad_len (u k : Nat) (hu64 : u < 18446744073709551616) (hk : k ≤ 20) : (pad u k).length ≤ 20 := by
  have := dig_len u hu64
  unfold pad
  rw [List.length_append, List.length_replicate]
  omega
def cat (a b : List UInt8) : List UInt8 := a ++ b
theorem cat_len (a b : List UInt8) : (cat a b).length = a.length + b.length := List.length_append
theorem pad_two (u : Nat) (h : u < 100) : Lib.decDigits (u / 10 % 10) ++ Lib.decDigits (u % 10) = pad u 2 := by
  unfold pad
  by_cases h1 : u < 10
  · rw [dec_one u h1, dec_one (u / 10 % 10) (by omega), dec_one (u % 10) (by omega), show u / 10 % 10 = 0 by omega, show u % 10 = u by omega]
    rfl
  · rw [dec_more u h1, dec_one (u / 10) (by omega), dec_one (u / 10 % 10) (by omega), show u / 10 % 10 = u / 10 by omega, dec_one (u % 10) (by omega)]
    rfl
theorem pad_one (u : Nat) : pad u 1 = Lib.decDigits u := by
  unfold pad
  by_cases h : u < 10
  · rw [dec_one u h]; rfl
  · have : 1 ≤ (Lib.decDigits u).length := by
      rw [dec_more u h, List.length_append, dec_one (u % 10) (by omega)]
      simp
    rw [show 1 - (Lib.decDigits u).length = 0 by omega]
    rfl
def dv (l : List UInt8) : Nat := l.foldl (fun acc c => acc * 10 + (c.toNat - 48)) 0
theorem dv_snoc (l : List UInt8) (c : UInt8) : dv (l ++ [c]) = dv l * 10 + (c.toNat - 48) := by unfold dv; rw [List.foldl_append]; rfl
theorem one_digit (d : Nat) (h : d < 10) : (UInt8.ofNat (48 + d)).toNat = 48 + d := by
  rw [UInt8.toNat_ofNat']
  omega
theorem dv_dec (k : Nat) : ∀ u, u < 10 ^ (k + 1) → dv (Lib.decDigits u) = u := by
  induction k with
  | zero =>
    intro u h
    rw [dec_one u (by omega)]
    have := one_digit u (by omega)
    show 0 * 10 + ((UInt8.ofNat (48 + u)).toNat - 48) = u
    omega
  | succ k ih =>
    intro u h
    by_cases h10 : u < 10
    · rw [dec_one u h10]
      have := one_digit u h10
      show 0 * 10 + ((UInt8.ofNat (48 + u)).toNat - 48) = u
      omega
    · rw [dec_more u h10, dec_one (u % 10) (by omega), dv_snoc, ih (u / 10) (by rw [Nat.pow_succ] at h; omega), one_digit (u % 10) (by omega)]
      omega
theorem dv_all (u : Nat) (h : u < 18446744073709551616) : dv (Lib.decDigits u) = u := dv_dec 19 u (by omega)
theorem dv_zeros (n : Nat) (l : List UInt8) : dv (List.replicate n 48 ++ l) = dv l := by
  unfold dv
  rw [List.foldl_append]
  congr 1
  induction n with
  | zero => rfl
  | succ n ih => rw [List.replicate_succ, List.foldl_cons]; exact ih
theorem dv_pad (u k : Nat) (h : u < 18446744073709551616) : dv (pad u k) = u := by unfold pad; rw [dv_zeros, dv_all u h]
theorem dig_ge (k : Nat) : ∀ u, u < 10 ^ (k + 1) → ∀ c ∈ Lib.decDigits u, 48 ≤ c.toNat ∧ c.toNat ≤ 57 := by
  induction k with
  | zero =>
    intro u h c hc
    rw [dec_one u (by omega)] at hc
    simp only [List.mem_singleton] at hc
    subst hc
    have := one_digit u (by omega)
    omega
  | succ k ih =>
    intro u h c hc
    by_cases h10 : u < 10
    · rw [dec_one u h10] at hc
      simp only [List.mem_singleton] at hc
      subst hc
      have := one_digit u h10
      omega
    · rw [dec_more u h10, dec_one (u % 10) (by omega)] at hc
      rcases List.mem_append.1 hc with h1 | h1
      · exact ih (u / 10) (by rw [Nat.pow_succ] at h; omega) c h1
      · simp only [List.mem_singleton] at h1
        subst h1
        have := one_digit (u % 10) (by omega)
        omega
theorem pad2_len (u : Nat) (h : u < 100) : (pad u 2).length = 2 := by
  rw [← pad_two u h, List.length_append, dec_one (u / 10 % 10) (by omega), dec_one (u % 10) (by omega)]
  rfl
theorem foldl_dv (l : List UInt8) : ∀ acc, l.foldl (fun acc c => acc * 10 + (c.toNat - 48)) acc = acc * 10 ^ l.length + dv l := by
  induction l with
  | nil => intro acc; simp [dv]
  | cons c r ih =>
    intro acc
    have e : dv (c :: r) = (0 * 10 + (c.toNat - 48)) * 10 ^ r.length + dv r := by
      show r.foldl _ (0 * 10 + (c.toNat - 48)) = _
      exact ih _
    rw [List.foldl_cons, ih, e, List.length_cons, Nat.pow_succ]
    generalize 10 ^ r.length = P
    rw [Nat.add_mul, Nat.zero_mul, Nat.zero_add, Nat.mul_assoc, Nat.mul_comm 10 P, Nat.add_assoc]
theorem dv_cons (c : UInt8) (r : List UInt8) : dv (c :: r) = (c.toNat - 48) * 10 ^ r.length + dv r := by
  show r.foldl _ (0 * 10 + (c.toNat - 48)) = _
  rw [foldl_dv]
  simp
def Digs (l : List UInt8) : Prop := ∀ c ∈ l, 48 ≤ c.toNat ∧ c.toNat ≤ 57
theorem dv_lt (l : List UInt8) (h : Digs l) : dv l < 10 ^ l.length := by
  induction l with
  | nil => decide
  | cons c r ih =>
    have h1 := ih fun d hd => h d (by simp [hd])
    have h2 := h c (by simp)
    rw [dv_cons, List.length_cons, Nat.pow_succ]
    generalize 10 ^ r.length = P at *
    have : (c.toNat - 48) * P ≤ 9 * P := Nat.mul_le_mul_right _ (by omega)
    omega
theorem bl_dig : ∀ (a b : List UInt8), a.length = b.length → Digs a → Digs b → Op.bytesLess a b = decide (dv a < dv b) ∧ (a = b ↔ dv a = dv b)
  | [], [], _, _, _ => by simp [Op.bytesLess, dv]
  | [], _ :: _, h, _, _ => by simp at h
  | _ :: _, [], h, _, _ => by simp at h
  | c :: a, d :: b, h, ha, hb => by
    have hl : a.length = b.length := by simpa using h
    have ga : Digs a := fun x hx => ha x (by simp [hx])
    have gb : Digs b := fun x hx => hb x (by simp [hx])
    obtain ⟨i1, i2⟩ := bl_dig a b hl ga gb
    have la := dv_lt a ga
    have lb := dv_lt b gb
    have hc := ha c (by simp)
    have hd := hb d (by simp)
    rw [dv_cons, dv_cons]
    simp only [Op.bytesLess]
    rw [i1, hl] at *
    generalize hP : 10 ^ b.length = P at *
    by_cases e : c = d
    · subst e
      constructor
      · have : ¬ c < c := by simp
        simp [this]
      · rw [List.cons.injEq, i2]
        constructor
        · rintro ⟨_, h⟩; rw [h]
        · intro h; exact ⟨rfl, by omega⟩
    · have e2 : (c == d) = false := by simpa using e
      have hne : c.toNat ≠ d.toNat := fun h => e (UInt8.toNat_inj.1 h)
      rw [e2]
      have key : (c.toNat < d.toNat → (c.toNat - 48) * P + dv a < (d.toNat - 48) * P + dv b) ∧ (d.toNat < c.toNat → (d.toNat - 48) * P + dv b < (c.toNat - 48) * P + dv a) := by
        constructor
        · intro h
          have := Nat.mul_le_mul_right P (show c.toNat - 48 + 1 ≤ d.toNat - 48 by omega)
          rw [Nat.add_mul, Nat.one_mul] at this
          omega
        · intro h
          have := Nat.mul_le_mul_right P (show d.toNat - 48 + 1 ≤ c.toNat - 48 by omega)
          rw [Nat.add_mul, Nat.one_mul] at this
          omega
      constructor
      · rw [Bool.false_and, Bool.or_false]
        rw [Bool.eq_iff_iff]
        simp only [decide_eq_true_eq]
        rw [UInt8.lt_iff_toNat_lt]
        constructor
        · exact key.1
        · intro h
          refine Decidable.byContradiction fun hn => ?_
          have := key.2 (by omega)
          omega
      · constructor
        · intro h; exact absurd (List.cons.inj h).1 e
        · intro h
          exfalso
          rcases Nat.lt_or_gt_of_ne hne with h1 | h1
          · have := key.1 h1; omega
          · have := key.2 h1; omega
theorem pad_digs (u k : Nat) (h : u < 18446744073709551616) : Digs (pad u k) := by
  intro c hc
  unfold pad at hc
  rcases List.mem_append.1 hc with h1 | h1
  · have := List.eq_of_mem_replicate h1
    subst this
    decide
  · exact dig_ge 19 u (by omega) c h1
theorem dec_four (y : Nat) (h : 1000 ≤ y ∧ y < 10000) : pad y 4 = Lib.decDigits y := by
  have : (Lib.decDigits y).length = 4 := by
    rw [dec_more y (by omega), dec_more (y / 10) (by omega), dec_more (y / 10 / 10) (by omega), dec_one (y / 10 / 10 / 10) (by omega), dec_one (y / 10 / 10 % 10) (by omega), dec_one (y / 10 % 10) (by omega), dec_one (y % 10) (by omega)]
    rfl
  unfold pad
  rw [this]
  rfl
theorem pad4_len (y : Nat) (h : 1000 ≤ y ∧ y < 10000) : (pad y 4).length = 4 := by
  rw [dec_four y h, dec_more y (by omega), dec_more (y / 10) (by omega), dec_more (y / 10 / 10) (by omega), dec_one (y / 10 / 10 / 10) (by omega), dec_one (y / 10 / 10 % 10) (by omega), dec_one (y / 10 % 10) (by omega), dec_one (y % 10) (by omega)]
  rfl
end Go.Proofs.YtkcjgmicoifhcaaGreatDoor.Cn

/- P1: Numbers as words, plain. -/
namespace Go.Proofs.YtkcjgmicoifhcaaGreatDoor.Cn
open Go.Lib

def digB (c : UInt8) : Bool := decide (48 ≤ c.toNat) && decide (c.toNat ≤ 57)
theorem digB_iff (c : UInt8) : digB c = true ↔ 48 ≤ c.toNat ∧ c.toNat ≤ 57 := by simp [digB]
theorem all_digs (w : List UInt8) : w.all digB = true ↔ Digs w := by
  rw [List.all_eq_true]
  exact ⟨fun h c hc => (digB_iff c).1 (h c hc), fun h c hc => (digB_iff c).2 (h c hc)⟩
/-- A word of decimal digits, without noughts ahead, at most ten. -/
def numOK (w : List UInt8) : Bool := !w.isEmpty && (decide (w.length ≤ 10) && ((decide (w.length ≤ 1) || (w.head? != some 48)) && w.all digB))
theorem numOK_iff (w : List UInt8) : numOK w = true ↔ w ≠ [] ∧ w.length ≤ 10 ∧ (w.length ≤ 1 ∨ w.head? ≠ some 48) ∧ Digs w := by
  unfold numOK
  rw [Bool.and_eq_true, Bool.and_eq_true, Bool.and_eq_true, Bool.or_eq_true, all_digs]
  simp
/-- The number of a word, or -1. -/
def numP (w : List UInt8) : Int := if numOK w then (dv w : Int) else -1
theorem parse_digs (M : Nat) : ∀ (l : List UInt8) (acc k : Nat), Digs l → acc < 10 ^ k → l.length + k ≤ 10 → 10000000000 ≤ M → parseUintM M acc l = .ok (acc * 10 ^ l.length + dv l)
  | [], acc, k, _, _, _, _ => by simp [parseUintM, dv]
  | c :: r, acc, k, hd, ha, hl, hM => by
    have hc := hd c (by simp)
    rw [List.length_cons] at hl
    have hk : (10 : Nat) ^ (k + 1) ≤ 10 ^ 10 := Nat.pow_le_pow_right (by decide) (by omega)
    have hk' : (10 : Nat) ^ (k + 1) = 10 * 10 ^ k := by rw [Nat.pow_succ]; omega
    have e10 : (10 : Nat) ^ 10 = 10000000000 := by decide
    rw [e10] at hk
    have h2 : acc * 10 + (c.toNat - 48) < 10 ^ (k + 1) := by omega
    unfold parseUintM
    rw [if_pos hc, if_neg (by omega), if_neg (by omega), parse_digs M r _ (k + 1) (fun d hd' => hd d (by simp [hd'])) h2 (by omega) hM, dv_cons, List.length_cons, Nat.pow_succ]
    congr 1
    generalize 10 ^ r.length = P
    rw [Nat.add_mul, Nat.mul_assoc, Nat.mul_comm 10 P, Nat.add_assoc]
theorem digs_u (u : Nat) (h : u < 18446744073709551616) : Digs (decDigits u) := fun c hc => dig_ge 19 u (by omega) c hc
theorem dec_head (u : Nat) (h : u < 18446744073709551616) (h10 : ¬ u < 10) : (decDigits u).head? ≠ some 48 := by
  intro hh
  match hd : decDigits u, hh with
  | c :: r, hh =>
    obtain rfl := Option.some.inj hh
    have h1 := dv_all u h
    have h2 : Digs r := fun d hd' => digs_u u h d (by rw [hd]; simp [hd'])
    have h3 := dv_lt r h2
    have h4 := decDigits_length u
    rw [hd, dv_cons] at h1
    rw [hd, List.length_cons] at h4
    have h5 : dv r = u := by simpa using h1
    -- a lower bound out of the number of digits
    have h6 : ∀ (m v : Nat), ¬ v < 10 → nDigits v = m + 1 → 10 ^ m ≤ v := by
      intro m
      induction m with
      | zero => intro v hv _; simp; omega
      | succ m ih =>
        intro v hv hn
        rw [nDigits_big hv] at hn
        by_cases hv2 : v / 10 < 10
        · have : nDigits (v / 10) = 1 := nDigits_small hv2
          obtain rfl : m = 0 := by omega
          simp
          omega
        · have := ih (v / 10) hv2 (by omega)
          rw [Nat.pow_succ]
          omega
    have := h6 r.length u h10 h4.symm
    omega
theorem dec_of (w : List UInt8) (h : numOK w = true) : decDigits (dv w) = w := by
  obtain ⟨h0, h1, h2, h3⟩ := (numOK_iff w).1 h
  have hlt := dv_lt w h3
  have hp : (10 : Nat) ^ w.length ≤ 10 ^ 10 := Nat.pow_le_pow_right (by decide) h1
  have e10 : (10 : Nat) ^ 10 = 10000000000 := by decide
  have hu : dv w < 18446744073709551616 := by omega
  have hl : (decDigits (dv w)).length = w.length := by
    rw [decDigits_length]
    match w, h0, h2, h3, hlt with
    | [c], _, _, hd, _ =>
      have := hd c (by simp)
      refine nDigits_small ?_
      rw [dv_cons]
      simp [dv]
      omega
    | c :: d :: r, _, h2, hd, hlt =>
      have hc := hd c (by simp)
      have hne : c.toNat ≠ 48 := by
        intro e
        rcases h2 with h2 | h2
        · simp at h2
        · apply h2
          show some c = some 48
          rw [show c = 48 from UInt8.toNat_inj.1 e]
      refine nDigits_unique (d :: r).length _ ?_ hlt
      rw [dv_cons]
      generalize 10 ^ (d :: r).length = P
      have : 1 * P ≤ (c.toNat - 48) * P := Nat.mul_le_mul_right _ (by omega)
      omega
  exact ((bl_dig _ _ hl (digs_u _ hu) h3).2).2 (dv_all _ hu)
theorem num_prog (w : List UInt8) : (match parseIntB 64 w with | .ok n => if w.length ≤ 10 ∧ itoa n = w ∧ 0 ≤ n then n else -1 | _ => -1) = numP w := by
  unfold numP
  by_cases h : numOK w = true
  · rw [if_pos h]
    obtain ⟨h0, h1, h2, h3⟩ := (numOK_iff w).1 h
    have hlt := dv_lt w h3
    have hp : (10 : Nat) ^ w.length ≤ 10 ^ 10 := Nat.pow_le_pow_right (by decide) h1
    have e10 : (10 : Nat) ^ 10 = 10000000000 := by decide
    have hpar : parseIntB 64 w = .ok (dv w : Int) := by
      match w, h0, h3 with
      | c :: r, _, h3 =>
        have hc := h3 c (by simp)
        unfold parseIntB parseUintB
        have n1 : ¬ (c.toNat = 43 ∨ c.toNat = 45) := by omega
        have n2 : ¬ c.toNat = 45 := by omega
        have hp2 := parse_digs (2 ^ 64 - 1) (c :: r) 0 0 h3 (by simp) (by simpa using h1) (by decide)
        rw [Nat.zero_mul, Nat.zero_add] at hp2
        have : ¬ 2 ^ (64 - 1) ≤ dv (c :: r) := by
          have : (2 : Nat) ^ (64 - 1) = 9223372036854775808 := by decide
          omega
        simp only [if_neg n1]
        rw [if_neg (by simp), hp2]
        simp [this, n2]
    rw [hpar]
    have hit : itoa (dv w : Int) = w := by
      unfold itoa
      rw [if_neg (by omega), Int.toNat_natCast, dec_of w h]
    simp only [hit]
    rw [if_pos ⟨h1, trivial, by omega⟩]
  · rw [if_neg h]
    split
    · rename_i n hn
      rw [if_neg]
      rintro ⟨h1, h2, h3⟩
      apply h
      unfold itoa at h2
      rw [if_neg (by omega)] at h2
      have hu : n.toNat < 18446744073709551616 := by
        have h4 := decDigits_length n.toNat
        rw [h2] at h4
        have h5 := lt_pow_nDigits n.toNat
        have hp : (10 : Nat) ^ nDigits n.toNat ≤ 10 ^ 10 := Nat.pow_le_pow_right (by decide) (by omega)
        have e10 : (10 : Nat) ^ 10 = 10000000000 := by decide
        omega
      rw [numOK_iff, ← h2]
      refine ⟨fun he => ?_, by rw [h2]; exact h1, ?_, digs_u _ hu⟩
      · have := nDigits_pos n.toNat
        rw [← decDigits_length, he] at this
        simp at this
      · by_cases h10 : n.toNat < 10
        · left
          rw [dec_one _ h10]
          simp
        · exact .inr (dec_head _ hu h10)
    · rfl
theorem numP_ge (w : List UInt8) : -1 ≤ numP w := by
  unfold numP
  split <;> omega
theorem numP_lt (w : List UInt8) : numP w < 10000000000 := by
  unfold numP
  split
  · rename_i h
    obtain ⟨_, h1, _, h3⟩ := (numOK_iff w).1 h
    have hlt := dv_lt w h3
    have hp : (10 : Nat) ^ w.length ≤ 10 ^ 10 := Nat.pow_le_pow_right (by decide) h1
    have e10 : (10 : Nat) ^ 10 = 10000000000 := by decide
    omega
  · decide
end Go.Proofs.YtkcjgmicoifhcaaGreatDoor.Cn
