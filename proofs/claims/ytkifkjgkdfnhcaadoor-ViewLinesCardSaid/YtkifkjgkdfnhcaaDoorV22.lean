/- date.Of at a month's first day; date.First: a number, whatever it is. -/
import Derived.Test.YtkifkjgkdfnhcaaDoorV4
namespace Go.Proofs.YtkifkjgkdfnhcaaDoor.Vw
open Go.RowKit Go.Sort Go.Lib Go.Shelf

theorem yr_bound {y : Int} (h : 1960 ≤ y ∧ y ≤ 2199) : -1000 ≤ yr y ∧ yr y ≤ 200000 := by
  unfold yr lg
  omega
set_option maxRecDepth 20000 in
set_option maxHeartbeats 4000000 in
theorem of_calls (y m : Int) (hy : 1960 ≤ y ∧ y ≤ 2199) (hm : 1 ≤ m ∧ m ≤ 12) (w : World) :
    Calls Tryd.prog 83 #[.int .i64 y, .int .i64 m, .int .i64 1] w fun e w' => (∃ a : Int, (-1000 ≤ a ∧ a ≤ 300000) ∧ e = .returned (.tuple #[.int .i64 a, .int .i64 0])) ∧ w' = w := by
  have HD := Lib.hid (fun i (hi : 1 ≤ i ∧ i ≤ 12) W => days_calls y i (by omega) (by omega) hi W)
  have HDm := Lib.hid (days_calls y m (by omega) (by omega) hm)
  have HM := Lib.hid (fun i (hi : 1 ≤ i ∧ i ≤ 12) => mdN_le y i hi)
  have HY := Lib.hid (years_calls y (by omega) (by omega))
  have HYb := Lib.hid (yr_bound hy)
  have hmd := mdN_le y m hm
  have y1 : ¬ y < 1960 := by omega
  have y2 : ¬ 2199 < y := by omega
  have y3 : ¬ mdN y m < 1 := by omega
  generalize hq : mdN y m = M0 at *
  generalize hq2 : yr y = Y0 at *
  clear hq hq2
  go_enter Tryd.func83, Tryd.ntmps83
  go_wp2_with fail
  refine (HDm.out _).mono ?_
  rintro e w1 ⟨rfl, rfl⟩
  go_wp2_with fail
  refine (HY.out _).mono ?_
  rintro e w1 ⟨rfl, rfl⟩
  go_wp2_with fail
  go_loop [8, 9] (fun v i => ∃ (k : Nat) (a : Int), 1 ≤ k ∧ (k : Int) ≤ m ∧ v = .int .i64 a ∧ i = .int .i64 (k : Int) ∧ -1000 ≤ a ∧ a ≤ 200000 + 31 * (k : Int)) (fun _ i => m.toNat - (RowKit.intOf i).toNat)
  case atStart => exact ⟨1, Y0, Nat.le_refl _, hm.1, rfl, rfl, by have := HYb.out; omega, by have := HYb.out; omega⟩
  case round =>
    obtain ⟨k, a, hk1, hkm, rfl, rfl, ha1, ha2⟩ := hrel
    by_cases h2 : (k : Int) < m
    · have hkk : 1 ≤ (k : Int) ∧ (k : Int) ≤ 12 := by omega
      have HDk := Lib.hid (HD.out k hkk)
      have hMk := HM.out k hkk
      generalize mdN y k = Mk at *
      go_wp2_with fail
      refine (HDk.out _).mono ?_
      rintro e w1 ⟨rfl, rfl⟩
      go_wp2_with fail
      go_round
      case rel => exact ⟨k + 1, a + Mk, by omega, by omega, by go_num, by go_num, by omega, by omega⟩
      case measure => simp [RowKit.intOf]; omega
    · go_wp2_with fail
      go_ret2
      exact ⟨⟨_, by omega, rfl⟩, rfl⟩
set_option maxRecDepth 20000 in
set_option maxHeartbeats 4000000 in
theorem first_calls (m : Int) (w : World) :
    Calls Tryd.prog 65 #[.int .i64 m] w fun e w' => (∃ a b : Int, (-1000 ≤ a ∧ a ≤ 300000) ∧ e = .returned (.tuple #[.int .i64 a, .int .i64 b])) ∧ w' = w := by
  by_cases h0 : m < 0
  · go_enter Tryd.func65, Tryd.ntmps65
    go_wp2_with fail
    go_ret2
    exact ⟨⟨0, 15, by decide, rfl⟩, rfl⟩
  · by_cases h1 : 2880 ≤ m
    · go_enter Tryd.func65, Tryd.ntmps65
      go_wp2_with fail
      go_ret2
      exact ⟨⟨0, by decide, 15, rfl⟩, rfl⟩
    · have HO := Lib.hid (of_calls (1960 + m / 12) (m % 12 + 1) (by omega) (by omega))
      have q1 : m.tdiv 12 = m / 12 := Int.tdiv_eq_ediv_of_nonneg (by omega)
      have q2 : m.tmod 12 = m % 12 := Int.tmod_eq_emod_of_nonneg (by omega)
      have b1 : 0 ≤ m / 12 ∧ m / 12 ≤ 239 := by omega
      have b2 : 0 ≤ m % 12 ∧ m % 12 ≤ 11 := by omega
      generalize m / 12 = A at *
      generalize m % 12 = B at *
      go_enter Tryd.func65, Tryd.ntmps65
      go_wp2_with fail
      refine (HO.out _).mono ?_
      rintro e w1 ⟨⟨a, ha, rfl⟩, rfl⟩
      go_wp2_with fail
      go_ret2
      exact ⟨⟨a, 0, ha, rfl⟩, rfl⟩
end Go.Proofs.YtkifkjgkdfnhcaaDoor.Vw
