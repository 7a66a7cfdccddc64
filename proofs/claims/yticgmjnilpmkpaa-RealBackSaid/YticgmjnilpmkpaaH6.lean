/- The walk of RealBack. -/
import Derived.Test.YticgmjnilpmkpaaH5
import Derived.Deep.CutRange
namespace Go.Proofs.Yticgmjnilpmkpaa.Re
open Go.RowKit

theorem tmod_bd (c n : Int) (hn : 0 < n) : -n < Int.tmod c n ∧ Int.tmod c n < n := by
  rcases Int.le_total 0 c with h | h
  · rw [Int.tmod_eq_emod_of_nonneg h]
    have := Int.emod_nonneg c (show n ≠ 0 by omega)
    have := Int.emod_lt_of_pos c hn
    omega
  · have e : Int.tmod c n = -(Int.tmod (-c) n) := by rw [Int.neg_tmod, Int.neg_neg]
    rw [e, Int.tmod_eq_emod_of_nonneg (show 0 ≤ -c by omega)]
    have := Int.emod_nonneg (-c) (show n ≠ 0 by omega)
    have := Int.emod_lt_of_pos (-c) hn
    omega
theorem mod_calls (p : Int) (w : World) : Calls Try.prog 27 #[.int .i64 p, .int .i64 1000001] w fun e w' => ∃ m : Nat, m ≤ 1000000 ∧ e = .returned (.int .i64 (m : Int)) ∧ w' = w := by
  have h1 := tmod_bd p 1000001 (by decide)
  go_enter Try.func27, Try.ntmps27
  go_wp2_with fail
  go_ret
  generalize Int.tmod p 1000001 = t at *
  exact ⟨((t + 1000001) % 1000001).toNat, by omega, by rw [Int.toNat_of_nonneg (by omega)]; rfl, rfl⟩
theorem nil_words (x : Nat) (hx : x < 18446744073709551616) (hg : goodR x = true) (hz : isZ x = true) : x = 0 ∨ x = 9223372036854775808 := by
  rcases good_cases x hx hg with h | ⟨e, f, h1, h2, rfl⟩
  · exact .inr h
  · rcases Nat.eq_zero_or_pos e with rfl | he
    · rcases Nat.eq_zero_or_pos f with rfl | hf
      · exact .inl rfl
      · rw [show 0 * 4503599627370496 + f = f by omega] at hz
        have := (good_low f hf h2).2.1
        rw [this] at hz
        cases hz
    · have := (nrm_word e f he h1 h2).1.z
      rw [this] at hz
      cases hz
theorem back_of (x : Nat) (hx : x < 18446744073709551616) : ofB (bitsN x) = true ∧ (goodR x = false → (FloatKind.f64.format.order (ofN (bitsN x)) 0 == some Ordering.eq) = true) ∧
    (goodR x = true → (FloatKind.f64.format.order (ofN (bitsN x)) x == some Ordering.eq) = true) := by
  have z1 : ofB 0 = true ∧ ofN 0 = 0 := ⟨by kernel_rfl, by kernel_rfl⟩
  rcases Bool.eq_false_or_eq_true (goodR x) with hg | hg
  · rcases Bool.eq_false_or_eq_true (isZ x) with hz | hz
    · have hb : bitsN x = 0 := by unfold bitsN; rw [hg, hz]; rfl
      rw [hb, z1.2]
      refine ⟨z1.1, (fun h => by rw [hg] at h; cases h), fun _ => ?_⟩
      rcases nil_words x hx hg hz with rfl | rfl
      · kernel_rfl
      · kernel_rfl
    · have hb : bitsN x = x := by unfold bitsN; rw [hg, hz]; rfl
      rw [hb]
      obtain ⟨y1, y2⟩ := of_yes (u := (x : Int)) (by rw [Int.toNat_natCast]; exact hg) (by rw [Int.toNat_natCast]; exact hb)
      rw [y2, Int.toNat_natCast]
      refine ⟨y1, (fun h => by rw [hg] at h; cases h), fun _ => ?_⟩
      have : nanB x = false := by
        unfold goodR at hg
        cases h : nanB x with
        | false => rfl
        | true => rw [h] at hg; cases hg
      unfold nanB at this
      simpa using this
  · have hb : bitsN x = 0 := by unfold bitsN; rw [hg]; rfl
    rw [hb, z1.2]
    exact ⟨z1.1, fun _ => by kernel_rfl, fun h => by rw [hg] at h; cases h⟩
set_option maxHeartbeats 2000000 in
theorem back_walk (c p : Int) (x : Nat) (w : World) (hx : x < 18446744073709551616) :
    Calls Try.prog 6 #[.int .i64 c, .int .i64 p, .float .f64 x] w fun e w' => e = .returned (.bool true) ∧ w' = w := by
  have h1 := tmod_bd c 10000000000001 (by decide)
  have HB := Lib.hid (fun W => bits_calls x W)
  have HO := Lib.hid (fun W => of_calls (bitsN x) W)
  have HG := Lib.hid (fun W => rgood_calls x W)
  have hof := back_of x hx
  obtain ⟨k1, k2, k3⟩ := hof
  rw [k1] at HO
  generalize bitsN x = u at *
  generalize ofN u = y at *
  clear k1
  go_enter Try.func6, Try.ntmps6
  go_upto_if 18 with fail
  go_cut [7] from 17 to 20 (fun a W => ∃ m : Nat, m ≤ 10000000000000 ∧ a = .int .i64 (m : Int) ∧ W = w)
  case first =>
    generalize Int.tmod c 10000000000001 = t at *
    by_cases h0 : t < 0
    · go_wp2_with fail
      go_meet
      case rel => exact ⟨(-t).toNat, by omega, by rw [Int.toNat_of_nonneg (by omega)], rfl⟩
    · go_wp2_with fail
      go_meet
      case rel => exact ⟨t.toNat, by omega, by rw [Int.toNat_of_nonneg (by omega)], rfl⟩
  case rest =>
    obtain ⟨m, hm, rfl, rfl⟩ := hcut
    clear h1
    obtain ⟨d1, d2⟩ := back100 m hm
    have HD := Lib.hid (fun W => dol_calls m W)
    have HC := Lib.hid (fun W => cents_calls (dolN m) W d1)
    rw [d2] at HC
    generalize dolN m = dN at *
    clear d1 d2
    have hmm : ((m : Int) != (m : Int)) = false := by simp
    go_wp2_with fail
    refine (HD.out _).mono ?_
    rintro e w1 ⟨rfl, rfl⟩
    go_wp2_with fail
    refine (HC.out _).mono ?_
    rintro e w1 ⟨rfl, rfl⟩
    go_wp2_with fail
    refine (mod_calls p _).mono ?_
    rintro e w1 ⟨q, hq, rfl, rfl⟩
    obtain ⟨d1, d2⟩ := back10000 q hq
    have HD := Lib.hid (fun W => pct_calls q W)
    have HC := Lib.hid (fun W => ppm_calls (pctN q) W d1)
    rw [d2] at HC
    generalize pctN q = dN at *
    clear d1 d2
    have hqq : ((q : Int) != (q : Int)) = false := by simp
    go_wp2_with fail
    refine (HD.out _).mono ?_
    rintro e w1 ⟨rfl, rfl⟩
    go_wp2_with fail
    refine (HC.out _).mono ?_
    rintro e w1 ⟨rfl, rfl⟩
    go_wp2_with fail
    refine (HB.out _).mono ?_
    rintro e w1 ⟨rfl, rfl⟩
    go_wp2_with fail
    refine (HO.out _).mono ?_
    rintro e w1 ⟨rfl, rfl⟩
    go_wp2_with fail
    refine (HG.out _).mono ?_
    rintro e w1 ⟨rfl, rfl⟩
    cases hg : goodR x with
    | false =>
      have k := k2 hg
      clear k2 k3 hg
      go_wp2_with fail
      refine (wakes_calls _).mono ?_
      rintro e w6 ⟨rfl, rfl⟩
      go_wp2_with fail
      go_ret
      exact ⟨rfl, rfl⟩
    | true =>
      have k := k3 hg
      clear k2 k3 hg
      go_wp2_with fail
      refine (wakes_calls _).mono ?_
      rintro e w6 ⟨rfl, rfl⟩
      go_wp2_with fail
      go_ret
      exact ⟨rfl, rfl⟩
end Go.Proofs.Yticgmjnilpmkpaa.Re
