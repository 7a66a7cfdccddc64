/- Mod: a number from 0 to n - 1. -/
import Derived.Test.YtgiccdjgbjgdcaaCp
namespace Go.Proofs.Ytgiccdjgbjgdcaa.Sp
open Go.RowKit Go.Proofs.YtgiccdjgbjgdcaaW.PrintWords PSpanTells

theorem mod_calls (k n : Int) (w : World) (h1 : 1 ≤ n) (h2 : n ≤ 1000000) :
    Calls Try.prog 23 #[.int .i64 k, .int .i64 n] w fun e w' => ∃ r, e = .returned (.int .i64 r) ∧ w' = w ∧ 0 ≤ r ∧ r < n := by
  have a1 := Int.tmod_lt_of_pos k (show 0 < n by omega)
  have a2 := Int.lt_tmod_of_pos k (show 0 < n by omega)
  obtain ⟨m, hm⟩ : ∃ m, k.tmod n = m := ⟨_, rfl⟩
  rw [hm] at a1 a2
  have b1 := Int.tmod_lt_of_pos (m + n) (show 0 < n by omega)
  have b2 := Int.tmod_nonneg n (show 0 ≤ m + n by omega)
  obtain ⟨r, hr⟩ : ∃ r, (m + n).tmod n = r := ⟨_, rfl⟩
  rw [hr] at b1 b2
  have w1 : IntKind.i64.wrap m = m := by rw [IntKind.wrap_i64]; omega
  have w2 : IntKind.i64.wrap (m + n) = m + n := by rw [IntKind.wrap_i64]; omega
  have w3 : IntKind.i64.wrap r = r := by rw [IntKind.wrap_i64]; omega
  have hne : ¬ n = 0 := by omega
  have hnb : (n == 0) = false := by simpa using hne
  have hlt : ¬ n < 1 := by omega
  go_enter Try.func23, Try.ntmps23
  go_wp2_with fail
  go_ret
  exact ⟨r, rfl, rfl, b2, b1⟩
end Go.Proofs.Ytgiccdjgbjgdcaa.Sp
