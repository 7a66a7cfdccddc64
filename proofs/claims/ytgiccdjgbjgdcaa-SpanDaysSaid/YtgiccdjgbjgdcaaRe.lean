/- The reference's plain functions over stretches, and the law's own, same. -/
import Derived.Test.YtgiccdjgbjgdcaaSw
namespace Go.Proofs.Ytgiccdjgbjgdcaa.Sp
open Go.RowKit Go.Proofs.YtgiccdjgbjgdcaaW.PrintWords PSpanTells

def to53 (x : S51) : S53 := ⟨x.f0, x.f1⟩
theorem rd53 (xs : List S51) (k : Nat) (h : k < xs.length) : rd_T53 (xs.map to53) (k : Int) = to53 xs[k] := by unfold rd_T53; simp [h]

theorem rd53a (xs : List S51) (k : Nat) (h : k < xs.length) : (rd_T53 (xs.map to53) (k : Int)).f0 = xs[k].f0 := by rw [rd53 xs k h]; rfl
theorem rd53b (xs : List S51) (k : Nat) (h : k < xs.length) : (rd_T53 (xs.map to53) (k : Int)).f1 = xs[k].f1 := by rw [rd53 xs k h]; rfl

theorem rgood_l0 (xs : List S51) (hl : xs.length ≤ 1000000) : ∀ (m k : Nat) (prev : Int), xs.length - k < m → k ≤ xs.length → (k = 0 → prev = -1) → (∀ h : 0 < k ∧ k ≤ xs.length, prev = (xs[k - 1]'(by omega)).f1) → -1 ≤ prev →
    annuityref06_Good.l0 m (xs.map to53) (k : Int) = some (goodFrom prev (xs.drop k) && decide (xs.length ≤ 1000)) := by
  intro m
  induction m with
  | zero => intro k prev h; omega
  | succ m ih =>
    intro k prev hm hk hp0 hp1 hp
    simp only [annuityref06_Good.l0]
    have hml : (xs.map to53).length = xs.length := List.length_map _
    by_cases hlt : k < xs.length
    · have e2 : wrap64 ((k : Int) + 1) = ((k + 1 : Nat) : Int) := by rw [wr64 _ (by omega)]; omega
      rw [if_pos (show (k : Int) < ((xs.map to53).length : Int) by omega), if_pos (show (0 : Int) ≤ (k : Int) by omega), e2, List.drop_eq_getElem_cons hlt]
      clear e2
      simp only [goodFrom, rd53a xs k hlt, rd53b xs k hlt]
      by_cases h1 : xs[k].f0 < 0
      · rw [if_pos h1, decide_eq_false (show ¬ prev < xs[k].f0 by omega)]; rfl
      · rw [if_neg h1]
        by_cases h2 : xs[k].f1 ≤ xs[k].f0
        · rw [if_pos h2, decide_eq_false (show ¬ xs[k].f0 < xs[k].f1 by omega)]; simp
        · rw [if_neg h2, decide_eq_true (show xs[k].f0 < xs[k].f1 by omega)]
          by_cases h3 : xs[k].f1 > 87659
          · rw [if_pos h3, decide_eq_false (show ¬ xs[k].f1 ≤ 87659 by omega)]; simp
          · rw [if_neg h3, decide_eq_true (show xs[k].f1 ≤ 87659 by omega)]
            have next := ih (k + 1) xs[k].f1 (by omega) (by omega) (by omega) (fun _ => rfl) (by omega)
            by_cases h4 : k = 0
            · subst h4
              rw [if_neg (by decide), next, decide_eq_true (show prev < xs[0].f0 by have := hp0 rfl; omega)]
              simp
            · have e3 : wrap64 ((k : Int) - 1) = ((k - 1 : Nat) : Int) := by rw [wr64 _ (by omega)]; omega
              have e4 := hp1 ⟨by omega, by omega⟩
              rw [if_pos (show (k : Int) > 0 by omega), e3]
              clear e3
              rw [if_pos (show (0 : Int) ≤ ((k - 1 : Nat) : Int) by omega), if_pos (show ((k - 1 : Nat) : Int) < ((xs.map to53).length : Int) by omega), next]
              simp only [rd53b xs (k - 1) (by omega)]
              rw [← e4]
              by_cases h5 : xs[k].f0 ≤ prev
              · rw [if_pos h5, decide_eq_false (show ¬ prev < xs[k].f0 by omega)]; rfl
              · rw [if_neg h5, decide_eq_true (show prev < xs[k].f0 by omega)]; simp
    · rw [if_neg (show ¬ (k : Int) < ((xs.map to53).length : Int) by omega), List.drop_eq_nil_of_le (by omega), hml]
      simp only [goodFrom, Bool.true_and]
      congr 1
      rw [decide_eq_decide]
      omega
theorem rgood_eval (xs : List S51) (hl : xs.length ≤ 1000000) : annuityref06_Good.f (xs.length + 1) (xs.map to53) = some (goodB xs) := by
  have := rgood_l0 xs hl (xs.length + 1) 0 (-1) (by omega) (by omega) (fun _ => rfl) (fun h => absurd h.1 (by omega)) (by omega)
  rw [List.drop_zero] at this
  unfold annuityref06_Good.f goodB
  rw [Bool.and_comm]
  exact this

theorem rin_l0 (xs : List S51) (hl : xs.length ≤ 1000000) (day : Int) : ∀ (m k : Nat), xs.length - k < m → k ≤ xs.length →
    annuityref06_in.l0 m (xs.map to53) day (k : Int) = some (inB (xs.drop k) day) := by
  intro m
  induction m with
  | zero => intro k h; omega
  | succ m ih =>
    intro k hm hk
    simp only [annuityref06_in.l0]
    have hml : (xs.map to53).length = xs.length := List.length_map _
    by_cases hlt : k < xs.length
    · have e2 : wrap64 ((k : Int) + 1) = ((k + 1 : Nat) : Int) := by rw [wr64 _ (by omega)]; omega
      rw [if_pos (show (k : Int) < ((xs.map to53).length : Int) by omega), if_pos (show (0 : Int) ≤ (k : Int) by omega), e2, List.drop_eq_getElem_cons hlt, ih (k + 1) (by omega) (by omega)]
      simp only [inB, List.any_cons, rd53a xs k hlt, rd53b xs k hlt]
      by_cases h1 : xs[k].f0 ≤ day
      · rw [if_pos h1, decide_eq_true h1]
        by_cases h2 : day < xs[k].f1
        · rw [if_pos h2, decide_eq_true h2]; rfl
        · rw [if_neg h2, decide_eq_false h2]; rfl
      · rw [if_neg h1, decide_eq_false h1]; rfl
    · rw [if_neg (show ¬ (k : Int) < ((xs.map to53).length : Int) by omega), List.drop_eq_nil_of_le (by omega)]
      rfl
theorem rin_eval (xs : List S51) (hl : xs.length ≤ 1000000) (day : Int) : annuityref06_in.f (xs.length + 1) (xs.map to53) day = some (inB xs day) := by
  have := rin_l0 xs hl day (xs.length + 1) 0 (by omega) (by omega)
  rw [List.drop_zero] at this
  exact this
theorem rhas_eval (xs : List S51) (hl : xs.length ≤ 1000000) (day : Int) : annuityref06_Has.f (xs.length + 1) (xs.map to53) day = some (goodB xs && inB xs day) := by
  unfold annuityref06_Has.f
  rw [rgood_eval xs hl, rin_eval xs hl]
  cases goodB xs <;> simp
end Go.Proofs.Ytgiccdjgbjgdcaa.Sp
