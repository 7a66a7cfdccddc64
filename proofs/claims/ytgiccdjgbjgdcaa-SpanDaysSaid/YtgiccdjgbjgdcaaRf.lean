/- The reference's Days, and the law's own, same, evaluated; their contracts. -/
import Derived.Test.YtgiccdjgbjgdcaaRe
namespace Go.Proofs.Ytgiccdjgbjgdcaa.Sp
open Go.RowKit Go.Proofs.YtgiccdjgbjgdcaaW.PrintWords PSpanTells

theorem rdays_l0 (xs : List S51) (hl : xs.length ≤ 1000) (hg : ∀ x ∈ xs, 0 ≤ x.f0 ∧ x.f0 < x.f1 ∧ x.f1 ≤ 87659) : ∀ (m k : Nat) (acc : Int), xs.length - k < m → k ≤ xs.length → 0 ≤ acc → acc ≤ 87660 * (k : Int) →
    annuityref06_Days.l0 m (xs.map to53) acc (k : Int) = some (acc + sumD (xs.drop k)) := by
  intro m
  induction m with
  | zero => intro k acc h; omega
  | succ m ih =>
    intro k acc hm hk h0 h1
    simp only [annuityref06_Days.l0]
    have hml : (xs.map to53).length = xs.length := List.length_map _
    by_cases hlt : k < xs.length
    · have e2 : wrap64 ((k : Int) + 1) = ((k + 1 : Nat) : Int) := by rw [wr64 _ (by omega)]; omega
      obtain ⟨b1, b2, b3⟩ := hg xs[k] (List.getElem_mem hlt)
      rw [if_pos (show (k : Int) < ((xs.map to53).length : Int) by omega), if_pos (show (0 : Int) ≤ (k : Int) by omega), rd53a xs k hlt, rd53b xs k hlt, e2]
      have e3 : wrap64 (xs[k].f1 - xs[k].f0) = xs[k].f1 - xs[k].f0 := wr64 _ (by omega)
      have e4 : wrap64 (acc + (xs[k].f1 - xs[k].f0)) = acc + (xs[k].f1 - xs[k].f0) := wr64 _ (by omega)
      rw [e3, e4]
      clear e2 e3 e4
      rw [ih (k + 1) _ (by omega) (by omega) (by omega) (by omega), List.drop_eq_getElem_cons hlt]
      simp only [sumD]
      congr 1
      omega
    · rw [if_neg (show ¬ (k : Int) < ((xs.map to53).length : Int) by omega), List.drop_eq_nil_of_le (by omega)]
      simp [sumD]
theorem rdays_eval (xs : List S51) (hl : xs.length ≤ 1000000) : annuityref06_Days.f (xs.length + 1) (xs.map to53) = some (daysF xs) := by
  unfold annuityref06_Days.f daysF
  rw [rgood_eval xs hl]
  cases hg : goodB xs with
  | false => rfl
  | true =>
    have h1 := hg
    simp only [goodB, Bool.and_eq_true, decide_eq_true_eq] at h1
    obtain ⟨hlen, hgf⟩ := h1
    obtain ⟨_, _, hb⟩ := good_bounds xs (-1) hgf (by omega)
    simp only [Option.bind_some, if_true]
    have := rdays_l0 xs hlen (fun x hx => by obtain ⟨a, b, c⟩ := hb x hx; exact ⟨by omega, b, c⟩) (xs.length + 1) 0 0 (by omega) (by omega) (by omega) (by omega)
    rw [List.drop_zero, Int.zero_add] at this
    exact this

theorem own_l0 (xs : List S51) (hl : xs.length ≤ 1000000) : ∀ (m k : Nat), xs.length - k < m → k ≤ xs.length →
    annuitylaw06_own.l0 m xs ((xs.take k).map to53) (k : Int) = some (xs.map to53) := by
  intro m
  induction m with
  | zero => intro k h; omega
  | succ m ih =>
    intro k hm hk
    simp only [annuitylaw06_own.l0]
    have hml : ((xs.take k).map to53).length = k := by rw [List.length_map, List.length_take]; omega
    by_cases hlt : k < xs.length
    · have e2 : wrap64 ((k : Int) + 1) = ((k + 1 : Nat) : Int) := by rw [wr64 _ (by omega)]; omega
      have e5 : (xs.take k).map to53 ++ [(⟨(rd_T51 xs k).f0, (rd_T51 xs k).f1⟩ : S53)] = (xs.take (k + 1)).map to53 := by
        rw [List.take_succ_eq_append_getElem hlt, List.map_append, rd_get xs k hlt]
        rfl
      rw [if_pos (show (k : Int) < (xs.length : Int) by omega), if_pos (show (0 : Int) ≤ (k : Int) by omega), if_pos (show ((xs.take k).map to53).length < 8796093022208 by omega), e2, e5]
      exact ih (k + 1) (by omega) (by omega)
    · rw [if_neg (show ¬ (k : Int) < (xs.length : Int) by omega), show k = xs.length by omega, List.take_length]
theorem own_eval (xs : List S51) (hl : xs.length ≤ 1000000) : annuitylaw06_own.f (xs.length + 1) xs = some (xs.map to53) := own_l0 xs hl (xs.length + 1) 0 (by omega) (by omega)

/-- Alike. -/
def sameB : List S51 → List S51 → Bool
  | [], [] => true
  | x :: xs, y :: ys => decide (x.f0 = y.f0) && (decide (x.f1 = y.f1) && sameB xs ys)
  | _, _ => false
theorem sameB_refl (xs : List S51) : sameB xs xs = true := by
  induction xs with
  | nil => rfl
  | cons x xs ih => simp [sameB, ih]
theorem sameB_len : ∀ (xs ys : List S51), xs.length ≠ ys.length → sameB xs ys = false
  | [], [], h => absurd rfl h
  | [], _ :: _, _ => rfl
  | _ :: _, [], _ => rfl
  | x :: xs, y :: ys, h => by
    simp only [sameB]
    rw [sameB_len xs ys (fun e => h (by simp [e]))]
    simp
theorem same_l0 (xs : List S51) (ys : List S51) (hl : xs.length ≤ 1000000) (hh : xs.length = ys.length) : ∀ (m k : Nat), xs.length - k < m → k ≤ xs.length →
    annuitylaw06_same.l0 m xs (ys.map to53) (k : Int) = some (sameB (xs.drop k) (ys.drop k)) := by
  intro m
  induction m with
  | zero => intro k h; omega
  | succ m ih =>
    intro k hm hk
    simp only [annuitylaw06_same.l0]
    have hml : (ys.map to53).length = ys.length := List.length_map _
    by_cases hlt : k < xs.length
    · have hlt2 : k < ys.length := by omega
      have e2 : wrap64 ((k : Int) + 1) = ((k + 1 : Nat) : Int) := by rw [wr64 _ (by omega)]; omega
      rw [if_pos (show (k : Int) < (xs.length : Int) by omega), if_pos (show (0 : Int) ≤ (k : Int) by omega), if_pos (show (k : Int) < ((ys.map to53).length : Int) by omega), e2, ih (k + 1) (by omega) (by omega),
        List.drop_eq_getElem_cons hlt, List.drop_eq_getElem_cons hlt2]
      simp only [rd53a ys k hlt2, rd53b ys k hlt2, rd_get xs k hlt, sameB]
      by_cases h1 : xs[k].f0 = ys[k].f0
      · rw [if_pos h1, decide_eq_true h1]
        by_cases h2 : xs[k].f1 = ys[k].f1
        · rw [if_pos h2, decide_eq_true h2]; rfl
        · rw [if_neg h2, decide_eq_false h2]; rfl
      · rw [if_neg h1, decide_eq_false h1]; rfl
    · rw [if_neg (show ¬ (k : Int) < (xs.length : Int) by omega), List.drop_eq_nil_of_le (by omega), List.drop_eq_nil_of_le (by omega)]
      rfl
theorem same_eval (xs ys : List S51) (hl : xs.length ≤ 1000000) : annuitylaw06_same.f (xs.length + 1) xs (ys.map to53) = some (sameB xs ys) := by
  unfold annuitylaw06_same.f
  rw [List.length_map]
  by_cases h : xs.length = ys.length
  · rw [if_pos (show (xs.length : Int) = (ys.length : Int) by omega)]
    exact same_l0 xs ys hl h (xs.length + 1) 0 (by omega) (by omega)
  · rw [if_neg (show ¬ (xs.length : Int) = (ys.length : Int) by omega), sameB_len xs ys h]
end Go.Proofs.Ytgiccdjgbjgdcaa.Sp
