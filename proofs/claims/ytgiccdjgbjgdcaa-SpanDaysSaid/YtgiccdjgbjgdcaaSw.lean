/- The reference's and the law's plain functions over stretches, evaluated. -/
import Derived.Test.YtgiccdjgbjgdcaaCu
import Derived.Test.YtgiccdjgbjgdcaaPSpanTellsx4
namespace Go.Proofs.Ytgiccdjgbjgdcaa.Sp
open Go.RowKit Go.Proofs.YtgiccdjgbjgdcaaW.PrintWords PSpanTells

/-- How many days. -/
def sumD : List S51 → Int
  | [] => 0
  | x :: xs => (x.f1 - x.f0) + sumD xs
/-- What a set's stretches lie between. -/
theorem good_bounds : ∀ (xs : List S51) (last : Int), goodFrom last xs = true → last ≤ 87659 → 0 ≤ sumD xs ∧ sumD xs ≤ 87659 - last ∧ ∀ x ∈ xs, last < x.f0 ∧ x.f0 < x.f1 ∧ x.f1 ≤ 87659 := by
  intro xs
  induction xs with
  | nil => intro last _ h; exact ⟨Int.le_refl _, by simp [sumD]; omega, by simp⟩
  | cons x xs ih =>
    intro last h hl
    simp only [goodFrom, Bool.and_eq_true, decide_eq_true_eq] at h
    obtain ⟨h1, h2, h3, h4⟩ := h
    obtain ⟨i1, i2, i3⟩ := ih x.f1 h4 h3
    refine ⟨by simp only [sumD]; omega, by simp only [sumD]; omega, fun y hy => ?_⟩
    rcases List.mem_cons.1 hy with rfl | hy
    · exact ⟨h1, h2, h3⟩
    · obtain ⟨a, b, c⟩ := i3 y hy
      exact ⟨by omega, b, c⟩
theorem sumD_append (xs ys : List S51) : sumD (xs ++ ys) = sumD xs + sumD ys := by
  induction xs with
  | nil => simp [sumD]
  | cons x xs ih => simp only [List.cons_append, sumD, ih]; omega

theorem days_l0 (xs : List S51) (hl : xs.length ≤ 1000) (hg : ∀ x ∈ xs, 0 ≤ x.f0 ∧ x.f0 < x.f1 ∧ x.f1 ≤ 87659) : ∀ (m k : Nat) (acc : Int), xs.length - k < m → k ≤ xs.length → 0 ≤ acc → acc ≤ 87660 * (k : Int) →
    span_Days.l0 m acc xs (xs.length : Int) (k : Int) = some (acc + sumD (xs.drop k)) := by
  intro m
  induction m with
  | zero => intro k acc h; omega
  | succ m ih =>
    intro k acc hm hk h0 h1
    simp only [span_Days.l0]
    by_cases hlt : k < xs.length
    · have e2 : wrap64 ((k : Int) + 1) = ((k + 1 : Nat) : Int) := by rw [wr64 _ (by omega)]; omega
      obtain ⟨b1, b2, b3⟩ := hg xs[k] (List.getElem_mem hlt)
      rw [if_pos (show (k : Int) < (xs.length : Int) by omega), if_pos (show (0 : Int) ≤ (k : Int) by omega), if_pos (show (k : Int) < (xs.length : Int) by omega), rd_get xs k hlt, e2]
      have e3 : wrap64 (xs[k].f1 - xs[k].f0) = xs[k].f1 - xs[k].f0 := wr64 _ (by omega)
      have e4 : wrap64 (acc + (xs[k].f1 - xs[k].f0)) = acc + (xs[k].f1 - xs[k].f0) := wr64 _ (by omega)
      rw [e3, e4]
      clear e2 e3 e4
      rw [ih (k + 1) _ (by omega) (by omega) (by omega) (by omega), List.drop_eq_getElem_cons hlt]
      simp only [sumD]
      congr 1
      omega
    · rw [if_neg (show ¬ (k : Int) < (xs.length : Int) by omega), List.drop_eq_nil_of_le (by omega)]
      simp [sumD]
theorem good_up (xs : List S51) (a b : Nat) (hab : a ≤ b) (r : Bool) (h : span_Good.f a xs = some r) : span_Good.f b xs = some r := by
  induction hab with
  | refl => exact h
  | step _ ih => exact span_Good.mono xs _ r ih
def daysF (xs : List S51) : Int := if goodB xs = true then sumD xs else 0
theorem days_eval (xs : List S51) : ∃ k, span_Days.f k xs = some (daysF xs) := by
  obtain ⟨k0, hk0⟩ := good_eval xs
  unfold daysF
  cases hg : goodB xs with
  | false =>
    refine ⟨k0, ?_⟩
    unfold span_Days.f
    rw [hk0, hg]
    rfl
  | true =>
    have h1 := hg
    simp only [goodB, Bool.and_eq_true, decide_eq_true_eq] at h1
    obtain ⟨hlen, hgf⟩ := h1
    obtain ⟨_, _, hb⟩ := good_bounds xs (-1) hgf (by omega)
    refine ⟨max k0 (xs.length + 1), ?_⟩
    have hup := good_up xs _ _ (Nat.le_max_left k0 (xs.length + 1)) _ hk0
    unfold span_Days.f
    rw [hup, hg]
    simp only [Option.bind_some, if_true]
    have := days_l0 xs hlen (fun x hx => by obtain ⟨a, b, c⟩ := hb x hx; exact ⟨by omega, b, c⟩) (max k0 (xs.length + 1)) 0 0 (by omega) (by omega) (by omega) (by omega)
    rw [List.drop_zero] at this
    rw [Int.zero_add] at this
    exact this
theorem Days_calls (A : Option Addr) (c : Nat) (xs : List S51) (w : World) (hr : Kd.C k51 w A xs.length xs) (hc : xs.length ≤ c) :
    Calls Try.prog 14 #[.slice A xs.length c] w fun e w' => e = .returned (.int .i64 (daysF xs)) ∧ Below w.heap.size w w' := by
  obtain ⟨k, hk⟩ := days_eval xs
  exact span_Days.calls k A c xs _ w hr hc hk
end Go.Proofs.Ytgiccdjgbjgdcaa.Sp
