/- Contracts of the reference's functions over stretches, of own and same; wakes' constants. -/
import Derived.Test.YtgiccdjgbjgdcaaRf
namespace Go.Proofs.Ytgiccdjgbjgdcaa.Sp
open Go.RowKit Go.Proofs.YtgiccdjgbjgdcaaW.PrintWords PSpanTells

/-- A value that reads as the reference's list. -/
def Rr (w : World) (v : Value) (xs : List S51) : Prop := ∃ A c, v = .slice A xs.length c ∧ xs.length ≤ c ∧ Kd.C k53 w A xs.length (xs.map to53)
theorem Rr.below {w w1 : World} {v : Value} {xs : List S51} (h : Rr w v xs) (hb : Below w.heap.size w w1) : Rr w1 v xs := by
  obtain ⟨A, c, h1, h2, h3⟩ := h
  exact ⟨A, c, h1, h2, Kd.C_below h3 hb⟩
theorem own_calls (v : Value) (xs : List S51) (w : World) (h : Rd w v xs) (hl : xs.length ≤ 1000000) :
    Calls Try.prog 9 #[v] w fun e w' => ∃ v', e = .returned v' ∧ Rr w' v' xs ∧ Below w.heap.size w w' := by
  obtain ⟨A, c, rfl, hc, hr⟩ := h
  refine (annuitylaw06_own.calls _ A c xs _ w hr hc (own_eval xs hl)).mono ?_
  rintro e w1 ⟨v', rfl, hR, hb⟩
  obtain ⟨A', c', hv, hc', hr'⟩ := Kd.R_reads hR
  rw [List.length_map] at hv hc' hr'
  exact ⟨v', rfl, ⟨A', c', hv, hc', hr'⟩, hb⟩
theorem below_drawn {w w1 : World} (h : Drawn0 w w1) : Below w.heap.size w w1 := by
  obtain ⟨n, rfl⟩ := h
  exact pw_below_drewN (Below.refl _ _) n
theorem rGood_calls (v : Value) (xs : List S51) (w : World) (h : Rr w v xs) (hl : xs.length ≤ 1000000) :
    Calls Try.prog 11 #[v] w fun e w' => e = .returned (.bool (goodB xs)) ∧ Below w.heap.size w w' := by
  obtain ⟨A, c, rfl, hc, hr⟩ := h
  have := annuityref06_Good.calls _ A c (xs.map to53) _ w (by rw [List.length_map]; exact hr) (by rw [List.length_map]; exact hc) (rgood_eval xs hl)
  rw [List.length_map] at this
  exact this.mono fun e w1 ⟨h1, h2⟩ => ⟨h1, below_drawn h2⟩
theorem rHas_calls (v : Value) (xs : List S51) (day : Int) (w : World) (h : Rr w v xs) (hl : xs.length ≤ 1000000) :
    Calls Try.prog 13 #[v, .int .i64 day] w fun e w' => e = .returned (.bool (goodB xs && inB xs day)) ∧ Below w.heap.size w w' := by
  obtain ⟨A, c, rfl, hc, hr⟩ := h
  have := annuityref06_Has.calls _ A c (xs.map to53) day _ w (by rw [List.length_map]; exact hr) (by rw [List.length_map]; exact hc) (rhas_eval xs hl day)
  rw [List.length_map] at this
  exact this.mono fun e w1 ⟨h1, h2⟩ => ⟨h1, below_drawn h2⟩
theorem rDays_calls (v : Value) (xs : List S51) (w : World) (h : Rr w v xs) (hl : xs.length ≤ 1000000) :
    Calls Try.prog 15 #[v] w fun e w' => e = .returned (.int .i64 (daysF xs)) ∧ Below w.heap.size w w' := by
  obtain ⟨A, c, rfl, hc, hr⟩ := h
  have := annuityref06_Days.calls _ A c (xs.map to53) _ w (by rw [List.length_map]; exact hr) (by rw [List.length_map]; exact hc) (rdays_eval xs hl)
  rw [List.length_map] at this
  exact this.mono fun e w1 ⟨h1, h2⟩ => ⟨h1, below_drawn h2⟩
theorem same_calls (v u : Value) (xs ys : List S51) (w : World) (h : Rd w v xs) (h' : Rr w u ys) (hl : xs.length ≤ 1000000) :
    Calls Try.prog 16 #[v, u] w fun e w' => e = .returned (.bool (sameB xs ys)) ∧ Below w.heap.size w w' := by
  obtain ⟨A, c, rfl, hc, hr⟩ := h
  obtain ⟨B, d, rfl, hd, hr'⟩ := h'
  have := annuitylaw06_same.calls _ A c xs B d (ys.map to53) _ w hr hc (by rw [List.length_map]; exact hr') (by rw [List.length_map]; exact hd) (same_eval xs ys hl)
  rw [List.length_map] at this
  exact this.mono fun e w1 ⟨h1, h2⟩ => ⟨h1, below_drawn h2⟩
theorem wk1 : addF [⟨0, 5⟩] 5 9 = ([⟨0, 9⟩], 0) := by kernel_rfl
theorem wk2 : cutF [⟨0, 9⟩] 2 4 = ([⟨0, 2⟩, ⟨4, 9⟩], 0) := by kernel_rfl
end Go.Proofs.Ytgiccdjgbjgdcaa.Sp
