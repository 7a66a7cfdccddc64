/- wakes of the laws over stretches. -/
import Derived.Test.YtgiccdjgbjgdcaaBo
import Derived.Test.YtgiccdjgbjgdcaaRg
namespace Go.Proofs.Ytgiccdjgbjgdcaa.Sp
open Go.RowKit Go.Proofs.YtgiccdjgbjgdcaaW.PrintWords PSpanTells

theorem wk3 : bothF [⟨0, 2⟩, ⟨4, 9⟩] [⟨1, 6⟩] = ([⟨1, 2⟩, ⟨4, 6⟩], 0) := by
  have g1 : goodB [⟨0, 2⟩, ⟨4, 9⟩] = true := by decide
  have g2 : goodB [⟨1, 6⟩] = true := by decide
  have h : bothL [⟨0, 2⟩, ⟨4, 9⟩] [⟨1, 6⟩] = [⟨1, 2⟩, ⟨4, 6⟩] := by simp [bothL, meetL, meet]
  unfold bothF
  rw [if_pos ⟨g1, g2⟩, h]
  rfl
theorem wk4 : daysF [⟨1, 2⟩, ⟨4, 6⟩] = 3 := by decide
theorem wk5 : (goodB [⟨1, 2⟩, ⟨4, 6⟩] && inB [⟨1, 2⟩, ⟨4, 6⟩] 5) = true := by decide
theorem wk6 : (goodB [⟨1, 2⟩, ⟨4, 6⟩] && inB [⟨1, 2⟩, ⟨4, 6⟩] 3) = false := by decide
theorem Add_rd (v : Value) (xs : List S51) (f t : Int) (w : World) (h : Rd w v xs) :
    Calls Try.prog 17 #[v, .int .i64 f, .int .i64 t] w fun e w' => ∃ v, e = .returned (.tuple #[v, .int .i64 (addF xs f t).2]) ∧ Rd w' v (addF xs f t).1 ∧ Below w.heap.size w w' := by
  obtain ⟨A, c, rfl, hc, hr⟩ := h
  exact Add_calls A c xs f t w hr hc
theorem Cut_rd (v : Value) (xs : List S51) (f t : Int) (w : World) (h : Rd w v xs) :
    Calls Try.prog 19 #[v, .int .i64 f, .int .i64 t] w fun e w' => ∃ v, e = .returned (.tuple #[v, .int .i64 (cutF xs f t).2]) ∧ Rd w' v (cutF xs f t).1 ∧ Below w.heap.size w w' := by
  obtain ⟨A, c, rfl, hc, hr⟩ := h
  exact Cut_calls A c xs f t w hr hc
theorem Both_rd (v u : Value) (xs ys : List S51) (w : World) (h : Rd w v xs) (h' : Rd w u ys) :
    Calls Try.prog 21 #[v, u] w fun e w' => ∃ v, e = .returned (.tuple #[v, .int .i64 (bothF xs ys).2]) ∧ Rd w' v (bothF xs ys).1 ∧ Below w.heap.size w w' := by
  obtain ⟨A, c, rfl, hc, hr⟩ := h
  obtain ⟨B, d, rfl, hd, hr'⟩ := h'
  exact Both_calls A B c d xs ys w hr hc hr' hd
theorem Good_rd (v : Value) (xs : List S51) (w : World) (h : Rd w v xs) :
    Calls Try.prog 10 #[v] w fun e w' => e = .returned (.bool (goodB xs)) ∧ Below w.heap.size w w' := by
  obtain ⟨A, c, rfl, hc, hr⟩ := h
  exact Good_calls A c xs w hr hc
theorem Has_rd (v : Value) (xs : List S51) (day : Int) (w : World) (h : Rd w v xs) :
    Calls Try.prog 12 #[v, .int .i64 day] w fun e w' => e = .returned (.bool (goodB xs && inB xs day)) ∧ Below w.heap.size w w' := by
  obtain ⟨A, c, rfl, hc, hr⟩ := h
  exact Has_calls A c xs day w hr hc
theorem Days_rd (v : Value) (xs : List S51) (w : World) (h : Rd w v xs) :
    Calls Try.prog 14 #[v] w fun e w' => e = .returned (.int .i64 (daysF xs)) ∧ Below w.heap.size w w' := by
  obtain ⟨A, c, rfl, hc, hr⟩ := h
  exact Days_calls A c xs w hr hc
end Go.Proofs.Ytgiccdjgbjgdcaa.Sp
