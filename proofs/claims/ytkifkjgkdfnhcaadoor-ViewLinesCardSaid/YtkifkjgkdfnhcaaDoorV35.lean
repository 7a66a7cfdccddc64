/- What all loans owe together is what each owes: plain. -/
import Derived.Test.YtkifkjgkdfnhcaaDoorV29
namespace Go.Proofs.YtkifkjgkdfnhcaaDoor.Vw
open Go.RowKit Go.Sort Go.Lib Go.Shelf

theorem goodM_bounds {x : Int} (h : goodM x = true) : -10000000000000 ≤ x ∧ x ≤ 9223372036854775807 := by
  simp [goodM] at h
  omega
theorem badOf_ne {L : List Ln} {er : Int} (h : badOf L = some er) : er ≠ 0 := by
  induction L with
  | nil => cases h
  | cons l r ih =>
    simp only [badOf] at h
    split at h
    · exact ih h
    · rename_i hne
      exact Option.some.inj h ▸ hne
theorem vowesR_err {L : List Ln} (h : (vowesR L).2 ≠ 0) : (vowesR L).1 = 0 := by
  unfold vowesR at h ⊢
  split at h
  · rfl
  · split at h
    · simp at h
    · rfl
theorem vowesR_ok {L : List Ln} (h : (vowesR L).2 = 0) : badOf L = none ∧ sumFrom 0 (L.map fun l => (lowesR l).1) = some (vowesR L).1 := by
  unfold vowesR at h ⊢
  split at h
  · rename_i er he
    exact absurd h (badOf_ne he)
  · rename_i he
    rw [he]
    split at h
    · rename_i s hs
      rw [hs]
      exact ⟨rfl, rfl⟩
    · simp at h
theorem badOf_all {L : List Ln} (h : badOf L = none) : ∀ l ∈ L, (lowesR l).2 = 0 := by
  induction L with
  | nil => intro l hl; simp at hl
  | cons x r ih =>
    simp only [badOf] at h
    split at h
    · rename_i hx
      intro l hl
      rcases List.mem_cons.1 hl with rfl | hl
      · exact hx
      · exact ih h l hl
    · cases h
theorem sum_parts (xs : List Int) : ∀ (a n : Int), sumFrom a xs = some n → n = a + xs.sum ∧ ∀ (k : Nat) (x : Int), xs[k]? = some x → goodM x = true ∧ goodM (a + (xs.take (k + 1)).sum) = true := by
  induction xs with
  | nil => intro a n h; exact ⟨by simpa [sumFrom] using h.symm, fun k x hk => by simp at hk⟩
  | cons y r ih =>
    intro a n h
    unfold sumFrom at h
    split at h
    · rename_i hg
      simp only [Bool.and_eq_true] at hg
      obtain ⟨h1, h2⟩ := ih _ _ h
      refine ⟨by rw [h1, List.sum_cons]; omega, fun k x hk => ?_⟩
      cases k with
      | zero =>
        simp at hk
        subst hk
        exact ⟨hg.2.1, by simpa using hg.2.2⟩
      | succ k =>
        obtain ⟨h3, h4⟩ := h2 k x (by simpa using hk)
        refine ⟨h3, ?_⟩
        rw [List.take_succ_cons, List.sum_cons, show a + (y + (List.take (k + 1) r).sum) = a + y + (List.take (k + 1) r).sum by omega]
        exact h4
    · cases h
/-- What the first k loans owe. -/
def owed (L : List Ln) (k : Nat) : Int := ((L.map fun l => (lowesR l).1).take k).sum
theorem owed_zero (L : List Ln) : owed L 0 = 0 := by simp [owed]
theorem owed_succ (L : List Ln) (k : Nat) (l : Ln) (h : L[k]? = some l) : owed L (k + 1) = owed L k + (lowesR l).1 := by
  unfold owed
  rw [List.take_add_one, List.getElem?_map, h, List.sum_append]
  simp
theorem owed_all {L : List Ln} (h : (vowesR L).2 = 0) : owed L L.length = (vowesR L).1 := by
  obtain ⟨_, h2⟩ := vowesR_ok h
  obtain ⟨h3, _⟩ := sum_parts _ _ _ h2
  unfold owed
  rw [List.take_of_length_le (by simp), h3]
  omega
theorem owed_bounds {L : List Ln} (h : (vowesR L).2 = 0) (k : Nat) (l : Ln) (hl : L[k]? = some l) : -10000000000000 ≤ owed L (k + 1) ∧ owed L (k + 1) ≤ 9223372036854775807 := by
  obtain ⟨_, h2⟩ := vowesR_ok h
  obtain ⟨_, h4⟩ := sum_parts _ _ _ h2
  have := goodM_bounds (h4 k (lowesR l).1 (by rw [List.getElem?_map, hl]; rfl)).2
  rw [Int.zero_add] at this
  exact this
theorem owed_one {L : List Ln} (h : (vowesR L).2 = 0) (k : Nat) (l : Ln) (hl : L[k]? = some l) : vowesR [l] = ((lowesR l).1, 0) := by
  obtain ⟨h1, h2⟩ := vowesR_ok h
  obtain ⟨_, h4⟩ := sum_parts _ _ _ h2
  have hg := (h4 k (lowesR l).1 (by rw [List.getElem?_map, hl]; rfl)).1
  have hz := badOf_all h1 l (List.mem_of_getElem? hl)
  have h0 : goodM 0 = true := by decide
  unfold vowesR
  simp only [badOf, hz, if_true, List.map_cons, List.map_nil, sumFrom, Int.zero_add, h0, hg, Bool.and_self]
end Go.Proofs.YtkifkjgkdfnhcaaDoor.Vw
