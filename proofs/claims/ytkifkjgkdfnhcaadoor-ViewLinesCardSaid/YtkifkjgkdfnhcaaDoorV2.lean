/- Dates, plain: months by number, their first days, years. No program in sight. -/
import Derived.Lib.Hide
namespace Go.Proofs.YtkifkjgkdfnhcaaDoor.Vw

def longB (y : Int) : Bool := (y % 4 == 0) && ((y % 100 != 0) || (y % 400 == 0))
/-- How many days a year's month has. -/
def mdN (y m : Int) : Int :=
  if m = 2 then (if longB y then 29 else 28)
  else if m = 4 ∨ m = 6 ∨ m = 9 ∨ m = 11 then 30
  else if 1 ≤ m ∧ m ≤ 12 then 31 else 0
/-- How many days the month of a number has. -/
def md (k : Nat) : Int := mdN (1960 + (k / 12 : Nat)) (1 + (k % 12 : Nat))
/-- The first day of the month of a number. -/
def S : Nat → Int
  | 0 => 0
  | k + 1 => S k + md k
def lg (y : Int) : Int := y / 4 - y / 100 + y / 400
/-- How many days there are ahead of a year. -/
def yr (y : Int) : Int := (y - 1960) * 365 + lg (y - 1) - 474
theorem mdN_le (y m : Int) (h : 1 ≤ m ∧ m ≤ 12) : 28 ≤ mdN y m ∧ mdN y m ≤ 31 := by
  unfold mdN
  split
  · split <;> omega
  · split
    · omega
    · omega
theorem md_le (k : Nat) : 28 ≤ md k ∧ md k ≤ 31 := mdN_le _ _ (by omega)
theorem S_lt {a b : Nat} (h : a < b) : S a < S b := by
  induction b with
  | zero => omega
  | succ b ih =>
    have := md_le b
    show S a < S b + md b
    by_cases c : a = b
    · subst c; omega
    · have := ih (by omega); omega
theorem S_le {a b : Nat} (h : a ≤ b) : S a ≤ S b := by
  by_cases c : a = b
  · subst c; exact Int.le_refl _
  · exact Int.le_of_lt (S_lt (by omega))
/-- A day lies in the month k: the months ahead of it are those up to k. -/
theorem S_iff {n : Int} {k : Nat} (h : S k ≤ n ∧ n < S (k + 1)) (a : Nat) : S a ≤ n ↔ a ≤ k := by
  constructor
  · intro h1
    refine Decidable.byContradiction fun hn => ?_
    have := S_le (show k + 1 ≤ a by omega)
    omega
  · intro h1
    have := S_le h1
    omega
theorem S_one {n : Int} {k j : Nat} (h : S k ≤ n ∧ n < S (k + 1)) (g : S j ≤ n ∧ n < S (j + 1)) : k = j := by
  have h1 := (S_iff h j).1 g.1
  have h2 := (S_iff g k).1 h.1
  omega
theorem S_has (K : Nat) : ∀ n : Int, 0 ≤ n → n < S K → ∃ k, k < K ∧ S k ≤ n ∧ n < S (k + 1) := by
  induction K with
  | zero => intro n h0 h; exact absurd h (by show ¬ n < 0; omega)
  | succ K ih =>
    intro n h0 h
    by_cases c : n < S K
    · obtain ⟨k, h1, h2⟩ := ih n h0 c
      exact ⟨k, by omega, h2⟩
    · exact ⟨K, by omega, by omega, h⟩
theorem md_at (j i : Nat) (h : i < 12) : md (12 * j + i) = mdN (1960 + (j : Int)) (1 + (i : Int)) := by
  unfold md
  rw [show (12 * j + i) / 12 = j by omega, show (12 * j + i) % 12 = i by omega]
theorem S_year (j : Nat) : S (12 * j + 12) = S (12 * j) + 365 + (if longB (1960 + (j : Int)) then 1 else 0) := by
  have h0 : md (12 * j + 0) = 31 := (md_at j 0 (by decide)).trans rfl
  have e0 : S (12 * j + 1) = S (12 * j + 0) + md (12 * j + 0) := rfl
  have h1 : md (12 * j + 1) = (if longB (1960 + (j : Int)) then 29 else 28) := (md_at j 1 (by decide)).trans rfl
  have e1 : S (12 * j + 2) = S (12 * j + 1) + md (12 * j + 1) := rfl
  have h2 : md (12 * j + 2) = 31 := (md_at j 2 (by decide)).trans rfl
  have e2 : S (12 * j + 3) = S (12 * j + 2) + md (12 * j + 2) := rfl
  have h3 : md (12 * j + 3) = 30 := (md_at j 3 (by decide)).trans rfl
  have e3 : S (12 * j + 4) = S (12 * j + 3) + md (12 * j + 3) := rfl
  have h4 : md (12 * j + 4) = 31 := (md_at j 4 (by decide)).trans rfl
  have e4 : S (12 * j + 5) = S (12 * j + 4) + md (12 * j + 4) := rfl
  have h5 : md (12 * j + 5) = 30 := (md_at j 5 (by decide)).trans rfl
  have e5 : S (12 * j + 6) = S (12 * j + 5) + md (12 * j + 5) := rfl
  have h6 : md (12 * j + 6) = 31 := (md_at j 6 (by decide)).trans rfl
  have e6 : S (12 * j + 7) = S (12 * j + 6) + md (12 * j + 6) := rfl
  have h7 : md (12 * j + 7) = 31 := (md_at j 7 (by decide)).trans rfl
  have e7 : S (12 * j + 8) = S (12 * j + 7) + md (12 * j + 7) := rfl
  have h8 : md (12 * j + 8) = 30 := (md_at j 8 (by decide)).trans rfl
  have e8 : S (12 * j + 9) = S (12 * j + 8) + md (12 * j + 8) := rfl
  have h9 : md (12 * j + 9) = 31 := (md_at j 9 (by decide)).trans rfl
  have e9 : S (12 * j + 10) = S (12 * j + 9) + md (12 * j + 9) := rfl
  have h10 : md (12 * j + 10) = 30 := (md_at j 10 (by decide)).trans rfl
  have e10 : S (12 * j + 11) = S (12 * j + 10) + md (12 * j + 10) := rfl
  have h11 : md (12 * j + 11) = 31 := (md_at j 11 (by decide)).trans rfl
  have e11 : S (12 * j + 12) = S (12 * j + 11) + md (12 * j + 11) := rfl
  have ez : S (12 * j + 0) = S (12 * j) := rfl
  split at h1
  · rename_i hl
    rw [if_pos hl]
    omega
  · rename_i hl
    rw [if_neg hl]
    omega
theorem yr_step (y : Int) : yr (y + 1) = yr y + 365 + (if longB y then 1 else 0) := by
  have e : longB y = true ↔ (y % 4 = 0 ∧ (y % 100 ≠ 0 ∨ y % 400 = 0)) := by unfold longB; simp
  unfold yr lg
  rw [show y + 1 - 1 = y by omega]
  by_cases h : longB y = true
  · rw [if_pos h]
    have := e.1 h
    omega
  · rw [if_neg h]
    have h2 : ¬ (y % 4 = 0 ∧ (y % 100 ≠ 0 ∨ y % 400 = 0)) := fun c => h (e.2 c)
    omega
theorem yr_S (j : Nat) : yr (1960 + (j : Int)) = S (12 * j) := by
  induction j with
  | zero => decide
  | succ j ih =>
    rw [show 12 * (j + 1) = 12 * j + 12 by omega, S_year, ← ih, ← yr_step]
    congr 1
theorem yr_le (j : Nat) : yr (1960 + (j : Int)) ≤ 366 * (j : Int) := by
  induction j with
  | zero => decide
  | succ j ih =>
    have h := yr_step (1960 + (j : Int))
    rw [show (1960 : Int) + (j : Int) + 1 = 1960 + ((j + 1 : Nat) : Int) by omega] at h
    rw [h]
    split <;> omega
theorem S_end : S 2880 = 87659 := by
  have := yr_S 240
  rw [show 12 * 240 = 2880 by decide] at this
  rw [← this]
  decide
theorem S_all (n : Int) (h : 0 ≤ n ∧ n ≤ 87658) : ∃ k, k < 2880 ∧ S k ≤ n ∧ n < S (k + 1) := S_has 2880 n h.1 (by rw [S_end]; omega)
end Go.Proofs.YtkifkjgkdfnhcaaDoor.Vw
