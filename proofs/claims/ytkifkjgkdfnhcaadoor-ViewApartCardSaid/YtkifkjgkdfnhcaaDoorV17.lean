/- Moneys and days are told apart by their texts. Plain. -/
import Derived.Test.YtkifkjgkdfnhcaaDoorV5
namespace Go.Proofs.YtkifkjgkdfnhcaaDoor.Vw
open Go.RowKit Go.Sort Go.Lib Go.Shelf

/-- The number that digits tell. -/
def dv (l : List UInt8) : Nat := l.foldl (fun acc c => acc * 10 + (c.toNat - 48)) 0
theorem dv_snoc (l : List UInt8) (c : UInt8) : dv (l ++ [c]) = dv l * 10 + (c.toNat - 48) := by unfold dv; rw [List.foldl_append]; rfl
theorem one_digit (d : Nat) (h : d < 10) : (UInt8.ofNat (48 + d)).toNat = 48 + d := by
  rw [UInt8.toNat_ofNat']
  omega
theorem dv_dec (k : Nat) : ∀ u, u < 10 ^ (k + 1) → dv (Lib.decDigits u) = u := by
  induction k with
  | zero =>
    intro u h
    rw [dec_one u (by omega)]
    have := one_digit u (by omega)
    show 0 * 10 + ((UInt8.ofNat (48 + u)).toNat - 48) = u
    omega
  | succ k ih =>
    intro u h
    by_cases h10 : u < 10
    · rw [dec_one u h10]
      have := one_digit u h10
      show 0 * 10 + ((UInt8.ofNat (48 + u)).toNat - 48) = u
      omega
    · rw [dec_more u h10, dec_one (u % 10) (by omega), dv_snoc, ih (u / 10) (by rw [Nat.pow_succ] at h; omega), one_digit (u % 10) (by omega)]
      omega
theorem dv_all (u : Nat) (h : u < 18446744073709551616) : dv (Lib.decDigits u) = u := dv_dec 19 u (by omega)
theorem dv_zeros (n : Nat) (l : List UInt8) : dv (List.replicate n 48 ++ l) = dv l := by
  unfold dv
  rw [List.foldl_append]
  congr 1
  induction n with
  | zero => rfl
  | succ n ih => rw [List.replicate_succ, List.foldl_cons]; exact ih
theorem dv_pad (u k : Nat) (h : u < 18446744073709551616) : dv (pad u k) = u := by unfold pad; rw [dv_zeros, dv_all u h]
theorem dig_ge (k : Nat) : ∀ u, u < 10 ^ (k + 1) → ∀ c ∈ Lib.decDigits u, 48 ≤ c.toNat ∧ c.toNat ≤ 57 := by
  induction k with
  | zero =>
    intro u h c hc
    rw [dec_one u (by omega)] at hc
    simp only [List.mem_singleton] at hc
    subst hc
    have := one_digit u (by omega)
    omega
  | succ k ih =>
    intro u h c hc
    by_cases h10 : u < 10
    · rw [dec_one u h10] at hc
      simp only [List.mem_singleton] at hc
      subst hc
      have := one_digit u h10
      omega
    · rw [dec_more u h10, dec_one (u % 10) (by omega)] at hc
      rcases List.mem_append.1 hc with h1 | h1
      · exact ih (u / 10) (by rw [Nat.pow_succ] at h; omega) c h1
      · simp only [List.mem_singleton] at h1
        subst h1
        have := one_digit (u % 10) (by omega)
        omega
theorem pad2_len (u : Nat) (h : u < 100) : (pad u 2).length = 2 := by
  rw [← pad_two u h, List.length_append, dec_one (u / 10 % 10) (by omega), dec_one (u % 10) (by omega)]
  rfl
theorem money_body {m n : Nat} (hm : m < 18446744073709551616) (hn : n < 18446744073709551616) (h : Lib.decDigits (m / 100) ++ (46 :: pad (m % 100) 2) = Lib.decDigits (n / 100) ++ (46 :: pad (n % 100) 2)) : m = n := by
  have hl : (46 :: pad (m % 100) 2).length = (46 :: pad (n % 100) 2).length := by
    rw [List.length_cons, List.length_cons, pad2_len _ (by omega), pad2_len _ (by omega)]
  obtain ⟨h1, h2⟩ := List.append_inj' h hl
  have e1 := congrArg dv h1
  rw [dv_all _ (by omega), dv_all _ (by omega)] at e1
  have e2 := congrArg dv (List.cons.inj h2).2
  rw [dv_pad _ _ (by omega), dv_pad _ _ (by omega)] at e2
  omega
theorem no_minus {u : Nat} (h : u < 18446744073709551616) (r s : List UInt8) : Lib.decDigits u ++ r ≠ 45 :: s := by
  intro e
  have h1 := (dig_len u h).1
  cases hd : Lib.decDigits u with
  | nil => rw [hd] at h1; simp at h1
  | cons c t =>
    rw [hd] at e
    have := (List.cons.inj e).1
    have h2 := dig_ge 19 u (by omega) c (by rw [hd]; simp)
    subst this
    have : (45 : UInt8).toNat = 45 := rfl
    omega
theorem money_apart (a b : Int) (ha : -9223372036854775808 ≤ a ∧ a ≤ 9223372036854775807) (hb : -9223372036854775808 ≤ b ∧ b ≤ 9223372036854775807) : moneyL a = moneyL b ↔ a = b := by
  refine ⟨fun h => ?_, fun h => by rw [h]⟩
  unfold moneyL at h
  by_cases h1 : a < 0
  · rw [if_pos h1] at h
    by_cases h2 : b < 0
    · rw [if_pos h2] at h
      have := money_body (by omega) (by omega) (List.cons.inj h).2
      omega
    · rw [if_neg h2] at h
      exact absurd h.symm (no_minus (by omega) _ _)
  · rw [if_neg h1] at h
    by_cases h2 : b < 0
    · rw [if_pos h2] at h
      exact absurd h (no_minus (by omega) _ _)
    · rw [if_neg h2] at h
      have := money_body (by omega) (by omega) h
      omega
theorem beq_str (a b : List UInt8) : ((str a).toList == (str b).toList) = decide (a = b) := by
  rw [Lib.toList_data, Lib.toList_data, Bool.eq_iff_iff]
  simp
end Go.Proofs.YtkifkjgkdfnhcaaDoor.Vw
