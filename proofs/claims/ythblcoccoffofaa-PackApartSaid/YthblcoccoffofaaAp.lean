/- The walk of PackApart. -/
import Derived.Test.YthblcoccoffofaaBp
namespace Go.Proofs.Ythblcoccoffofaa.Pk
open Go.RowKit

theorem mod_calls (k : Int) (n : Nat) (w : World) (hk : -9223372036854775808 ≤ k ∧ k ≤ 9223372036854775807) (hn1 : 1 ≤ n) (hn : n ≤ 4398046511104) :
    Calls Try.prog 23 #[.int .i64 k, .int .i64 (n : Int)] w fun e w' => ∃ r : Nat, r < n ∧ e = .returned (.int .i64 (r : Int)) ∧ w = w' := by
  have hn0 : ¬ (n : Int) = 0 := by omega
  have hn2 : ¬ (n : Int) < 1 := by omega
  have h1 : -(n : Int) < k.tmod n ∧ k.tmod n < n := by
    have := Int.tmod_lt_of_pos k (show (0 : Int) < n by omega)
    have h2 := Int.lt_tmod_of_pos k (show (0 : Int) < n by omega)
    omega
  go_enter Try.func23, Try.ntmps23
  go_wp2
  go_ret
  have h2 := Int.emod_nonneg (k.tmod n) (show (n : Int) ≠ 0 by omega)
  have h3 := Int.emod_lt_of_pos (k.tmod n) (show (0 : Int) < n by omega)
  refine ⟨(k.tmod n % n).toNat, by omega, ?_, rfl⟩
  rw [Int.toNat_of_nonneg h2]
  rfl

/-- The Item with another number, or a text that is one byte longer. -/
def turn (x : It) (v : Int) : It := if x.size = 0 then { x with s := x.s ++ ⟨#[122]⟩ } else { x with v := v }
/-- .. at one place. -/
def turned (xs : List It) (c : Nat) (v : Int) : List It := match xs[c]? with
  | some x => xs.set c (turn x v)
  | none => xs
theorem turned_at (xs : List It) (c : Nat) (v : Int) (j : Nat) (hj : j < xs.length) (hc : c < xs.length) :
    (turned xs c v)[j]? = some (if j = c then turn xs[j] v else xs[j]) := by
  unfold turned
  rw [List.getElem?_eq_getElem hc]
  simp only
  rw [List.getElem?_set]
  by_cases h : c = j
  · subst h; simp [hc]
  · rw [if_neg h, if_neg (fun e => h e.symm), List.getElem?_eq_getElem hj]
theorem turned_length (xs : List It) (c : Nat) (v : Int) : (turned xs c v).length = xs.length := by
  unfold turned; split <;> simp
/-- Is it another Item? -/
def sameAt (x : It) (v : Int) : Bool := if x.size = 0 then false else x.v == v

theorem bytesOf_inj (n : Nat) (a b : Int) (ha : 0 ≤ a) (hb : 0 ≤ b) (ha1 : a < 256 ^ n) (hb1 : b < 256 ^ n) (h : bytesOf a n = bytesOf b n) : a = b := by
  have h1 := valOf_bytes n a ha
  have h2 := valOf_bytes n b hb
  rw [h, h2, Int.emod_eq_of_lt ha ha1, Int.emod_eq_of_lt hb hb1] at h1
  exact h1.symm

theorem enc_len0 (x : It) (hx : x.size = 0) : (enc x).length = 2 + x.s.size := by
  unfold enc
  rw [if_pos hx, List.length_append, bytesOf_length, ints_length]
theorem turn_same (x : It) (v : Int) (h : sameAt x v = true) : turn x v = x := by
  unfold sameAt at h
  unfold turn
  by_cases hx : x.size = 0
  · rw [if_pos hx] at h; cases h
  · rw [if_neg hx] at h ⊢
    have : x.v = v := by simpa using h
    subst this
    rfl
theorem turn_other (x : It) (v : Int) (hx0 : 0 ≤ x.v) (hv0 : 0 ≤ v) (h1 : okIt x) (h2 : okIt (turn x v)) (h : sameAt x v = false) : enc x ≠ enc (turn x v) := by
  unfold sameAt at h
  unfold turn at h2 ⊢
  by_cases hx : x.size = 0
  · rw [if_pos hx]
    intro he
    have := congrArg List.length he
    rw [enc_len0 x hx, enc_len0 { x with s := x.s ++ ⟨#[122]⟩ } hx] at this
    have e : (x.s ++ ⟨#[122]⟩).size = x.s.size + 1 := ByteArray.size_append
    have e2 : ({ x with s := x.s ++ ⟨#[122]⟩ } : It).s.size = x.s.size + 1 := e
    omega
  · rw [if_neg hx] at h h2 ⊢
    unfold okIt at h1 h2
    rw [if_neg hx] at h1
    have hx' : ¬ ({ x with v := v } : It).size = 0 := hx
    rw [if_neg hx'] at h2
    have hne : x.v ≠ v := by simpa using h
    intro he
    unfold enc at he
    rw [if_neg hx, if_neg hx'] at he
    exact hne (bytesOf_inj _ _ _ hx0 hv0 h1.2 h2.2 he)

theorem encs_append (a b : List It) : encs (a ++ b) = encs a ++ encs b := by simp [encs]
/-- The bytes are alike just if the Item is. -/
theorem encs_turned (xs : List It) (c : Nat) (v : Int) (hc : c < xs.length) (hx0 : ∀ x ∈ xs, 0 ≤ x.v) (hv0 : 0 ≤ v) (h1 : ∀ x ∈ xs, okIt x) (h2 : ∀ x ∈ turned xs c v, okIt x) :
    (encs xs = encs (turned xs c v)) ↔ sameAt xs[c] v = true := by
  have e1 : xs = xs.take c ++ xs[c] :: xs.drop (c + 1) := by rw [← List.drop_eq_getElem_cons hc, List.take_append_drop]
  have e2 : turned xs c v = xs.take c ++ turn xs[c] v :: xs.drop (c + 1) := by
    unfold turned
    rw [List.getElem?_eq_getElem hc]
    simp only
    rw [List.set_eq_take_append_cons_drop, if_pos hc]
  have hm : xs[c] ∈ xs := List.getElem_mem hc
  have hm2 : turn xs[c] v ∈ turned xs c v := by rw [e2]; simp
  constructor
  · intro h
    rw [e2] at h
    conv at h => lhs; rw [e1]
    rw [encs_append, encs_append, encs_cons, encs_cons] at h
    have h3 := List.append_cancel_left h
    have h4 := List.append_cancel_right h3
    cases hs : sameAt xs[c] v with
    | true => rfl
    | false => exact absurd h4 (turn_other _ v (hx0 _ hm) hv0 (h1 _ hm) (h2 _ hm2) hs)
  · intro h
    rw [e2, turn_same _ _ h, ← e1]

theorem strOfNums_inj (a b : List Int) (ha : ∀ x ∈ a, 0 ≤ x ∧ x < 256) (hb : ∀ x ∈ b, 0 ≤ x ∧ x < 256) (h : strOfNums a = strOfNums b) : a = b := by
  rw [← ints_str a ha, ← ints_str b hb, h]
end Go.Proofs.Ythblcoccoffofaa.Pk
