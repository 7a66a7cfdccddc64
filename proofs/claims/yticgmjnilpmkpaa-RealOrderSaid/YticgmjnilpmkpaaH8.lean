/- The lesser and the greater of two good numbers; the walk of RealOrder. -/
import Derived.Test.YticgmjnilpmkpaaH5
namespace Go.Proofs.Yticgmjnilpmkpaa.Re
open Go.RowKit

def pickN (neg : Bool) (win : Ordering) (x y : Nat) : Nat :=
  if FloatKind.f64.decode x == .infinity neg || FloatKind.f64.decode y == .infinity neg then FloatKind.f64.encode (.infinity neg)
  else if (FloatKind.f64.decode x).isNaN || (FloatKind.f64.decode y).isNaN then 0x7FF8000000000001
  else if (FloatKind.f64.decode x).isZero && (FloatKind.f64.decode y).isZero then (if (FloatKind.f64.decode x).neg == neg then x else y)
  else if (FloatKind.f64.decode x).order (FloatKind.f64.decode y) == some win then x else y
theorem min_run (x y : Nat) (w : World) : (callFunc 43 #[.float .f64 x, .float .f64 y]).run Try.prog w = .ok (.value (.float .f64 (pickN true .lt x y))) w := by kernel_rfl
theorem max_run (x y : Nat) (w : World) : (callFunc 45 #[.float .f64 x, .float .f64 y]).run Try.prog w = .ok (.value (.float .f64 (pickN false .gt x y))) w := by kernel_rfl
theorem min_calls (x y : Nat) (w : World) : Calls Try.prog 29 #[.float .f64 x, .float .f64 y] w fun e w' => e = .returned (.float .f64 (pickN true .lt x y)) ∧ w' = w := by
  have h1 := min_run
  go_enter Try.func29, Try.ntmps29
  go_wp2_with fail
  go_ret
  exact ⟨rfl, rfl⟩
theorem max_calls (x y : Nat) (w : World) : Calls Try.prog 30 #[.float .f64 x, .float .f64 y] w fun e w' => e = .returned (.float .f64 (pickN false .gt x y)) ∧ w' = w := by
  have h1 := max_run
  go_enter Try.func30, Try.ntmps30
  go_wp2_with fail
  go_ret
  exact ⟨rfl, rfl⟩
theorem good_read (x : Nat) (hx : x < 18446744073709551616) (hg : goodR x = true) : ∃ (s : Bool) (m i : Nat), Ieee.double.read x = .number s m (-1074 + (i : Int)) ∧ (s = true → m = 0) ∧ vl x = m * 2 ^ i := by
  rcases good_cases x hx hg with rfl | ⟨e, f, h1, h2, rfl⟩
  · exact ⟨true, 0, 0, by decide, fun _ => rfl, by decide⟩
  · rcases Nat.eq_zero_or_pos e with rfl | he
    · rw [show 0 * 4503599627370496 + f = f by omega]
      refine ⟨false, f, 0, by rw [read_low f h2]; rfl, (fun h => by cases h), ?_⟩
      have hm : mant f = f := by unfold mant; rw [if_pos (by omega)]; omega
      have hE : expo f = 1 := by unfold expo; omega
      unfold vl
      rw [hm, hE]
    · refine ⟨false, 4503599627370496 + f, e - 1, read_nrm e f he h1 h2, (fun h => by cases h), ?_⟩
      have hm : mant (e * 4503599627370496 + f) = 4503599627370496 + f := by unfold mant; rw [if_neg (by omega)]; omega
      have hE : expo (e * 4503599627370496 + f) = e := by unfold expo; omega
      unfold vl
      rw [hm, hE]
theorem signed_plain (s : Bool) (m k : Nat) (h : s = true → m = 0) : Ieee.signed s m k = ((m * 2 ^ k : Nat) : Int) := by
  unfold Ieee.signed
  rw [Nat.shiftLeft_eq]
  cases s with
  | false => rfl
  | true =>
    obtain rfl := h rfl
    simp
theorem cmp_pow (m n i j : Nat) (c : Nat) (hc : c = min i j) : compare ((m * 2 ^ (i - c) : Nat) : Int) ((n * 2 ^ (j - c) : Nat) : Int) = compare (m * 2 ^ i) (n * 2 ^ j) := by
  have e1 : m * 2 ^ i = m * 2 ^ (i - c) * 2 ^ c := by rw [Nat.mul_assoc, ← Nat.pow_add]; congr 2; omega
  have e2 : n * 2 ^ j = n * 2 ^ (j - c) * 2 ^ c := by rw [Nat.mul_assoc, ← Nat.pow_add]; congr 2; omega
  rw [e1, e2]
  have hp := Nat.two_pow_pos c
  generalize m * 2 ^ (i - c) = a
  generalize n * 2 ^ (j - c) = b
  have c1 : (a * 2 ^ c < b * 2 ^ c) ↔ a < b := Nat.mul_lt_mul_right hp
  have c2 : (a * 2 ^ c = b * 2 ^ c) ↔ a = b := Nat.mul_left_inj (by omega)
  have c3 : ((a : Int) < (b : Int)) ↔ a < b := by omega
  have c4 : ((a : Int) = (b : Int)) ↔ a = b := by omega
  simp only [compare, compareOfLessAndEq, c1, c2, c3, c4]
/-- How two good words stand to each other. -/
theorem order_vl (x y : Nat) (hx : x < 18446744073709551616) (hy : y < 18446744073709551616) (gx : goodR x = true) (gy : goodR y = true) : Ieee.double.order x y = some (compare (vl x) (vl y)) := by
  obtain ⟨s, m, i, r1, r2, r3⟩ := good_read x hx gx
  obtain ⟨t, n, j, q1, q2, q3⟩ := good_read y hy gy
  unfold Ieee.Format.order
  rw [r1, q1, r3, q3]
  show some (compare (Ieee.signed s m _) (Ieee.signed t n _)) = _
  rw [signed_plain s m _ r2, signed_plain t n _ q2]
  rw [← cmp_pow m n i j (min i j) rfl]
  rw [show ((-1074 + (i : Int)) - min (-1074 + (i : Int)) (-1074 + (j : Int))).toNat = i - min i j by omega, show ((-1074 + (j : Int)) - min (-1074 + (i : Int)) (-1074 + (j : Int))).toNat = j - min i j by omega]
theorem pick_good (neg : Bool) (win : Ordering) (x y : Nat) (hx : x < 18446744073709551616) (hy : y < 18446744073709551616) (gx : goodR x = true) (gy : goodR y = true) :
    (vl x = 0 ∧ vl y = 0 ∧ (pickN neg win x y = x ∨ pickN neg win x y = y)) ∨ pickN neg win x y = if compare (vl x) (vl y) == win then x else y := by
  have ho := order_vl x y hx hy gx gy
  obtain ⟨s, m, i, r1, r2, r3⟩ := good_read x hx gx
  obtain ⟨t, n, j, q1, q2, q3⟩ := good_read y hy gy
  unfold Ieee.Format.order at ho
  have d1 : FloatKind.f64.decode x = .number s m (-1074 + (i : Int)) := r1
  have d2 : FloatKind.f64.decode y = .number t n (-1074 + (j : Int)) := q1
  rw [r1, q1] at ho
  unfold pickN
  rw [d1, d2, ho]
  have n1 : ∀ (s : Bool) (m : Nat) (p : Int), ((Ieee.Datum.number s m p) == Ieee.Datum.infinity neg) = false := fun s m p => by
    rw [beq_eq_false_iff_ne]; intro h; cases h
  rw [n1, n1]
  simp only [Bool.or_self, Bool.false_eq_true, if_false]
  have n2 : ∀ (s : Bool) (m : Nat) (p : Int), (Ieee.Datum.number s m p).isNaN = false := fun _ _ _ => rfl
  rw [n2, n2]
  simp only [Bool.or_self, Bool.false_eq_true, if_false]
  by_cases hz : m = 0 ∧ n = 0
  · obtain ⟨rfl, rfl⟩ := hz
    left
    refine ⟨by rw [r3, Nat.zero_mul], by rw [q3, Nat.zero_mul], ?_⟩
    have z : ∀ (s : Bool) (p : Int), (Ieee.Datum.number s 0 p).isZero = true := fun _ _ => rfl
    rw [z, z]
    simp only [Bool.and_self, if_true]
    split
    · exact .inl rfl
    · exact .inr rfl
  · right
    have z : ((Ieee.Datum.number s m (-1074 + (i : Int))).isZero && (Ieee.Datum.number t n (-1074 + (j : Int))).isZero) = false := by
      cases m with
      | zero =>
        cases n with
        | zero => exact absurd ⟨rfl, rfl⟩ hz
        | succ b => rfl
      | succ a => rfl
    rw [z]
    simp only [Bool.false_eq_true, if_false]
    have : ∀ a b : Ordering, (some a == some b) = (a == b) := fun a b => some_beq a b
    rw [this]
/-- The lesser is worth no more than the greater. -/
theorem min_max (x y : Nat) (hx : x < 18446744073709551616) (hy : y < 18446744073709551616) (gx : goodR x = true) (gy : goodR y = true) :
    ∃ p q, pickN true .lt x y = p ∧ pickN false .gt x y = q ∧ goodR p = true ∧ goodR q = true ∧ p < 18446744073709551616 ∧ q < 18446744073709551616 ∧ vl p ≤ vl q := by
  have both : ∀ r, r = x ∨ r = y → goodR r = true ∧ r < 18446744073709551616 := by
    rintro r (rfl | rfl)
    · exact ⟨gx, hx⟩
    · exact ⟨gy, hy⟩
  have h1 := pick_good true .lt x y hx hy gx gy
  have h2 := pick_good false .gt x y hx hy gx gy
  refine ⟨_, _, rfl, rfl, ?_⟩
  have c1 : pickN true .lt x y = x ∨ pickN true .lt x y = y := by
    rcases h1 with ⟨_, _, h⟩ | h
    · exact h
    · rw [h]; split
      · exact .inl rfl
      · exact .inr rfl
  have c2 : pickN false .gt x y = x ∨ pickN false .gt x y = y := by
    rcases h2 with ⟨_, _, h⟩ | h
    · exact h
    · rw [h]; split
      · exact .inl rfl
      · exact .inr rfl
  refine ⟨(both _ c1).1, (both _ c2).1, (both _ c1).2, (both _ c2).2, ?_⟩
  rcases h1 with ⟨z1, z2, _⟩ | h1
  · rcases c1 with c | c <;> rw [c] <;> omega
  · rcases h2 with ⟨z1, z2, _⟩ | h2
    · rcases c1 with c | c <;> rw [c] <;> omega
    · have hc : (compare (vl x) (vl y) = .lt ∧ vl x < vl y) ∨ (compare (vl x) (vl y) = .eq ∧ vl x = vl y) ∨ (compare (vl x) (vl y) = .gt ∧ vl y < vl x) := by
        simp only [compare, compareOfLessAndEq]
        by_cases a : vl x < vl y
        · exact .inl ⟨if_pos a, a⟩
        · by_cases b : vl x = vl y
          · exact .inr (.inl ⟨by rw [if_neg a, if_pos b], b⟩)
          · exact .inr (.inr ⟨by rw [if_neg a, if_neg b], by omega⟩)
      rw [h1, h2]
      clear h1 h2 c1 c2
      generalize compare (vl x) (vl y) = o at hc ⊢
      rcases hc with ⟨rfl, h⟩ | ⟨rfl, h⟩ | ⟨rfl, h⟩
      · show vl x ≤ vl y
        omega
      · show vl y ≤ vl y
        omega
      · show vl y ≤ vl x
        omega
/-- What Take tells of a good word at a fair scale. -/
theorem tk_tv (x s K : Nat) (hg : goodR x = true) (h1 : 1 ≤ s) (h2 : s ≤ 1000000) (hK : K = 1074) : tk x (s : Int) = tv (vl x * s) K := by
  unfold tk
  rw [hg, if_neg (by decide), if_neg (by omega), show ((s : Int)).toNat = s by omega]
  exact tk_vl x s K hK h1
set_option maxHeartbeats 2000000 in
theorem order_walk (x y n : Nat) (w : World) (hx : x < 18446744073709551616) (hy : y < 18446744073709551616) :
    Calls Try.prog 7 #[.float .f64 x, .float .f64 y, .int .u16 (n : Int)] w fun e w' => e = .returned (.bool true) ∧ w' = w := by
  have HG1 := Lib.hid (fun W => rgood_calls x W)
  have HG2 := Lib.hid (fun W => rgood_calls y W)
  have HM := Lib.hid (fun W => min_calls x y W)
  have HX := Lib.hid (fun W => max_calls x y W)
  have hbad : goodR x = false ∨ goodR y = false ∨ (goodR x = true ∧ goodR y = true) := by
    cases goodR x <;> cases goodR y <;> simp
  rcases hbad with h | h | ⟨gx, gy⟩
  · rw [h] at HG1
    go_enter Try.func7, Try.ntmps7
    go_wp2_with fail
    refine (HG1.out _).mono ?_
    rintro e w1 ⟨rfl, rfl⟩
    go_wp2_with fail
    refine (wakes_calls _).mono ?_
    rintro e w2 ⟨rfl, rfl⟩
    go_wp2_with fail
    go_ret
    exact ⟨rfl, rfl⟩
  · rw [h] at HG2
    go_enter Try.func7, Try.ntmps7
    go_wp2_with fail
    refine (HG1.out _).mono ?_
    rintro e w1 ⟨rfl, rfl⟩
    cases goodR x
    · go_wp2_with fail
      refine (wakes_calls _).mono ?_
      rintro e w2 ⟨rfl, rfl⟩
      go_wp2_with fail
      go_ret
      exact ⟨rfl, rfl⟩
    · go_wp2_with fail
      refine (HG2.out _).mono ?_
      rintro e w1 ⟨rfl, rfl⟩
      go_wp2_with fail
      refine (wakes_calls _).mono ?_
      rintro e w2 ⟨rfl, rfl⟩
      go_wp2_with fail
      go_ret
      exact ⟨rfl, rfl⟩
  · obtain ⟨p, q, e1, e2, gp, gq, hp, hq, hpq⟩ := min_max x y hx hy gx gy
    rw [gx] at HG1
    rw [gy] at HG2
    rw [e1] at HM
    rw [e2] at HX
    obtain ⟨k, hk⟩ : ∃ k, n % 10000 + 1 = k := ⟨_, rfl⟩
    have hk1 : 1 ≤ k ∧ k ≤ 10000 := by omega
    have ek : (n : Int) % 10000 + 1 = (k : Int) := by omega
    have ek2 : 100 * (k : Int) = ((100 * k : Nat) : Int) := by omega
    have HT1 := Lib.hid (fun W => take_all p (k : Int) W hp)
    have HT2 := Lib.hid (fun W => take_all q (k : Int) W hq)
    have HT3 := Lib.hid (fun W => take_all p ((100 * k : Nat) : Int) W hp)
    obtain ⟨K, hK⟩ : ∃ K, K = 1074 := ⟨_, rfl⟩
    rw [tk_tv p k K gp hk1.1 (by omega) hK] at HT1
    rw [tk_tv q k K gq hk1.1 (by omega) hK] at HT2
    rw [tk_tv p (100 * k) K gp (by omega) (by omega) hK] at HT3
    have m1 := rnd_mono (vl p * k) (vl q * k) K (Nat.mul_le_mul_right k hpq)
    have m2 := rnd_near (vl p * k) K (by omega)
    have m3 := rnd_mono (vl p * k) (vl p * (100 * k)) K (Nat.mul_le_mul_left _ (by omega))
    rw [show 100 * (vl p * k) = vl p * (100 * k) by rw [Nat.mul_left_comm]] at m2
    unfold tv at HT1 HT2 HT3
    generalize rnd (vl p * k) K = A at *
    generalize rnd (vl q * k) K = B at *
    generalize rnd (vl p * (100 * k)) K = C at *
    rw [← ek2] at HT3
    clear hK hpq e1 e2 gp gq gx gy hk hp hq ek2
    by_cases cA : 10000000000000 < A
    · rw [if_pos cA] at HT1
      rw [if_pos (show 10000000000000 < B by omega)] at HT2
      rw [if_pos (show 10000000000000 < C by omega)] at HT3
      clear m1 m2 m3 cA
      go_enter Try.func7, Try.ntmps7
      go_wp2_with fail
      refine (HG1.out _).mono ?_
      rintro e w1 ⟨rfl, rfl⟩
      go_wp2_with fail
      refine (HG2.out _).mono ?_
      rintro e w1 ⟨rfl, rfl⟩
      go_wp2_with fail
      refine (HM.out _).mono ?_
      rintro e w1 ⟨rfl, rfl⟩
      go_wp2_with fail
      refine (HT1.out _).mono ?_
      rintro e w1 ⟨rfl, rfl⟩
      go_wp2_with fail
      refine (HX.out _).mono ?_
      rintro e w1 ⟨rfl, rfl⟩
      go_wp2_with fail
      refine (HT2.out _).mono ?_
      rintro e w1 ⟨rfl, rfl⟩
      go_wp2_with fail
      refine (HM.out _).mono ?_
      rintro e w1 ⟨rfl, rfl⟩
      go_wp2_with fail
      refine (HT3.out _).mono ?_
      rintro e w1 ⟨rfl, rfl⟩
      go_wp2_with fail
      refine (wakes_calls _).mono ?_
      rintro e w2 ⟨rfl, rfl⟩
      go_wp2_with fail
      go_ret
      exact ⟨rfl, rfl⟩
    · rw [if_neg cA] at HT1
      by_cases cB : 10000000000000 < B
      · rw [if_pos cB] at HT2
        by_cases cC : 10000000000000 < C
        · rw [if_pos cC] at HT3
          clear m1 m2 m3 cB cC
          go_enter Try.func7, Try.ntmps7
          go_wp2_with fail
          refine (HG1.out _).mono ?_
          rintro e w1 ⟨rfl, rfl⟩
          go_wp2_with fail
          refine (HG2.out _).mono ?_
          rintro e w1 ⟨rfl, rfl⟩
          go_wp2_with fail
          refine (HM.out _).mono ?_
          rintro e w1 ⟨rfl, rfl⟩
          go_wp2_with fail
          refine (HT1.out _).mono ?_
          rintro e w1 ⟨rfl, rfl⟩
          go_wp2_with fail
          refine (HX.out _).mono ?_
          rintro e w1 ⟨rfl, rfl⟩
          go_wp2_with fail
          refine (HT2.out _).mono ?_
          rintro e w1 ⟨rfl, rfl⟩
          go_wp2_with fail
          refine (HM.out _).mono ?_
          rintro e w1 ⟨rfl, rfl⟩
          go_wp2_with fail
          refine (HT3.out _).mono ?_
          rintro e w1 ⟨rfl, rfl⟩
          go_wp2_with fail
          refine (wakes_calls _).mono ?_
          rintro e w2 ⟨rfl, rfl⟩
          go_wp2_with fail
          go_ret
          exact ⟨rfl, rfl⟩
        · rw [if_neg cC] at HT3
          clear m1 cB
          go_enter Try.func7, Try.ntmps7
          go_wp2_with fail
          refine (HG1.out _).mono ?_
          rintro e w1 ⟨rfl, rfl⟩
          go_wp2_with fail
          refine (HG2.out _).mono ?_
          rintro e w1 ⟨rfl, rfl⟩
          go_wp2_with fail
          refine (HM.out _).mono ?_
          rintro e w1 ⟨rfl, rfl⟩
          go_wp2_with fail
          refine (HT1.out _).mono ?_
          rintro e w1 ⟨rfl, rfl⟩
          go_wp2_with fail
          refine (HX.out _).mono ?_
          rintro e w1 ⟨rfl, rfl⟩
          go_wp2_with fail
          refine (HT2.out _).mono ?_
          rintro e w1 ⟨rfl, rfl⟩
          go_wp2_with fail
          refine (HM.out _).mono ?_
          rintro e w1 ⟨rfl, rfl⟩
          go_wp2_with fail
          refine (HT3.out _).mono ?_
          rintro e w1 ⟨rfl, rfl⟩
          go_wp2_with fail
          refine (wakes_calls _).mono ?_
          rintro e w2 ⟨rfl, rfl⟩
          go_wp2_with fail
          go_ret
          exact ⟨rfl, rfl⟩
      · rw [if_neg cB] at HT2
        by_cases cC : 10000000000000 < C
        · rw [if_pos cC] at HT3
          clear m2 m3 cC
          go_enter Try.func7, Try.ntmps7
          go_wp2_with fail
          refine (HG1.out _).mono ?_
          rintro e w1 ⟨rfl, rfl⟩
          go_wp2_with fail
          refine (HG2.out _).mono ?_
          rintro e w1 ⟨rfl, rfl⟩
          go_wp2_with fail
          refine (HM.out _).mono ?_
          rintro e w1 ⟨rfl, rfl⟩
          go_wp2_with fail
          refine (HT1.out _).mono ?_
          rintro e w1 ⟨rfl, rfl⟩
          go_wp2_with fail
          refine (HX.out _).mono ?_
          rintro e w1 ⟨rfl, rfl⟩
          go_wp2_with fail
          refine (HT2.out _).mono ?_
          rintro e w1 ⟨rfl, rfl⟩
          go_wp2_with fail
          refine (HM.out _).mono ?_
          rintro e w1 ⟨rfl, rfl⟩
          go_wp2_with fail
          refine (HT3.out _).mono ?_
          rintro e w1 ⟨rfl, rfl⟩
          go_wp2_with fail
          refine (wakes_calls _).mono ?_
          rintro e w2 ⟨rfl, rfl⟩
          go_wp2_with fail
          go_ret
          exact ⟨rfl, rfl⟩
        · rw [if_neg cC] at HT3
          go_enter Try.func7, Try.ntmps7
          go_wp2_with fail
          refine (HG1.out _).mono ?_
          rintro e w1 ⟨rfl, rfl⟩
          go_wp2_with fail
          refine (HG2.out _).mono ?_
          rintro e w1 ⟨rfl, rfl⟩
          go_wp2_with fail
          refine (HM.out _).mono ?_
          rintro e w1 ⟨rfl, rfl⟩
          go_wp2_with fail
          refine (HT1.out _).mono ?_
          rintro e w1 ⟨rfl, rfl⟩
          go_wp2_with fail
          refine (HX.out _).mono ?_
          rintro e w1 ⟨rfl, rfl⟩
          go_wp2_with fail
          refine (HT2.out _).mono ?_
          rintro e w1 ⟨rfl, rfl⟩
          go_wp2_with fail
          refine (HM.out _).mono ?_
          rintro e w1 ⟨rfl, rfl⟩
          go_wp2_with fail
          refine (HT3.out _).mono ?_
          rintro e w1 ⟨rfl, rfl⟩
          go_wp2_with fail
          refine (wakes_calls _).mono ?_
          rintro e w2 ⟨rfl, rfl⟩
          go_wp2_with fail
          go_ret
          exact ⟨rfl, rfl⟩
end Go.Proofs.Yticgmjnilpmkpaa.Re
