/- Plain law: the program's Good is the reference's. -/
import Derived.Test.YtadcpdpcpecooaaE1
import Derived.Test.YtadcpdpcpecooaaE5
namespace Go.Proofs.Ytadcpdpcpecooaa.Ev
open Go.RowKit Go.Proofs.Ytadcpdpcpecooaa.Pk Go.Proofs.Ytadcpdpcpecooaa.Re

def minusB (x : Nat) : Bool := isZ x && decide (9223372036854775808 ≤ x)
/-- The reference's test at a letter. -/
def okR (e : E) (c : Int) : Bool :=
  if c = 76 then decide (1 ≤ e.loan) && decide (e.loan ≤ 1000)
  else if c = 65 then decide (1 ≤ e.amount) && decide (e.amount ≤ 1000000000)
  else if c = 82 then (pm e.rate).2 == 0 && (decide ((pm e.rate).1 ≤ 250000) && !minusB e.rate)
  else if c = 84 then decide (1 ≤ e.status) && decide (e.status ≤ 5)
  else if c = 80 then (if e.plan = 4 then (tk e.income 100).2 == 0 && (decide ((tk e.income 100).1 ≤ 1000000000) && (!minusB e.income && (decide (1 ≤ e.family) && decide (e.family ≤ 30))))
    else decide (1 ≤ e.plan) && decide (e.plan ≤ 4))
  else true
def goodR' (e : E) : Bool := kindB e.kind && (dayB e.day && (decide (e = onlyE e) && (ints (hasR e.kind)).all (okR e)))
theorem nil_words (x : Nat) (hx : x < 18446744073709551616) (hg : goodR x = true) (hz : isZ x = true) : x = 0 ∨ x = 9223372036854775808 := by
  rcases good_cases x hx hg with h | ⟨e, f, h1, h2, rfl⟩
  · exact .inr h
  · rcases Nat.eq_zero_or_pos e with rfl | he
    · rcases Nat.eq_zero_or_pos f with rfl | hf
      · exact .inl rfl
      · rw [show 0 * 4503599627370496 + f = f by omega] at hz
        have := (good_low f hf h2).2.1
        rw [this] at hz
        cases hz
    · have := (nrm_word e f he h1 h2).1.z
      rw [this] at hz
      cases hz
theorem take_minus (err : Int) (x : Nat) (hx : x < 18446744073709551616) (hg : err = 0 → goodR x = true) : takeB err x = (err == 0 && !minusB x) := by
  unfold takeB minusB
  by_cases he : err = 0
  · subst he
    cases hz : isZ x with
    | false => simp
    | true =>
      rcases nil_words x hx (hg rfl) hz with rfl | rfl <;> simp
  · have : (err == 0) = false := by simpa using he
    rw [this]; rfl
theorem tk_good (x : Nat) (S : Int) (h : (tk x S).2 = 0) : goodR x = true := by
  cases hg : goodR x with
  | true => rfl
  | false =>
    unfold tk at h
    rw [if_pos hg] at h
    cases h
theorem pm_good (x : Nat) (h : (pm x).2 = 0) : goodR x = true := by
  refine tk_good x 10000 ?_
  refine Decidable.byContradiction fun hn => ?_
  unfold pm at h
  rw [if_pos hn] at h
  exact hn h
set_option maxRecDepth 20000 in
set_option maxHeartbeats 2000000 in
theorem good_same (e : E) (hr : e.rate < 18446744073709551616) (hi : e.income < 18446744073709551616) : goodE e = goodR' e := by
  by_cases hk : 1 ≤ e.kind ∧ e.kind ≤ 8
  · obtain ⟨kind, day, key, loan, amount, rate, income, sub, status, plan, family⟩ := e
    have hR := take_minus (pm rate).2 rate hr (pm_good rate)
    have hC := take_minus (tk income 100).2 income hi (tk_good income 100)
    simp only at hk hr hi
    have h8 : kind = 1 ∨ kind = 2 ∨ kind = 3 ∨ kind = 4 ∨ kind = 5 ∨ kind = 6 ∨ kind = 7 ∨ kind = 8 := by omega
    unfold goodE goodR'
    congr 1
    congr 1
    rcases h8 with rfl | rfl | rfl | rfl | rfl | rfl | rfl | rfl
    · have o : onlyE (⟨1, day, key, loan, amount, rate, income, sub, status, plan, family⟩ : E) = ⟨1, day, key, loan, amount, rate, 0, sub, 0, 0, 0⟩ := rfl
      have i1 : ints (hasR 1) = [76, 65, 82, 83] := rfl
      have t1 : testF (⟨1, day, key, loan, amount, rate, income, sub, status, plan, family⟩ : E) 97 = fieldB amount 1000000000 true := rfl
      have t2 : testF (⟨1, day, key, loan, amount, rate, income, sub, status, plan, family⟩ : E) 108 = fieldB loan 1000 true := rfl
      have t3 : testF (⟨1, day, key, loan, amount, rate, income, sub, status, plan, family⟩ : E) 112 = planB plan family income false := rfl
      have t4 : testF (⟨1, day, key, loan, amount, rate, income, sub, status, plan, family⟩ : E) 114 = rateB rate true := rfl
      have t5 : testF (⟨1, day, key, loan, amount, rate, income, sub, status, plan, family⟩ : E) 115 = fieldB status 5 false := rfl
      have t6 : testF (⟨1, day, key, loan, amount, rate, income, sub, status, plan, family⟩ : E) 117 = (true || !sub) := rfl
      rw [o, t1, t2, t3, t4, t5, t6]
      clear o t1 t2 t3 t4 t5 t6
      unfold rateB
      rw [if_pos rfl, hR]
      rw [Bool.eq_iff_iff]
      simp [fieldB, planB, okR, i1]
      constructor <;> (intro h; simp_all)
    · have o : onlyE (⟨2, day, key, loan, amount, rate, income, sub, status, plan, family⟩ : E) = ⟨2, day, key, loan, 0, 0, 0, false, status, 0, 0⟩ := rfl
      have i1 : ints (hasR 2) = [76, 84] := rfl
      have t1 : testF (⟨2, day, key, loan, amount, rate, income, sub, status, plan, family⟩ : E) 97 = fieldB amount 1000000000 false := rfl
      have t2 : testF (⟨2, day, key, loan, amount, rate, income, sub, status, plan, family⟩ : E) 108 = fieldB loan 1000 true := rfl
      have t3 : testF (⟨2, day, key, loan, amount, rate, income, sub, status, plan, family⟩ : E) 112 = planB plan family income false := rfl
      have t4 : testF (⟨2, day, key, loan, amount, rate, income, sub, status, plan, family⟩ : E) 114 = rateB rate false := rfl
      have t5 : testF (⟨2, day, key, loan, amount, rate, income, sub, status, plan, family⟩ : E) 115 = fieldB status 5 true := rfl
      have t6 : testF (⟨2, day, key, loan, amount, rate, income, sub, status, plan, family⟩ : E) 117 = (false || !sub) := rfl
      rw [o, t1, t2, t3, t4, t5, t6]
      clear o t1 t2 t3 t4 t5 t6
      rw [Bool.eq_iff_iff]
      simp [fieldB, rateB, planB, okR, i1]
      constructor <;> (intro h; simp_all)
    · have o : onlyE (⟨3, day, key, loan, amount, rate, income, sub, status, plan, family⟩ : E) = ⟨3, day, key, 0, amount, 0, 0, false, 0, 0, 0⟩ := rfl
      have i1 : ints (hasR 3) = [65] := rfl
      have t1 : testF (⟨3, day, key, loan, amount, rate, income, sub, status, plan, family⟩ : E) 97 = fieldB amount 1000000000 true := rfl
      have t2 : testF (⟨3, day, key, loan, amount, rate, income, sub, status, plan, family⟩ : E) 108 = fieldB loan 1000 false := rfl
      have t3 : testF (⟨3, day, key, loan, amount, rate, income, sub, status, plan, family⟩ : E) 112 = planB plan family income false := rfl
      have t4 : testF (⟨3, day, key, loan, amount, rate, income, sub, status, plan, family⟩ : E) 114 = rateB rate false := rfl
      have t5 : testF (⟨3, day, key, loan, amount, rate, income, sub, status, plan, family⟩ : E) 115 = fieldB status 5 false := rfl
      have t6 : testF (⟨3, day, key, loan, amount, rate, income, sub, status, plan, family⟩ : E) 117 = (false || !sub) := rfl
      rw [o, t1, t2, t3, t4, t5, t6]
      clear o t1 t2 t3 t4 t5 t6
      rw [Bool.eq_iff_iff]
      simp [fieldB, rateB, planB, okR, i1]
      constructor <;> (intro h; simp_all)
    · have o : onlyE (⟨4, day, key, loan, amount, rate, income, sub, status, plan, family⟩ : E) = ⟨4, day, key, loan, amount, 0, 0, false, 0, 0, 0⟩ := rfl
      have i1 : ints (hasR 4) = [76, 65] := rfl
      have t1 : testF (⟨4, day, key, loan, amount, rate, income, sub, status, plan, family⟩ : E) 97 = fieldB amount 1000000000 true := rfl
      have t2 : testF (⟨4, day, key, loan, amount, rate, income, sub, status, plan, family⟩ : E) 108 = fieldB loan 1000 true := rfl
      have t3 : testF (⟨4, day, key, loan, amount, rate, income, sub, status, plan, family⟩ : E) 112 = planB plan family income false := rfl
      have t4 : testF (⟨4, day, key, loan, amount, rate, income, sub, status, plan, family⟩ : E) 114 = rateB rate false := rfl
      have t5 : testF (⟨4, day, key, loan, amount, rate, income, sub, status, plan, family⟩ : E) 115 = fieldB status 5 false := rfl
      have t6 : testF (⟨4, day, key, loan, amount, rate, income, sub, status, plan, family⟩ : E) 117 = (false || !sub) := rfl
      rw [o, t1, t2, t3, t4, t5, t6]
      clear o t1 t2 t3 t4 t5 t6
      rw [Bool.eq_iff_iff]
      simp [fieldB, rateB, planB, okR, i1]
      constructor <;> (intro h; simp_all)
    · have o : onlyE (⟨5, day, key, loan, amount, rate, income, sub, status, plan, family⟩ : E) = if plan = 4 then ⟨5, day, key, 0, 0, 0, income, false, 0, plan, family⟩ else ⟨5, day, key, 0, 0, 0, 0, false, 0, plan, 0⟩ := rfl
      have i1 : ints (hasR 5) = [80] := rfl
      have t1 : testF (⟨5, day, key, loan, amount, rate, income, sub, status, plan, family⟩ : E) 97 = fieldB amount 1000000000 false := rfl
      have t2 : testF (⟨5, day, key, loan, amount, rate, income, sub, status, plan, family⟩ : E) 108 = fieldB loan 1000 false := rfl
      have t3 : testF (⟨5, day, key, loan, amount, rate, income, sub, status, plan, family⟩ : E) 112 = planB plan family income true := rfl
      have t4 : testF (⟨5, day, key, loan, amount, rate, income, sub, status, plan, family⟩ : E) 114 = rateB rate false := rfl
      have t5 : testF (⟨5, day, key, loan, amount, rate, income, sub, status, plan, family⟩ : E) 115 = fieldB status 5 false := rfl
      have t6 : testF (⟨5, day, key, loan, amount, rate, income, sub, status, plan, family⟩ : E) 117 = (false || !sub) := rfl
      rw [o, t1, t2, t3, t4, t5, t6]
      clear o t1 t2 t3 t4 t5 t6
      unfold planB
      rw [if_pos rfl, hC]
      by_cases hp : plan = 4
      · subst hp
        rw [if_pos rfl]
        rw [Bool.eq_iff_iff]
        simp [fieldB, rateB, okR, i1]
        constructor <;> (intro h; simp_all)
      · rw [if_neg hp]
        rw [Bool.eq_iff_iff]
        simp [fieldB, rateB, okR, i1, hp]
        constructor <;> (intro h; simp_all; omega)
    · have o : onlyE (⟨6, day, key, loan, amount, rate, income, sub, status, plan, family⟩ : E) = ⟨6, day, key, 0, 0, 0, 0, false, 0, 0, 0⟩ := rfl
      have i1 : ints (hasR 6) = [] := rfl
      have t1 : testF (⟨6, day, key, loan, amount, rate, income, sub, status, plan, family⟩ : E) 97 = fieldB amount 1000000000 false := rfl
      have t2 : testF (⟨6, day, key, loan, amount, rate, income, sub, status, plan, family⟩ : E) 108 = fieldB loan 1000 false := rfl
      have t3 : testF (⟨6, day, key, loan, amount, rate, income, sub, status, plan, family⟩ : E) 112 = planB plan family income false := rfl
      have t4 : testF (⟨6, day, key, loan, amount, rate, income, sub, status, plan, family⟩ : E) 114 = rateB rate false := rfl
      have t5 : testF (⟨6, day, key, loan, amount, rate, income, sub, status, plan, family⟩ : E) 115 = fieldB status 5 false := rfl
      have t6 : testF (⟨6, day, key, loan, amount, rate, income, sub, status, plan, family⟩ : E) 117 = (false || !sub) := rfl
      rw [o, t1, t2, t3, t4, t5, t6]
      clear o t1 t2 t3 t4 t5 t6
      rw [Bool.eq_iff_iff]
      simp [fieldB, rateB, planB, i1]
      constructor <;> (intro h; simp_all)
    · have o : onlyE (⟨7, day, key, loan, amount, rate, income, sub, status, plan, family⟩ : E) = ⟨7, day, key, loan, 0, 0, 0, false, 0, 0, 0⟩ := rfl
      have i1 : ints (hasR 7) = [76] := rfl
      have t1 : testF (⟨7, day, key, loan, amount, rate, income, sub, status, plan, family⟩ : E) 97 = fieldB amount 1000000000 false := rfl
      have t2 : testF (⟨7, day, key, loan, amount, rate, income, sub, status, plan, family⟩ : E) 108 = fieldB loan 1000 true := rfl
      have t3 : testF (⟨7, day, key, loan, amount, rate, income, sub, status, plan, family⟩ : E) 112 = planB plan family income false := rfl
      have t4 : testF (⟨7, day, key, loan, amount, rate, income, sub, status, plan, family⟩ : E) 114 = rateB rate false := rfl
      have t5 : testF (⟨7, day, key, loan, amount, rate, income, sub, status, plan, family⟩ : E) 115 = fieldB status 5 false := rfl
      have t6 : testF (⟨7, day, key, loan, amount, rate, income, sub, status, plan, family⟩ : E) 117 = (false || !sub) := rfl
      rw [o, t1, t2, t3, t4, t5, t6]
      clear o t1 t2 t3 t4 t5 t6
      rw [Bool.eq_iff_iff]
      simp [fieldB, rateB, planB, okR, i1]
      constructor <;> (intro h; simp_all)
    · have o : onlyE (⟨8, day, key, loan, amount, rate, income, sub, status, plan, family⟩ : E) = ⟨8, day, key, loan, 0, 0, 0, false, 0, 0, 0⟩ := rfl
      have i1 : ints (hasR 8) = [76] := rfl
      have t1 : testF (⟨8, day, key, loan, amount, rate, income, sub, status, plan, family⟩ : E) 97 = fieldB amount 1000000000 false := rfl
      have t2 : testF (⟨8, day, key, loan, amount, rate, income, sub, status, plan, family⟩ : E) 108 = fieldB loan 1000 true := rfl
      have t3 : testF (⟨8, day, key, loan, amount, rate, income, sub, status, plan, family⟩ : E) 112 = planB plan family income false := rfl
      have t4 : testF (⟨8, day, key, loan, amount, rate, income, sub, status, plan, family⟩ : E) 114 = rateB rate false := rfl
      have t5 : testF (⟨8, day, key, loan, amount, rate, income, sub, status, plan, family⟩ : E) 115 = fieldB status 5 false := rfl
      have t6 : testF (⟨8, day, key, loan, amount, rate, income, sub, status, plan, family⟩ : E) 117 = (false || !sub) := rfl
      rw [o, t1, t2, t3, t4, t5, t6]
      clear o t1 t2 t3 t4 t5 t6
      rw [Bool.eq_iff_iff]
      simp [fieldB, rateB, planB, okR, i1]
      constructor <;> (intro h; simp_all)
  · have h1 : kindB e.kind = false := by
      unfold kindB
      by_cases c : 1 ≤ e.kind
      · simp; omega
      · simp [c]
    unfold goodE goodR'
    rw [h1]
    rfl
end Go.Proofs.Ytadcpdpcpecooaa.Ev
