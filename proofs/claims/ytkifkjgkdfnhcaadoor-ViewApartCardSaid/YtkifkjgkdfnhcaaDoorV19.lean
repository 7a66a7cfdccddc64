/- Days' texts stand in the order of the days. Plain. -/
import Derived.Test.YtkifkjgkdfnhcaaDoorV17
namespace Go.Proofs.YtkifkjgkdfnhcaaDoor.Vw
open Go.RowKit Go.Sort Go.Lib Go.Shelf

theorem bl_app (x y : List UInt8) : ∀ (a b : List UInt8), a.length = b.length → Op.bytesLess (a ++ x) (b ++ y) = (Op.bytesLess a b || (decide (a = b) && Op.bytesLess x y))
  | [], [], _ => by simp [Op.bytesLess]
  | [], _ :: _, h => by simp at h
  | _ :: _, [], h => by simp at h
  | c :: a, d :: b, h => by
    have ih := bl_app x y a b (by simpa using h)
    rw [List.cons_append, List.cons_append]
    simp only [Op.bytesLess]
    rw [ih]
    by_cases hc : c = d
    · subst hc
      simp
    · have h1 : (c == d) = false := by simpa using hc
      have h2 : decide (c :: a = d :: b) = false := by
        apply decide_eq_false
        intro h
        exact hc (List.cons.inj h).1
      rw [h1, h2]
      simp
theorem foldl_dv (l : List UInt8) : ∀ acc, l.foldl (fun acc c => acc * 10 + (c.toNat - 48)) acc = acc * 10 ^ l.length + dv l := by
  induction l with
  | nil => intro acc; simp [dv]
  | cons c r ih =>
    intro acc
    have e : dv (c :: r) = (0 * 10 + (c.toNat - 48)) * 10 ^ r.length + dv r := by
      show r.foldl _ (0 * 10 + (c.toNat - 48)) = _
      exact ih _
    rw [List.foldl_cons, ih, e, List.length_cons, Nat.pow_succ]
    generalize 10 ^ r.length = P
    rw [Nat.add_mul, Nat.zero_mul, Nat.zero_add, Nat.mul_assoc, Nat.mul_comm 10 P, Nat.add_assoc]
theorem dv_cons (c : UInt8) (r : List UInt8) : dv (c :: r) = (c.toNat - 48) * 10 ^ r.length + dv r := by
  show r.foldl _ (0 * 10 + (c.toNat - 48)) = _
  rw [foldl_dv]
  simp
def Digs (l : List UInt8) : Prop := ∀ c ∈ l, 48 ≤ c.toNat ∧ c.toNat ≤ 57
theorem dv_lt (l : List UInt8) (h : Digs l) : dv l < 10 ^ l.length := by
  induction l with
  | nil => decide
  | cons c r ih =>
    have h1 := ih fun d hd => h d (by simp [hd])
    have h2 := h c (by simp)
    rw [dv_cons, List.length_cons, Nat.pow_succ]
    generalize 10 ^ r.length = P at *
    have : (c.toNat - 48) * P ≤ 9 * P := Nat.mul_le_mul_right _ (by omega)
    omega
theorem bl_dig : ∀ (a b : List UInt8), a.length = b.length → Digs a → Digs b → Op.bytesLess a b = decide (dv a < dv b) ∧ (a = b ↔ dv a = dv b)
  | [], [], _, _, _ => by simp [Op.bytesLess, dv]
  | [], _ :: _, h, _, _ => by simp at h
  | _ :: _, [], h, _, _ => by simp at h
  | c :: a, d :: b, h, ha, hb => by
    have hl : a.length = b.length := by simpa using h
    have ga : Digs a := fun x hx => ha x (by simp [hx])
    have gb : Digs b := fun x hx => hb x (by simp [hx])
    obtain ⟨i1, i2⟩ := bl_dig a b hl ga gb
    have la := dv_lt a ga
    have lb := dv_lt b gb
    have hc := ha c (by simp)
    have hd := hb d (by simp)
    rw [dv_cons, dv_cons]
    simp only [Op.bytesLess]
    rw [i1, hl] at *
    generalize hP : 10 ^ b.length = P at *
    by_cases e : c = d
    · subst e
      constructor
      · have : ¬ c < c := by simp
        simp [this]
      · rw [List.cons.injEq, i2]
        constructor
        · rintro ⟨_, h⟩; rw [h]
        · intro h; exact ⟨rfl, by omega⟩
    · have e2 : (c == d) = false := by simpa using e
      have hne : c.toNat ≠ d.toNat := fun h => e (UInt8.toNat_inj.1 h)
      rw [e2]
      have key : (c.toNat < d.toNat → (c.toNat - 48) * P + dv a < (d.toNat - 48) * P + dv b) ∧ (d.toNat < c.toNat → (d.toNat - 48) * P + dv b < (c.toNat - 48) * P + dv a) := by
        constructor
        · intro h
          have := Nat.mul_le_mul_right P (show c.toNat - 48 + 1 ≤ d.toNat - 48 by omega)
          rw [Nat.add_mul, Nat.one_mul] at this
          omega
        · intro h
          have := Nat.mul_le_mul_right P (show d.toNat - 48 + 1 ≤ c.toNat - 48 by omega)
          rw [Nat.add_mul, Nat.one_mul] at this
          omega
      constructor
      · rw [Bool.false_and, Bool.or_false]
        rw [Bool.eq_iff_iff]
        simp only [decide_eq_true_eq]
        rw [UInt8.lt_iff_toNat_lt]
        constructor
        · exact key.1
        · intro h
          refine Decidable.byContradiction fun hn => ?_
          have := key.2 (by omega)
          omega
      · constructor
        · intro h; exact absurd (List.cons.inj h).1 e
        · intro h
          exfalso
          rcases Nat.lt_or_gt_of_ne hne with h1 | h1
          · have := key.1 h1; omega
          · have := key.2 h1; omega
theorem pad_digs (u k : Nat) (h : u < 18446744073709551616) : Digs (pad u k) := by
  intro c hc
  unfold pad at hc
  rcases List.mem_append.1 hc with h1 | h1
  · have := List.eq_of_mem_replicate h1
    subst this
    decide
  · exact dig_ge 19 u (by omega) c h1
theorem pad4_len (y : Nat) (h : 1000 ≤ y ∧ y < 10000) : (pad y 4).length = 4 := by
  rw [dec_four y h, dec_more y (by omega), dec_more (y / 10) (by omega), dec_more (y / 10 / 10) (by omega), dec_one (y / 10 / 10 / 10) (by omega), dec_one (y / 10 / 10 % 10) (by omega), dec_one (y / 10 % 10) (by omega), dec_one (y % 10) (by omega)]
  rfl
theorem pad_lt {a b k : Nat} (ha : a < 18446744073709551616) (hb : b < 18446744073709551616) (hl : (pad a k).length = (pad b k).length) : Op.bytesLess (pad a k) (pad b k) = decide (a < b) ∧ (pad a k = pad b k ↔ a = b) := by
  have := bl_dig (pad a k) (pad b k) hl (pad_digs a k ha) (pad_digs b k hb)
  rw [dv_pad a k ha, dv_pad b k hb] at this
  exact this
theorem day_len10 (y m d : Nat) (hy : 1000 ≤ y ∧ y < 10000) (hm : m < 100) (hd : d < 100) : (dayT y m d).length = 10 := by
  unfold dayT
  rw [cat_len, cat_len, cat_len, cat_len, pad4_len y hy, pad2_len m hm, pad2_len d hd]
  rfl
theorem dayT_less (y m d y2 m2 d2 : Nat) (hy : 1000 ≤ y ∧ y < 10000) (hy2 : 1000 ≤ y2 ∧ y2 < 10000) (hm : m < 100) (hm2 : m2 < 100) (hd : d < 100) (hd2 : d2 < 100) :
    Op.bytesLess (dayT y m d) (dayT y2 m2 d2) = decide (y < y2 ∨ (y = y2 ∧ (m < m2 ∨ (m = m2 ∧ d < d2)))) := by
  have p := pad_lt (a := y) (b := y2) (k := 4) (by omega) (by omega) (by rw [pad4_len y hy, pad4_len y2 hy2])
  have q := pad_lt (a := m) (b := m2) (k := 2) (by omega) (by omega) (by rw [pad2_len m hm, pad2_len m2 hm2])
  have r := pad_lt (a := d) (b := d2) (k := 2) (by omega) (by omega) (by rw [pad2_len d hd, pad2_len d2 hd2])
  have e : ∀ y m d : Nat, dayT y m d = pad y 4 ++ ([45] ++ (pad m 2 ++ ([45] ++ pad d 2))) := fun y m d => by unfold dayT cat; simp
  rw [e, e, bl_app _ _ _ _ (by rw [pad4_len y hy, pad4_len y2 hy2]), bl_app _ _ [45] [45] rfl, bl_app _ _ _ _ (by rw [pad2_len m hm, pad2_len m2 hm2]), bl_app _ _ [45] [45] rfl, p.1, q.1, r.1]
  have hmm : Op.bytesLess [45] [45] = false := by decide
  rw [hmm]
  have d1 : decide (pad y 4 = pad y2 4) = decide (y = y2) := by rw [Bool.eq_iff_iff]; simp [p.2]
  have d2 : decide (pad m 2 = pad m2 2) = decide (m = m2) := by rw [Bool.eq_iff_iff]; simp [q.2]
  rw [d1, d2, Bool.eq_iff_iff]
  simp
theorem bl_irrefl (a : List UInt8) : Op.bytesLess a a = false := by
  induction a with
  | nil => rfl
  | cons c r ih => simp [Op.bytesLess, ih]
/-- Two days' texts. -/
theorem days_apart (u v : Int) (hu : 0 ≤ u ∧ u ≤ 87658) (hv : 0 ≤ v ∧ v ≤ 87658) : Op.bytesLess (dayL u) (dayL v) = decide (u < v) ∧ (dayL u).length = 10 := by
  obtain ⟨k, hk, hn⟩ := S_all u hu
  obtain ⟨j, hj, hm⟩ := S_all v hv
  obtain ⟨a1, a2, a3⟩ := day_month hn
  obtain ⟨b1, b2, b3⟩ := day_month hm
  rw [dayL_at hk hn, dayL_at hj hm]
  refine ⟨?_, day_len10 _ _ _ (by omega) (by omega) (by omega)⟩
  rw [dayT_less _ _ _ _ _ _ (by omega) (by omega) (by omega) (by omega) (by omega) (by omega), Bool.eq_iff_iff]
  simp only [decide_eq_true_eq]
  have hkj : (1960 + k / 12 < 1960 + j / 12 ∨ (1960 + k / 12 = 1960 + j / 12 ∧ 1 + k % 12 < 1 + j % 12)) ↔ k < j := by omega
  by_cases e : k = j
  · subst e
    omega
  · by_cases l : k < j
    · have h1 := hkj.2 l
      have h2 := S_le (show k + 1 ≤ j by omega)
      omega
    · have h2 := S_le (show j + 1 ≤ k by omega)
      omega
theorem days_same (u v : Int) (hu : 0 ≤ u ∧ u ≤ 87658) (hv : 0 ≤ v ∧ v ≤ 87658) : dayL u = dayL v ↔ u = v := by
  refine ⟨fun h => ?_, fun h => by rw [h]⟩
  have h1 := (days_apart u v hu hv).1
  have h2 := (days_apart v u hv hu).1
  rw [h, bl_irrefl] at h1 h2
  have h1 := h1.symm
  have h2 := h2.symm
  simp only [decide_eq_false_iff_not] at h1 h2
  omega
end Go.Proofs.YtkifkjgkdfnhcaaDoor.Vw
