/- The plain law of sets to which stretches are added in some order. -/
import Derived.Test.YtgiccdjgbjgdcaaPl
namespace Go.Proofs.Ytgiccdjgbjgdcaa.Sp
open Go.RowKit Go.Proofs.YtgiccdjgbjgdcaaW.PrintWords PSpanTells

/-- The stretch that a pair of numbers stands for. -/
def iv (p : Int × Int) : S51 := ⟨p.1, p.1 + 1 + p.2.tmod 20000⟩
def U16 (p : Int × Int) : Prop := 0 ≤ p.1 ∧ p.1 ≤ 65535 ∧ 0 ≤ p.2 ∧ p.2 ≤ 65535
theorem iv_bounds {p : Int × Int} (h : U16 p) : 0 ≤ (iv p).f0 ∧ (iv p).f0 < (iv p).f1 ∧ (iv p).f1 ≤ 85536 ∧ 0 ≤ p.2.tmod 20000 ∧ p.2.tmod 20000 < 20000 := by
  obtain ⟨h1, h2, h3, h4⟩ := h
  have a1 := Int.tmod_nonneg 20000 h3
  have a2 := Int.tmod_lt_of_pos p.2 (show (0 : Int) < 20000 by decide)
  unfold iv
  simp only
  omega
/-- All stretches of a list added. -/
def addsL (xs : List S51) : List S51 → List S51
  | [] => xs
  | t :: ts => addsL (addL xs t.f0 t.f1) ts
theorem adds_snoc (xs ts : List S51) (t : S51) : addsL xs (ts ++ [t]) = addL (addsL xs ts) t.f0 t.f1 := by
  induction ts generalizing xs with
  | nil => rfl
  | cons x ts ih => exact ih _
theorem adds_ok : ∀ (ts xs : List S51) (n : Nat), goodB xs = true → xs.length ≤ n → n + ts.length ≤ 999 → (∀ t ∈ ts, 0 ≤ t.f0 ∧ t.f0 < t.f1 ∧ t.f1 ≤ 87659) →
    goodB (addsL xs ts) = true ∧ (addsL xs ts).length ≤ n + ts.length ∧ ∀ d, Me (addsL xs ts) d ↔ Me xs d ∨ Me ts d := by
  intro ts
  induction ts with
  | nil =>
    intro xs n h hl hn _
    exact ⟨h, hl, fun d => ⟨.inl, fun m => m.elim id fun m => absurd m (Me.nil d)⟩⟩
  | cons t ts ih =>
    intro xs n h hl hn ht
    simp only [List.length_cons] at hn ⊢
    obtain ⟨t0, t1, t2⟩ := ht t (List.mem_cons_self ..)
    obtain ⟨_, g⟩ := add_ok xs t.f0 t.f1 h (by omega) t0 t1 t2
    have l := add_len xs t.f0 t.f1
    obtain ⟨i1, i2, i3⟩ := ih (addL xs t.f0 t.f1) (n + 1) g (by omega) (by omega) fun y hy => ht y (List.mem_cons_of_mem _ hy)
    have e : addsL xs (t :: ts) = addsL (addL xs t.f0 t.f1) ts := rfl
    refine ⟨i1, by rw [e]; omega, fun d => ?_⟩
    rw [e, i3 d, add_me xs (-1) t.f0 t.f1 d ((good_iff xs).1 h).2 t1, Me.cons]
    unfold On
    exact or_assoc
theorem good_nil : goodB [] = true := rfl
/-- What has been added, in whatever order, is one. -/
theorem adds_perm (l k : List (Int × Int)) (hl : l.length ≤ 40) (hu : ∀ p ∈ l, U16 p) (hp : k.Perm l) : addsL [] (k.map iv) = addsL [] (l.map iv) := by
  have hb : ∀ ms : List (Int × Int), (∀ p ∈ ms, U16 p) → ∀ t ∈ ms.map iv, 0 ≤ t.f0 ∧ t.f0 < t.f1 ∧ t.f1 ≤ 87659 := by
    intro ms hms t ht
    obtain ⟨p, hp, rfl⟩ := List.mem_map.1 ht
    have := iv_bounds (hms p hp)
    omega
  have hk : ∀ p ∈ k, U16 p := fun p h => hu p (hp.mem_iff.1 h)
  obtain ⟨g1, _, m1⟩ := adds_ok (k.map iv) [] 0 good_nil (Nat.le_refl _) (by rw [List.length_map, hp.length_eq]; omega) (hb k hk)
  obtain ⟨g2, _, m2⟩ := adds_ok (l.map iv) [] 0 good_nil (Nat.le_refl _) (by rw [List.length_map]; omega) (hb l hu)
  refine can_uniq _ _ (-1) (-1) ((good_iff _).1 g1).2 ((good_iff _).1 g2).2 fun d => ?_
  rw [m1 d, m2 d]
  have : Me (k.map iv) d ↔ Me (l.map iv) d := by
    unfold Me
    constructor
    · rintro ⟨x, hx, o⟩; exact ⟨x, ((hp.map iv).mem_iff).1 hx, o⟩
    · rintro ⟨x, hx, o⟩; exact ⟨x, ((hp.map iv).mem_iff).2 hx, o⟩
  rw [this]
/-- Days above all are added and cut again. -/
theorem above (a : List S51) (h : goodB a = true) (hl : a.length ≤ 998) (hb : ∀ d, Me a d → d < 86000) :
    addF a 86000 87000 = (addL a 86000 87000, 0) ∧ goodB (addL a 86000 87000) = true ∧ sumD (addL a 86000 87000) = sumD a + 1000 ∧ cutF (addL a 86000 87000) 86000 87000 = (a, 0) := by
  have hc := ((good_iff a).1 h).2
  obtain ⟨e1, g1⟩ := add_ok a 86000 87000 h (by omega) (by decide) (by decide) (by decide)
  have l1 := add_len a 86000 87000
  obtain ⟨e2, g2, _⟩ := cut_ok (addL a 86000 87000) 86000 87000 g1 (by omega) (by decide) (by decide) (by decide)
  have hc1 := ((good_iff _).1 g1).2
  have m1 := fun d => add_me a (-1) 86000 87000 d hc (by decide)
  refine ⟨e1, g1, ?_, ?_⟩
  · rw [sum_cnt _ (-1) (by omega) hc1, sum_cnt _ (-1) (by omega) hc]
    have e : ∀ d, inB (addL a 86000 87000) d = (inB a d || (decide (86000 ≤ d) && decide (d < 87000))) := fun d => by
      rw [Bool.eq_iff_iff, Bool.or_eq_true, Bool.and_eq_true, decide_eq_true_eq, decide_eq_true_eq, inB_iff, inB_iff]
      exact m1 d
    rw [cnt_congr _ _ _ e, cnt_or, cnt_iv 86000 87000 (by decide) (by decide)]
    · omega
    · intro d hd
      have := hb d ((inB_iff a d).1 hd)
      simp
      omega
  · rw [e2]
    congr 1
    refine can_uniq _ _ (-1) (-1) ((good_iff _).1 g2).2 hc fun d => ?_
    rw [cut_me _ (-1) 86000 87000 d hc1 (by decide), m1 d]
    constructor
    · rintro ⟨h1 | h1, h2⟩
      · exact h1
      · exact absurd h1 h2
    · intro h1
      exact ⟨.inl h1, fun h2 => by have := hb d h1; omega⟩
theorem adds_low (l : List (Int × Int)) (hl : l.length ≤ 40) (hu : ∀ p ∈ l, U16 p) : goodB (addsL [] (l.map iv)) = true ∧ (addsL [] (l.map iv)).length ≤ l.length ∧ ∀ d, Me (addsL [] (l.map iv)) d → d < 86000 := by
  have hb : ∀ t ∈ l.map iv, 0 ≤ t.f0 ∧ t.f0 < t.f1 ∧ t.f1 ≤ 87659 := by
    intro t ht
    obtain ⟨p, hp, rfl⟩ := List.mem_map.1 ht
    have := iv_bounds (hu p hp)
    omega
  obtain ⟨g, n, m⟩ := adds_ok (l.map iv) [] 0 good_nil (Nat.le_refl _) (by rw [List.length_map]; omega) hb
  refine ⟨g, by rw [List.length_map] at n; omega, fun d hd => ?_⟩
  rcases (m d).1 hd with h | ⟨x, hx, o⟩
  · exact absurd h (Me.nil d)
  · obtain ⟨p, hp, rfl⟩ := List.mem_map.1 hx
    have := iv_bounds (hu p hp)
    have := o.2
    omega
theorem adds_take (l : List (Int × Int)) (hl : l.length ≤ 40) (hu : ∀ p ∈ l, U16 p) (j : Nat) (hj : j < l.length) (La : List S51) (hLa : La = addsL [] ((l.take j).map iv)) :
    addF La l[j].1 (l[j].1 + 1 + l[j].2.tmod 20000) = (addsL [] ((l.take (j + 1)).map iv), 0) := by
  have hu' : ∀ p ∈ l.take j, U16 p := fun p hp => hu p (List.mem_of_mem_take hp)
  have hlt : (l.take j).length ≤ 40 := by rw [List.length_take]; omega
  obtain ⟨g, n, _⟩ := adds_low (l.take j) hlt hu'
  have hb := iv_bounds (hu l[j] (List.getElem_mem hj))
  have e := (add_ok La (iv l[j]).f0 (iv l[j]).f1 (by rw [hLa]; exact g) (by rw [hLa]; omega) hb.1 hb.2.1 (by omega)).1
  rw [List.take_succ_eq_append_getElem hj, List.map_append, List.map_singleton, adds_snoc, ← hLa]
  exact e
/-- Two exchanged. -/
theorem swap_perm {α : Type} (K : List α) (x y : Nat) (hx : x < K.length) (hy : y < K.length) : ((K.set x K[y]).set y K[x]).Perm K := by
  exact List.set_set_perm hx hy
end Go.Proofs.Ytgiccdjgbjgdcaa.Sp
