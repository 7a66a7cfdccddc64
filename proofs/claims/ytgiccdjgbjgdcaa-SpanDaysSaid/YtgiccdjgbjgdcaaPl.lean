/- The plain law of the sets of days: what Add, Cut and Both answer is told by its days; so is what the reference puts together; counts. -/
import Derived.Test.YtgiccdjgbjgdcaaBo
import Derived.Test.YtgiccdjgbjgdcaaSw
namespace Go.Proofs.Ytgiccdjgbjgdcaa.Sp
open Go.RowKit Go.Proofs.YtgiccdjgbjgdcaaW.PrintWords PSpanTells
/-- A day of a stretch; a day of a list. -/
def On (x : S51) (d : Int) : Prop := x.f0 ≤ d ∧ d < x.f1
def Me (xs : List S51) (d : Int) : Prop := ∃ x ∈ xs, On x d
theorem inB_iff (xs : List S51) (d : Int) : inB xs d = true ↔ Me xs d := by
  simp only [inB, List.any_eq_true, Bool.and_eq_true, decide_eq_true_eq, Me, On]
theorem Me.nil (d : Int) : ¬ Me [] d := by rintro ⟨x, hx, _⟩; cases hx
theorem Me.cons {x : S51} {xs : List S51} {d : Int} : Me (x :: xs) d ↔ On x d ∨ Me xs d := by simp [Me]
theorem Me.append {xs ys : List S51} {d : Int} : Me (xs ++ ys) d ↔ Me xs d ∨ Me ys d := by
  simp only [Me, List.mem_append]
  constructor
  · rintro ⟨x, h | h, o⟩
    · exact .inl ⟨x, h, o⟩
    · exact .inr ⟨x, h, o⟩
  · rintro (⟨x, h, o⟩ | ⟨x, h, o⟩)
    · exact ⟨x, .inl h, o⟩
    · exact ⟨x, .inr h, o⟩
/-- Stretches above a day, each behind a gap behind the one ahead. -/
def Gap (x y : S51) : Prop := x.f1 < y.f0
def Can (l : Int) (xs : List S51) : Prop := (∀ x ∈ xs, l < x.f0 ∧ x.f0 < x.f1 ∧ x.f1 ≤ 87659) ∧ xs.Pairwise Gap
theorem good_can : ∀ (xs : List S51) (l : Int), goodFrom l xs = true ↔ Can l xs := by
  intro xs
  induction xs with
  | nil => intro l; simp [goodFrom, Can]
  | cons x xs ih =>
    intro l
    simp only [goodFrom, Bool.and_eq_true, decide_eq_true_eq, ih, Can, List.pairwise_cons, List.mem_cons, Gap]
    constructor
    · rintro ⟨h1, h2, h3, h4, h5⟩
      refine ⟨?_, fun y hy => (h4 y hy).1, h5⟩
      rintro y (rfl | hy)
      · exact ⟨h1, h2, h3⟩
      · have := h4 y hy
        exact ⟨by omega, this.2.1, this.2.2⟩
    · rintro ⟨h1, h2, h3⟩
      have hx := h1 x (.inl rfl)
      exact ⟨hx.1, hx.2.1, hx.2.2, fun y hy => ⟨h2 y hy, (h1 y (.inr hy)).2⟩, h3⟩
theorem Can.low {l k : Int} {xs : List S51} (h : Can l xs) (hk : k ≤ l) : Can k xs :=
  ⟨fun x hx => ⟨by have := h.1 x hx; omega, (h.1 x hx).2⟩, h.2⟩
theorem Can.tail {l : Int} {x : S51} {xs : List S51} (h : Can l (x :: xs)) : Can x.f1 xs :=
  ⟨fun y hy => ⟨(List.pairwise_cons.1 h.2).1 y hy, (h.1 y (List.mem_cons_of_mem _ hy)).2⟩, (List.pairwise_cons.1 h.2).2⟩
theorem Can.head {l : Int} {x : S51} {xs : List S51} (h : Can l (x :: xs)) : l < x.f0 ∧ x.f0 < x.f1 ∧ x.f1 ≤ 87659 := h.1 x (List.mem_cons_self ..)
theorem Can.me {l : Int} {xs : List S51} {d : Int} (h : Can l xs) (m : Me xs d) : l < d ∧ d < 87659 := by
  obtain ⟨x, hx, o1, o2⟩ := m
  have := h.1 x hx
  omega
/-- Two such lists of the same days are one. -/
theorem can_uniq : ∀ (xs ys : List S51) (l k : Int), Can l xs → Can k ys → (∀ d, Me xs d ↔ Me ys d) → xs = ys := by
  intro xs
  induction xs with
  | nil =>
    intro ys l k _ hy h
    cases ys with
    | nil => rfl
    | cons y ys => exact absurd ((h y.f0).2 (Me.cons.2 (.inl ⟨Int.le_refl _, hy.head.2.1⟩))) (Me.nil _)
  | cons x xs ih =>
    intro ys l k hx hy h
    cases ys with
    | nil => exact absurd ((h x.f0).1 (Me.cons.2 (.inl ⟨Int.le_refl _, hx.head.2.1⟩))) (Me.nil _)
    | cons y ys =>
      have tx := hx.tail
      have ty := hy.tail
      have bx := hx.head
      have by' := hy.head
      have e0 : x.f0 = y.f0 := by
        have h1 : y.f0 ≤ x.f0 := by
          rcases Me.cons.1 ((h x.f0).1 (Me.cons.2 (.inl ⟨Int.le_refl _, bx.2.1⟩))) with o | m
          · exact o.1
          · have := ty.me m; omega
        have h2 : x.f0 ≤ y.f0 := by
          rcases Me.cons.1 ((h y.f0).2 (Me.cons.2 (.inl ⟨Int.le_refl _, by'.2.1⟩))) with o | m
          · exact o.1
          · have := tx.me m; omega
        omega
      have e1 : x.f1 = y.f1 := by
        rcases Int.lt_trichotomy x.f1 y.f1 with c | c | c
        · rcases Me.cons.1 ((h x.f1).2 (Me.cons.2 (.inl ⟨by omega, c⟩))) with o | m
          · have := o.2; omega
          · have := tx.me m; omega
        · exact c
        · rcases Me.cons.1 ((h y.f1).1 (Me.cons.2 (.inl ⟨by omega, c⟩))) with o | m
          · have := o.2; omega
          · have := ty.me m; omega
      have e : x = y := by cases x; cases y; cases e0; cases e1; rfl
      subst e
      congr 1
      refine ih ys x.f1 x.f1 tx ty fun d => ⟨fun m => ?_, fun m => ?_⟩
      · have := tx.me m
        rcases Me.cons.1 ((h d).1 (Me.cons.2 (.inr m))) with o | m
        · have := o.2; omega
        · exact m
      · have := ty.me m
        rcases Me.cons.1 ((h d).2 (Me.cons.2 (.inr m))) with o | m
        · have := o.2; omega
        · exact m

/-- The three pieces of a set. -/
theorem pieces (xs : List S51) (l f t : Int) (h : Can l xs) : ∃ P S, xs = P ++ (midL xs f t ++ S) ∧ xs.take (cutA xs f) = P ∧ xs.drop (cutB xs f t) = S ∧
    (∀ x ∈ P, x.f1 < f) ∧ (∀ x ∈ midL xs f t, f ≤ x.f1 ∧ x.f0 ≤ t) ∧ ∀ x ∈ S, t < x.f0 := by
  have hA : cutA xs f ≤ xs.length := List.findIdx_le_length
  have hAB : cutA xs f ≤ cutB xs f t := Nat.le_add_right _ _
  have hP : ∀ x ∈ xs.take (cutA xs f), x.f1 < f := by
    intro x hx
    obtain ⟨i, hi, rfl⟩ := List.getElem_of_mem hx
    rw [List.length_take] at hi
    rw [List.getElem_take]
    have := List.not_of_lt_findIdx (p := fun x : S51 => decide (f ≤ x.f1)) (xs := xs) (i := i) (show i < cutA xs f by omega)
    simp only [decide_eq_false_iff_not] at this
    omega
  have hR : ∀ x ∈ xs.drop (cutA xs f), f ≤ x.f1 := by
    intro x hx
    obtain ⟨i, hi, rfl⟩ := List.getElem_of_mem hx
    rw [List.length_drop] at hi
    rw [List.getElem_drop]
    have hlt : cutA xs f < xs.length := by omega
    have h0 : f ≤ (xs[cutA xs f]'hlt).f1 := by
      have := List.findIdx_getElem (p := fun x : S51 => decide (f ≤ x.f1)) (xs := xs) (w := hlt)
      exact of_decide_eq_true this
    rcases Nat.eq_zero_or_pos i with hi0 | hi0
    · subst hi0; exact h0
    · have g := List.pairwise_iff_getElem.1 h.2 (cutA xs f) (cutA xs f + i) hlt (by omega) (by omega)
      have b := h.1 _ (List.getElem_mem (l := xs) (n := cutA xs f + i) (by omega))
      unfold Gap at g
      omega
  have hM : ∀ x ∈ midL xs f t, f ≤ x.f1 ∧ x.f0 ≤ t := by
    intro x hx
    refine ⟨hR x ?_, ?_⟩
    · unfold midL at hx
      rw [List.drop_take] at hx
      exact List.mem_of_mem_take hx
    · unfold midL at hx
      rw [List.drop_take] at hx
      obtain ⟨i, hi, rfl⟩ := List.getElem_of_mem hx
      rw [List.length_take] at hi
      rw [List.getElem_take]
      have := List.not_of_lt_findIdx (p := fun x : S51 => !decide (x.f0 ≤ t)) (xs := xs.drop (cutA xs f)) (i := i) (by unfold cutB endAt at hi; omega)
      simpa using this
  have hS : ∀ x ∈ xs.drop (cutB xs f t), t < x.f0 := by
    intro x hx
    have e : cutB xs f t = cutA xs f + (xs.drop (cutA xs f)).findIdx (fun x => !decide (x.f0 ≤ t)) := rfl
    obtain ⟨i, hi, rfl⟩ := List.getElem_of_mem hx
    rw [List.length_drop] at hi
    rw [List.getElem_drop]
    have hlt : (xs.drop (cutA xs f)).findIdx (fun x => !decide (x.f0 ≤ t)) < (xs.drop (cutA xs f)).length := by rw [List.length_drop]; omega
    have h0 : t < (xs[cutB xs f t]'(by omega)).f0 := by
      have := List.findIdx_getElem (p := fun x : S51 => !decide (x.f0 ≤ t)) (xs := xs.drop (cutA xs f)) (w := hlt)
      rw [List.getElem_drop] at this
      simpa [← e] using this
    rcases Nat.eq_zero_or_pos i with hi0 | hi0
    · subst hi0; exact h0
    · have g := List.pairwise_iff_getElem.1 h.2 (cutB xs f t) (cutB xs f t + i) (by omega) (by omega) (by omega)
      have b := h.1 _ (List.getElem_mem (l := xs) (n := cutB xs f t) (by omega))
      unfold Gap at g
      omega
  refine ⟨_, _, ?_, rfl, rfl, hP, hM, hS⟩
  have e1 : xs.take (cutA xs f) ++ midL xs f t = xs.take (cutB xs f t) := by
    unfold midL
    rw [show xs.take (cutA xs f) = (xs.take (cutB xs f t)).take (cutA xs f) by rw [List.take_take, Nat.min_eq_left hAB]]
    exact List.take_append_drop _ _
  rw [← List.append_assoc, e1, List.take_append_drop]

theorem min_mid : ∀ (ms : List S51) (f t d : Int), f < t → (∀ x ∈ ms, f ≤ x.f1 ∧ x.f0 ≤ t) → (∀ x ∈ ms, x.f0 < x.f1) →
    ((midFrom ms f ≤ d ∧ d < midTo ms t) ↔ (f ≤ d ∧ d < t) ∨ Me ms d) := by
  intro ms
  induction ms with
  | nil => intro f t d _ _ _; exact ⟨.inl, fun h => h.elim id fun m => absurd m (Me.nil d)⟩
  | cons x ms ih =>
    intro f t d hft hm hx
    have hx0 := hm x (List.mem_cons_self ..)
    have hx1 := hx x (List.mem_cons_self ..)
    have e := ih (min f x.f0) (max t x.f1) d (by omega) (fun y hy => by have := hm y (List.mem_cons_of_mem _ hy); omega) (fun y hy => hx y (List.mem_cons_of_mem _ hy))
    have e2 : (midFrom (x :: ms) f ≤ d ∧ d < midTo (x :: ms) t) ↔ (midFrom ms (min f x.f0) ≤ d ∧ d < midTo ms (max t x.f1)) := Iff.rfl
    rw [e2, e, Me.cons]
    unfold On
    by_cases hmm : Me ms d
    · simp only [hmm, or_true]
    · simp only [hmm, or_false]
      omega
theorem mid_low : ∀ (ms : List S51) (f c : Int), c < f → (∀ x ∈ ms, c < x.f0) → c < midFrom ms f := by
  intro ms
  induction ms with
  | nil => intro f c h _; exact h
  | cons x ms ih =>
    intro f c h hm
    exact ih (min f x.f0) c (by have := hm x (List.mem_cons_self ..); omega) fun y hy => hm y (List.mem_cons_of_mem _ hy)
theorem mid_up : ∀ (ms : List S51) (t c : Int), t ≤ c → (∀ x ∈ ms, x.f1 ≤ c) → midTo ms t ≤ c := by
  intro ms
  induction ms with
  | nil => intro f c h _; exact h
  | cons x ms ih =>
    intro f c h hm
    exact ih (max f x.f1) c (by have := hm x (List.mem_cons_self ..); omega) fun y hy => hm y (List.mem_cons_of_mem _ hy)
theorem mid_le : ∀ (ms : List S51) (f t : Int), midFrom ms f ≤ f ∧ t ≤ midTo ms t := by
  intro ms
  induction ms with
  | nil => intro f t; exact ⟨Int.le_refl _, Int.le_refl _⟩
  | cons x ms ih =>
    intro f t
    have := ih (min f x.f0) (max t x.f1)
    have e : midFrom (x :: ms) f = midFrom ms (min f x.f0) ∧ midTo (x :: ms) t = midTo ms (max t x.f1) := ⟨rfl, rfl⟩
    rw [e.1, e.2]
    omega
/-- Days more. -/
theorem add_me (xs : List S51) (l f t d : Int) (h : Can l xs) (hft : f < t) : Me (addL xs f t) d ↔ Me xs d ∨ (f ≤ d ∧ d < t) := by
  obtain ⟨P, S, e, eP, eS, hP, hM, hS⟩ := pieces xs l f t h
  have hlen : ∀ x ∈ midL xs f t, x.f0 < x.f1 := fun x hx => by
    have : x ∈ xs := by rw [e]; simp [hx]
    exact (h.1 x this).2.1
  have hm := min_mid (midL xs f t) f t d hft hM hlen
  unfold addL
  rw [eP, eS]
  conv => rhs; rw [e]
  rw [Me.append, Me.append, Me.append, Me.append, Me.cons]
  have : On ⟨midFrom (midL xs f t) f, midTo (midL xs f t) t⟩ d ↔ (midFrom (midL xs f t) f ≤ d ∧ d < midTo (midL xs f t) t) := Iff.rfl
  rw [this, hm]
  have := Me.nil d
  constructor
  · rintro (h | ((h | h) | h) | h)
    · exact .inl (.inl h)
    · exact .inr h
    · exact .inl (.inr (.inl h))
    · exact absurd h this
    · exact .inl (.inr (.inr h))
  · rintro ((h | h | h) | h)
    · exact .inl h
    · exact .inr (.inl (.inl (.inr h)))
    · exact .inr (.inr h)
    · exact .inr (.inl (.inl (.inl h)))
theorem add_can (xs : List S51) (l f t : Int) (h : Can l xs) (hft : f < t) (hl : l < f) (ht : t ≤ 87659) : Can l (addL xs f t) := by
  obtain ⟨P, S, e, eP, eS, hP, hM, hS⟩ := pieces xs l f t h
  generalize hmm : midL xs f t = M at *
  have h' := h
  rw [e] at h'
  obtain ⟨h1, h2⟩ := h'
  rw [List.pairwise_append, List.pairwise_append] at h2
  obtain ⟨pP, ⟨pM, pS, hMS⟩, hPR⟩ := h2
  have lo : ∀ c, c < f → (∀ x ∈ M, c < x.f0) → c < midFrom M f := mid_low M f
  have up : ∀ c, t ≤ c → (∀ x ∈ M, x.f1 ≤ c) → midTo M t ≤ c := mid_up M t
  have le := mid_le M f t
  have b1 : l < midFrom M f := lo l hl fun x hx => (h1 x (by simp [hx])).1
  have b2 : midTo M t ≤ 87659 := up _ ht fun x hx => (h1 x (by simp [hx])).2.2
  unfold addL
  rw [hmm, eP, eS]
  refine ⟨?_, ?_⟩
  · intro x hx
    simp only [List.mem_append, List.mem_singleton] at hx
    rcases hx with hx | rfl | hx
    · exact h1 x (by simp [hx])
    · exact ⟨b1, by simp only; omega, b2⟩
    · exact h1 x (by simp [hx])
  · rw [List.pairwise_append, List.pairwise_append]
    refine ⟨pP, ⟨List.pairwise_singleton _ _, pS, ?_⟩, ?_⟩
    · intro x hx y hy
      rw [List.mem_singleton] at hx
      subst hx
      have h3 := hS y hy
      have := up (y.f0 - 1) (by omega) fun x hx => by have := hMS x hx y hy; unfold Gap at this; omega
      unfold Gap
      simp only
      omega
    · intro x hx y hy
      simp only [List.mem_append, List.mem_singleton] at hy
      rcases hy with rfl | hy
      · exact lo x.f1 (hP x hx) fun z hz => hPR x hx z (by simp [hz])
      · exact hPR x hx y (by simp [hy])
theorem add_len (xs : List S51) (f t : Int) : (addL xs f t).length ≤ xs.length + 1 := by
  unfold addL
  have hAB : cutA xs f ≤ cutB xs f t := Nat.le_add_right _ _
  simp only [List.length_append, List.length_take, List.length_drop, List.length_singleton]
  omega

/-- Days fewer: every stretch is cut by itself. -/
theorem cut_all (xs : List S51) (l f t : Int) (h : Can l xs) (hft : f < t) : cutL xs f t = xs.flatMap (cutStep f t) := by
  obtain ⟨P, S, e, eP, eS, hP, hM, hS⟩ := pieces xs l f t h
  have h1 : ∀ L : List S51, (∀ x ∈ L, cutStep f t x = [x]) → L.flatMap (cutStep f t) = L := by
    intro L
    induction L with
    | nil => intro _; rfl
    | cons x L ih => intro hx; rw [List.flatMap_cons, hx x (List.mem_cons_self ..), ih fun y hy => hx y (List.mem_cons_of_mem _ hy)]; rfl
  unfold cutL
  rw [eP, eS]
  conv => rhs; rw [e]
  rw [List.flatMap_append, List.flatMap_append]
  rw [h1 P, h1 S]
  · rfl
  · intro x hx
    have a := hS x hx
    have b := (h.1 x (by rw [e]; simp [hx])).2.1
    unfold cutStep
    rw [if_neg (by omega), if_pos (by omega), if_neg (by omega)]
    rfl
  · intro x hx
    have a := hP x hx
    have b := (h.1 x (by rw [e]; simp [hx])).2.1
    unfold cutStep
    rw [if_pos (by omega), if_neg (show ¬ f < x.f1 by omega), if_neg (by omega)]
    rfl
theorem step_me (f t : Int) (x : S51) (d : Int) (hft : f < t) : Me (cutStep f t x) d ↔ On x d ∧ ¬ (f ≤ d ∧ d < t) := by
  unfold cutStep
  rw [Me.append]
  have hn := Me.nil d
  by_cases h1 : x.f0 < f <;> by_cases h2 : t < x.f1 <;> simp only [h1, h2, if_true, if_false, Me.cons, hn, or_false, false_or, On] <;> (try split) <;> (try split) <;> (try simp only [false_iff]) <;> omega
theorem cut_me (xs : List S51) (l f t d : Int) (h : Can l xs) (hft : f < t) : Me (cutL xs f t) d ↔ Me xs d ∧ ¬ (f ≤ d ∧ d < t) := by
  rw [cut_all xs l f t h hft]
  constructor
  · rintro ⟨y, hy, o⟩
    obtain ⟨x, hx, hy⟩ := List.mem_flatMap.1 hy
    have := (step_me f t x d hft).1 ⟨y, hy, o⟩
    exact ⟨⟨x, hx, this.1⟩, this.2⟩
  · rintro ⟨⟨x, hx, o⟩, n⟩
    obtain ⟨y, hy, o⟩ := (step_me f t x d hft).2 ⟨o, n⟩
    exact ⟨y, List.mem_flatMap.2 ⟨x, hx, hy⟩, o⟩
theorem step_in (f t : Int) (x y : S51) (hx : x.f0 < x.f1) (h : y ∈ cutStep f t x) : x.f0 ≤ y.f0 ∧ y.f0 < y.f1 ∧ y.f1 ≤ x.f1 := by
  unfold cutStep at h
  rw [List.mem_append] at h
  rcases h with h | h
  · split at h
    · rw [List.mem_singleton] at h
      subst h
      simp only
      split <;> omega
    · cases h
  · split at h
    · rw [List.mem_singleton] at h
      subst h
      simp only
      split <;> omega
    · cases h
theorem cut_can (xs : List S51) (l f t : Int) (h : Can l xs) (hft : f < t) : Can l (cutL xs f t) := by
  rw [cut_all xs l f t h hft]
  refine ⟨?_, ?_⟩
  · intro y hy
    obtain ⟨x, hx, hy⟩ := List.mem_flatMap.1 hy
    have b := h.1 x hx
    have := step_in f t x y b.2.1 hy
    omega
  · rw [List.pairwise_flatMap]
    refine ⟨fun x hx => ?_, ?_⟩
    · have b := h.1 x hx
      unfold cutStep
      by_cases h1 : x.f0 < f <;> by_cases h2 : t < x.f1
      · simp only [h1, h2, if_true]
        rw [if_pos (by omega)]
        simp only [List.singleton_append, List.pairwise_cons, List.mem_singleton, forall_eq, Gap]
        refine ⟨?_, by simp⟩
        split <;> omega
      all_goals simp [h1, h2]
    · refine h.2.imp_of_mem ?_
      intro a b ha hb g x hx y hy
      have h1 := step_in f t a x (h.1 a ha).2.1 hx
      have h2 := step_in f t b y (h.1 b hb).2.1 hy
      unfold Gap at g ⊢
      omega
theorem cut_len : ∀ (xs : List S51) (l f t : Int), Can l xs → f < t → (xs.flatMap (cutStep f t)).length ≤ xs.length + 1 := by
  intro xs
  induction xs with
  | nil => intro l f t _ _; simp
  | cons x xs ih =>
    intro l f t h hft
    rw [List.flatMap_cons, List.length_append, List.length_cons]
    have i := ih x.f1 f t h.tail hft
    by_cases h2 : t < x.f1
    · have h3 : xs.flatMap (cutStep f t) = xs := by
        have key : ∀ L : List S51, (∀ y ∈ L, x.f1 < y.f0 ∧ y.f0 < y.f1) → L.flatMap (cutStep f t) = L := by
          intro L
          induction L with
          | nil => intro _; rfl
          | cons y L ih =>
            intro hy
            have := hy y (List.mem_cons_self ..)
            have e : cutStep f t y = [y] := by
              unfold cutStep
              rw [if_neg (by omega), if_pos (by omega), if_neg (by omega)]
              rfl
            rw [List.flatMap_cons, e, ih fun z hz => hy z (List.mem_cons_of_mem _ hz)]
            rfl
        exact key xs fun y hy => ⟨(h.tail.1 y hy).1, (h.tail.1 y hy).2.1⟩
      rw [h3]
      have : (cutStep f t x).length ≤ 2 := by unfold cutStep; by_cases h1 : x.f0 < f <;> simp [h1, h2]
      omega
    · have : (cutStep f t x).length ≤ 1 := by unfold cutStep; by_cases h1 : x.f0 < f <;> simp [h1, h2]
      omega

/-- The days of both. -/
theorem meetL_me (a b : S51) (d : Int) : Me (meetL a b) d ↔ On a d ∧ On b d := by
  have hn := Me.nil d
  unfold meetL meet
  by_cases h : a.f0 < b.f0 <;> by_cases h' : b.f1 < a.f1 <;> simp only [h, h', if_true, if_false] <;> split <;> simp only [Me.cons, hn, or_false, On, false_iff] <;> omega
theorem both_me : ∀ (n : Nat) (al bl : List S51) (l k : Int), al.length + bl.length ≤ n → Can l al → Can k bl → ∀ d, (Me (bothL al bl) d ↔ Me al d ∧ Me bl d) := by
  intro n
  induction n with
  | zero =>
    intro al bl l k hn _ _ d
    have : al = [] := List.eq_nil_of_length_eq_zero (by omega)
    subst this
    have hn := Me.nil d
    simp [bothL, hn]
  | succ n ih =>
    intro al bl l k hn ha hb d
    have hnil := Me.nil d
    match al, bl with
    | [], _ => simp [bothL, hnil]
    | _ :: _, [] => simp [bothL, hnil]
    | a :: al, b :: bl =>
      have ta := ha.tail
      have tb := hb.tail
      have ba := ha.head
      have bb := hb.head
      simp only [List.length_cons] at hn
      rw [bothL, Me.append, meetL_me]
      split
      · next hlt =>
        rw [ih al (b :: bl) a.f1 k (by simp only [List.length_cons]; omega) ta hb d, Me.cons (x := a), Me.cons (x := b)]
        constructor
        · rintro (⟨h1, h2⟩ | ⟨h1, h2⟩)
          · exact ⟨.inl h1, .inl h2⟩
          · exact ⟨.inr h1, h2⟩
        · rintro ⟨h1 | h1, h2 | h2⟩
          · exact .inl ⟨h1, h2⟩
          · have := tb.me h2; have := h1.2; omega
          · exact .inr ⟨h1, .inl h2⟩
          · exact .inr ⟨h1, .inr h2⟩
      · next hge =>
        rw [ih (a :: al) bl l b.f1 (by simp only [List.length_cons]; omega) ha tb d, Me.cons (x := a), Me.cons (x := b)]
        constructor
        · rintro (⟨h1, h2⟩ | ⟨h1, h2⟩)
          · exact ⟨.inl h1, .inl h2⟩
          · exact ⟨h1, .inr h2⟩
        · rintro ⟨h1 | h1, h2 | h2⟩
          · exact .inl ⟨h1, h2⟩
          · exact .inr ⟨.inl h1, h2⟩
          · have := ta.me h1; have := h2.2; omega
          · exact .inr ⟨.inr h1, h2⟩
theorem both_in : ∀ (n : Nat) (al bl : List S51), al.length + bl.length ≤ n → ∀ y ∈ bothL al bl, y.f0 < y.f1 ∧ (∃ a ∈ al, a.f0 ≤ y.f0 ∧ y.f1 ≤ a.f1) ∧ ∃ b ∈ bl, b.f0 ≤ y.f0 ∧ y.f1 ≤ b.f1 := by
  intro n
  induction n with
  | zero =>
    intro al bl hn y hy
    have : al = [] := List.eq_nil_of_length_eq_zero (by omega)
    subst this
    simp [bothL] at hy
  | succ n ih =>
    intro al bl hn y hy
    match al, bl with
    | [], _ => simp [bothL] at hy
    | _ :: _, [] => simp [bothL] at hy
    | a :: al, b :: bl =>
      simp only [List.length_cons] at hn
      rw [bothL, List.mem_append] at hy
      rcases hy with hy | hy
      · unfold meetL at hy
        split at hy
        · next hlt =>
          rw [List.mem_singleton] at hy
          subst hy
          refine ⟨hlt, ⟨a, List.mem_cons_self .., ?_⟩, ⟨b, List.mem_cons_self .., ?_⟩⟩ <;> unfold meet <;> simp only <;> split <;> split <;> omega
        · cases hy
      · split at hy
        · obtain ⟨h0, ⟨x, hx, h1⟩, h2⟩ := ih al (b :: bl) (by simp only [List.length_cons]; omega) y hy
          exact ⟨h0, ⟨x, List.mem_cons_of_mem _ hx, h1⟩, h2⟩
        · obtain ⟨h0, h1, ⟨x, hx, h2⟩⟩ := ih (a :: al) bl (by simp only [List.length_cons]; omega) y hy
          exact ⟨h0, h1, ⟨x, List.mem_cons_of_mem _ hx, h2⟩⟩
theorem both_can : ∀ (n : Nat) (al bl : List S51) (l k : Int), al.length + bl.length ≤ n → Can l al → Can k bl → Can l (bothL al bl) := by
  intro n
  induction n with
  | zero =>
    intro al bl l k hn _ _
    have : al = [] := List.eq_nil_of_length_eq_zero (by omega)
    subst this
    simp [bothL, Can]
  | succ n ih =>
    intro al bl l k hn ha hb
    match al, bl with
    | [], _ => simp [bothL, Can]
    | _ :: _, [] => simp [bothL, Can]
    | a :: al, b :: bl =>
      have ta := ha.tail
      have tb := hb.tail
      have ba := ha.head
      have bb := hb.head
      simp only [List.length_cons] at hn
      refine ⟨?_, ?_⟩
      · intro y hy
        obtain ⟨h0, ⟨x, hx, h1⟩, _⟩ := both_in _ (a :: al) (b :: bl) (Nat.le_refl _) y hy
        have := ha.1 x hx
        omega
      · rw [bothL, List.pairwise_append]
        refine ⟨?_, ?_, ?_⟩
        · unfold meetL
          split
          · exact List.pairwise_singleton _ _
          · exact List.Pairwise.nil
        · split
          · exact (ih al (b :: bl) a.f1 k (by simp only [List.length_cons]; omega) ta hb).2
          · exact (ih (a :: al) bl l b.f1 (by simp only [List.length_cons]; omega) ha tb).2
        · intro x hx y hy
          have hx1 : x.f1 ≤ a.f1 ∧ x.f1 ≤ b.f1 := by
            unfold meetL at hx
            split at hx
            · rw [List.mem_singleton] at hx
              subst hx
              unfold meet
              simp only
              split <;> omega
            · cases hx
          unfold Gap
          split at hy
          · obtain ⟨_, ⟨z, hz, h1, _⟩, _⟩ := both_in _ al (b :: bl) (Nat.le_refl _) y hy
            have := (ta.1 z hz).1
            omega
          · obtain ⟨_, _, ⟨z, hz, h1, _⟩⟩ := both_in _ (a :: al) bl (Nat.le_refl _) y hy
            have := (tb.1 z hz).1
            omega
/-- Is a day kept? -/
def keepB (how : Int) (x y : Bool) : Bool := !((decide (how = 0) && (!x && !y)) || ((decide (how = 1) && !(x && !y)) || (decide (how = 2) && !(x && y))))
def Hd (how : Int) (a b : List S51) (d : Int) : Prop := keepB how (inB a d) (inB b d) = true
theorem Hd.some_in {how : Int} {a b : List S51} {d : Int} (hh : how = 0 ∨ how = 1 ∨ how = 2) (h : Hd how a b d) : Me (a ++ b) d := by
  rw [Me.append, ← inB_iff, ← inB_iff]
  unfold Hd keepB at h
  rcases hh with rfl | rfl | rfl <;> revert h <;> cases inB a d <;> cases inB b d <;> simp
/-- The points at which stretches begin or have ended, rising. -/
def Pts (a b : List S51) (L : List Int) : Prop := L.Pairwise (· < ·) ∧ ∀ x, x ∈ L ↔ ∃ s ∈ a ++ b, x = s.f0 ∨ x = s.f1
theorem cell_same (a : List S51) (L : List Int) (hs : L.Pairwise (· < ·)) (hin : ∀ s ∈ a, s.f0 ∈ L ∧ s.f1 ∈ L) (i : Nat) (hi : i + 1 < L.length) (d : Int) (h0 : L[i] ≤ d) (h1 : d < L[i + 1]) : inB a d = inB a L[i] := by
  have key : ∀ x ∈ L, (x ≤ d ↔ x ≤ L[i]) := by
    intro x hx
    obtain ⟨k, hk, rfl⟩ := List.getElem_of_mem hx
    have hp := List.pairwise_iff_getElem.1 hs
    constructor
    · intro hle
      rcases Nat.lt_or_ge i k with c | c
      · rcases Nat.eq_or_lt_of_le (show i + 1 ≤ k from c) with e | e
        · have : L[k] = L[i + 1] := by congr 1; exact e.symm
          omega
        · have := hp (i + 1) k hi hk e; omega
      · rcases Nat.eq_or_lt_of_le c with e | e
        · have : L[k] = L[i] := by congr 1
          omega
        · have := hp k i hk (by omega) e; omega
    · intro hle; omega
  rw [Bool.eq_iff_iff, inB_iff, inB_iff]
  constructor
  · rintro ⟨s, hs', o1, o2⟩
    have e0 := key _ (hin s hs').1
    have e1 := key _ (hin s hs').2
    exact ⟨s, hs', e0.1 o1, by omega⟩
  · rintro ⟨s, hs', o1, o2⟩
    have e0 := key _ (hin s hs').1
    have e1 := key _ (hin s hs').2
    exact ⟨s, hs', e0.2 o1, by omega⟩
/-- What has been put together up to a point. -/
def Jn (H : Int → Prop) (c : Int) (O : List S51) : Prop := Can (-1) O ∧ (∀ x ∈ O, x.f1 ≤ c) ∧ ∀ d, Me O d ↔ d < c ∧ H d
theorem jn_zero (H : Int → Prop) (c : Int) (h : ∀ d, H d → c ≤ d) : Jn H c [] :=
  ⟨⟨by simp, List.Pairwise.nil⟩, by simp, fun d => ⟨fun m => absurd m (Me.nil d), fun ⟨h1, h2⟩ => by have := h d h2; omega⟩⟩
theorem jn_skip {H : Int → Prop} {c c' : Int} {O : List S51} (h : Jn H c O) (hc : c ≤ c') (hn : ∀ d, c ≤ d → d < c' → ¬ H d) : Jn H c' O := by
  refine ⟨h.1, fun x hx => by have := h.2.1 x hx; omega, fun d => ?_⟩
  rw [h.2.2 d]
  constructor
  · rintro ⟨h1, h2⟩; exact ⟨by omega, h2⟩
  · rintro ⟨h1, h2⟩
    refine ⟨?_, h2⟩
    rcases Int.lt_or_le d c with e | e
    · exact e
    · exact absurd h2 (hn d e h1)
theorem jn_new {H : Int → Prop} {c c' : Int} {O : List S51} (h : Jn H c O) (h0 : -1 < c) (hc : c < c') (h9 : c' ≤ 87659) (hy : ∀ d, c ≤ d → d < c' → H d) (hne : ∀ x ∈ O, x.f1 ≠ c) : Jn H c' (O ++ [⟨c, c'⟩]) := by
  refine ⟨⟨?_, ?_⟩, ?_, fun d => ?_⟩
  · intro x hx
    rw [List.mem_append, List.mem_singleton] at hx
    rcases hx with hx | rfl
    · exact h.1.1 x hx
    · exact ⟨h0, hc, h9⟩
  · rw [List.pairwise_append]
    refine ⟨h.1.2, List.pairwise_singleton _ _, fun x hx y hy => ?_⟩
    rw [List.mem_singleton] at hy
    subst hy
    have := h.2.1 x hx
    have := hne x hx
    unfold Gap
    simp only
    omega
  · intro x hx
    rw [List.mem_append, List.mem_singleton] at hx
    rcases hx with hx | rfl
    · have := h.2.1 x hx; omega
    · exact Int.le_refl _
  · rw [Me.append, h.2.2 d, Me.cons]
    have hn := Me.nil d
    simp only [hn, or_false, On]
    constructor
    · rintro (⟨h1, h2⟩ | ⟨h1, h2⟩)
      · exact ⟨by omega, h2⟩
      · exact ⟨h2, hy d h1 h2⟩
    · rintro ⟨h1, h2⟩
      rcases Int.lt_or_le d c with e | e
      · exact .inl ⟨e, h2⟩
      · exact .inr ⟨e, h1⟩
theorem jn_more {H : Int → Prop} {c c' : Int} {O : List S51} {z : S51} (h : Jn H c (O ++ [z])) (hz : z.f1 = c) (hc : c < c') (h9 : c' ≤ 87659) (hy : ∀ d, c ≤ d → d < c' → H d) : Jn H c' (O ++ [⟨z.f0, c'⟩]) := by
  obtain ⟨⟨h1, h2⟩, h3, h4⟩ := h
  rw [List.pairwise_append] at h2
  have hzz := h1 z (by simp)
  refine ⟨⟨?_, ?_⟩, ?_, fun d => ?_⟩
  · intro x hx
    rw [List.mem_append, List.mem_singleton] at hx
    rcases hx with hx | rfl
    · exact h1 x (by simp [hx])
    · exact ⟨hzz.1, by simp only; omega, h9⟩
  · rw [List.pairwise_append]
    refine ⟨h2.1, List.pairwise_singleton _ _, fun x hx y hy => ?_⟩
    rw [List.mem_singleton] at hy
    subst hy
    exact h2.2.2 x hx z (by simp)
  · intro x hx
    rw [List.mem_append, List.mem_singleton] at hx
    rcases hx with hx | rfl
    · have := h3 x (by simp [hx]); omega
    · exact Int.le_refl _
  · have e := h4 d
    rw [Me.append, Me.cons] at e ⊢
    have hn := Me.nil d
    simp only [hn, or_false, On] at e ⊢
    constructor
    · rintro (m | ⟨m1, m2⟩)
      · have := e.1 (.inl m); exact ⟨by omega, this.2⟩
      · refine ⟨m2, ?_⟩
        rcases Int.lt_or_le d c with q | q
        · exact (e.1 (.inr ⟨m1, by omega⟩)).2
        · exact hy d q m2
    · rintro ⟨m1, m2⟩
      rcases Int.lt_or_le d c with q | q
      · rcases e.2 ⟨q, m2⟩ with m | m
        · exact .inl m
        · exact .inr ⟨m.1, m1⟩
      · exact .inr ⟨by omega, m1⟩
/-- What the reference puts together: the days asked. -/
def Joined (how : Int) (a b : List S51) (O : List S51) : Prop := Can (-1) O ∧ ∀ d, Me O d ↔ Hd how a b d
theorem joined_add (xs : List S51) (f t : Int) (O : List S51) (h : Can (-1) xs) (h0 : 0 ≤ f) (hft : f < t) (h9 : t ≤ 87659) (hO : Joined 0 xs [⟨f, t⟩] O) : O = addL xs f t := by
  refine can_uniq _ _ (-1) (-1) hO.1 (add_can xs (-1) f t h hft (by omega) h9) fun d => ?_
  rw [hO.2 d, add_me xs (-1) f t d h hft]
  have e1 := inB_iff xs d
  have e2 := inB_iff [⟨f, t⟩] d
  rw [Me.cons] at e2
  have hn := Me.nil d
  simp only [hn, or_false, On] at e2
  rw [← e1, ← e2]
  unfold Hd keepB
  cases inB xs d <;> cases inB [⟨f, t⟩] d <;> simp
theorem joined_cut (xs : List S51) (f t : Int) (O : List S51) (h : Can (-1) xs) (hft : f < t) (hO : Joined 1 xs [⟨f, t⟩] O) : O = cutL xs f t := by
  refine can_uniq _ _ (-1) (-1) hO.1 (cut_can xs (-1) f t h hft) fun d => ?_
  rw [hO.2 d, cut_me xs (-1) f t d h hft]
  have e1 := inB_iff xs d
  have e2 := inB_iff [⟨f, t⟩] d
  rw [Me.cons] at e2
  have hn := Me.nil d
  simp only [hn, or_false, On] at e2
  rw [← e1, ← e2]
  unfold Hd keepB
  cases inB xs d <;> cases inB [⟨f, t⟩] d <;> simp
theorem joined_both (xs ys : List S51) (O : List S51) (h : Can (-1) xs) (h' : Can (-1) ys) (hO : Joined 2 xs ys O) : O = bothL xs ys := by
  refine can_uniq _ _ (-1) (-1) hO.1 (both_can _ xs ys (-1) (-1) (Nat.le_refl _) h h') fun d => ?_
  rw [hO.2 d, both_me _ xs ys (-1) (-1) (Nat.le_refl _) h h' d, ← inB_iff xs d, ← inB_iff ys d]
  unfold Hd keepB
  cases inB xs d <;> cases inB ys d <;> simp
theorem good_iff (xs : List S51) : goodB xs = true ↔ xs.length ≤ 1000 ∧ Can (-1) xs := by
  simp only [goodB, Bool.and_eq_true, decide_eq_true_eq, good_can]
theorem may_zero (xs : List S51) (f t : Int) (h : goodB xs = true) (h0 : 0 ≤ f) (hft : f < t) (h9 : t ≤ 87659) : mayE xs f t = 0 := by
  unfold mayE
  rw [if_pos h, if_neg (by omega), if_neg (by omega), if_neg (by omega)]
theorem may_pos (xs : List S51) (f t : Int) (h : mayE xs f t = 0) : goodB xs = true ∧ 0 ≤ f ∧ f < t ∧ t ≤ 87659 := by
  unfold mayE at h
  split at h
  · next hg =>
    refine ⟨hg, ?_⟩
    split at h
    · exact absurd h (by decide)
    · split at h
      · exact absurd h (by decide)
      · split at h
        · exact absurd h (by decide)
        · omega
  · exact absurd h (by decide)
theorem add_ok (xs : List S51) (f t : Int) (h : goodB xs = true) (hl : xs.length ≤ 999) (h0 : 0 ≤ f) (hft : f < t) (h9 : t ≤ 87659) : addF xs f t = (addL xs f t, 0) ∧ goodB (addL xs f t) = true := by
  have h1 := add_len xs f t
  refine ⟨?_, (good_iff _).2 ⟨by omega, add_can xs (-1) f t ((good_iff xs).1 h).2 hft (by omega) h9⟩⟩
  unfold addF fewL
  rw [if_pos (may_zero xs f t h h0 hft h9), if_neg (by omega)]
theorem cut_ok (xs : List S51) (f t : Int) (h : goodB xs = true) (hl : xs.length ≤ 999) (h0 : 0 ≤ f) (hft : f < t) (h9 : t ≤ 87659) : cutF xs f t = (cutL xs f t, 0) ∧ goodB (cutL xs f t) = true ∧ (cutL xs f t).length ≤ xs.length + 1 := by
  have hc := ((good_iff xs).1 h).2
  have h1 := cut_len xs (-1) f t hc hft
  rw [← cut_all xs (-1) f t hc hft] at h1
  refine ⟨?_, (good_iff _).2 ⟨by omega, cut_can xs (-1) f t hc hft⟩, h1⟩
  unfold cutF fewL
  rw [if_pos (may_zero xs f t h h0 hft h9), if_neg (by omega)]
theorem both_ok (xs ys : List S51) (h : goodB xs = true) (h' : goodB ys = true) (hl : xs.length + ys.length ≤ 1000) (hb : (bothL xs ys).length ≤ xs.length + ys.length) : bothF xs ys = (bothL xs ys, 0) ∧ goodB (bothL xs ys) = true := by
  refine ⟨?_, (good_iff _).2 ⟨by omega, both_can _ xs ys (-1) (-1) (Nat.le_refl _) ((good_iff xs).1 h).2 ((good_iff ys).1 h').2⟩⟩
  unfold bothF fewL
  rw [if_pos ⟨h, h'⟩, if_neg (by omega)]
theorem both_comm (xs ys : List S51) (h : goodB xs = true) (h' : goodB ys = true) : bothL xs ys = bothL ys xs := by
  have c := ((good_iff xs).1 h).2
  have c' := ((good_iff ys).1 h').2
  refine can_uniq _ _ (-1) (-1) (both_can _ xs ys (-1) (-1) (Nat.le_refl _) c c') (both_can _ ys xs (-1) (-1) (Nat.le_refl _) c' c) fun d => ?_
  rw [both_me _ xs ys (-1) (-1) (Nat.le_refl _) c c' d, both_me _ ys xs (-1) (-1) (Nat.le_refl _) c' c d]
  exact And.comm
theorem both_self (xs : List S51) (h : goodB xs = true) : bothL xs xs = xs := by
  have c := ((good_iff xs).1 h).2
  refine can_uniq _ _ (-1) (-1) (both_can _ xs xs (-1) (-1) (Nat.le_refl _) c c) c fun d => ?_
  rw [both_me _ xs xs (-1) (-1) (Nat.le_refl _) c c d]
  exact and_self_iff
/-- All stretches of a list cut out. -/
def cutsL (xs : List S51) : List S51 → List S51
  | [] => xs
  | t :: ts => cutsL (cutL xs t.f0 t.f1) ts
theorem cuts_snoc (xs ts : List S51) (t : S51) : cutsL xs (ts ++ [t]) = cutL (cutsL xs ts) t.f0 t.f1 := by
  induction ts generalizing xs with
  | nil => rfl
  | cons x ts ih => exact ih _
theorem cuts_ok : ∀ (ts xs : List S51) (n : Nat), goodB xs = true → xs.length ≤ n → n + ts.length ≤ 999 → (∀ t ∈ ts, 0 ≤ t.f0 ∧ t.f0 < t.f1 ∧ t.f1 ≤ 87659) →
    goodB (cutsL xs ts) = true ∧ (cutsL xs ts).length ≤ n + ts.length ∧ ∀ d, Me (cutsL xs ts) d ↔ Me xs d ∧ ¬ Me ts d := by
  intro ts
  induction ts with
  | nil =>
    intro xs n h hl hn _
    exact ⟨h, hl, fun d => ⟨fun m => ⟨m, Me.nil d⟩, fun m => m.1⟩⟩
  | cons t ts ih =>
    intro xs n h hl hn ht
    simp only [List.length_cons] at hn ⊢
    obtain ⟨t0, t1, t2⟩ := ht t (List.mem_cons_self ..)
    obtain ⟨_, g, l⟩ := cut_ok xs t.f0 t.f1 h (by omega) t0 t1 t2
    obtain ⟨i1, i2, i3⟩ := ih (cutL xs t.f0 t.f1) (n + 1) g (by omega) (by omega) fun y hy => ht y (List.mem_cons_of_mem _ hy)
    refine ⟨i1, by have : (cutsL xs (t :: ts)) = cutsL (cutL xs t.f0 t.f1) ts := rfl
                   rw [this]; omega, fun d => ?_⟩
    have e : cutsL xs (t :: ts) = cutsL (cutL xs t.f0 t.f1) ts := rfl
    rw [e, i3 d, cut_me xs (-1) t.f0 t.f1 d ((good_iff xs).1 h).2 t1, Me.cons]
    unfold On
    constructor
    · rintro ⟨⟨a, b⟩, c⟩
      exact ⟨a, fun h => h.elim b c⟩
    · rintro ⟨a, b⟩
      exact ⟨⟨a, fun h => b (.inl h)⟩, fun h => b (.inr h)⟩
/-- How many of the first n days are so. -/
def cnt : Nat → (Int → Bool) → Int
  | 0, _ => 0
  | n + 1, p => cnt n p + if p (n : Int) = true then 1 else 0
theorem cnt_split (n : Nat) (p q : Int → Bool) : cnt n p = cnt n (fun d => p d && q d) + cnt n (fun d => p d && !q d) := by
  induction n with
  | zero => rfl
  | succ n ih =>
    simp only [cnt]
    rw [ih]
    rcases Bool.eq_false_or_eq_true (p (n : Int)) with hp | hp <;> rcases Bool.eq_false_or_eq_true (q (n : Int)) with hq | hq <;> simp [hp, hq] <;> omega
theorem cnt_or (n : Nat) (p q : Int → Bool) (h : ∀ d, p d = true → q d = false) : cnt n (fun d => p d || q d) = cnt n p + cnt n q := by
  induction n with
  | zero => rfl
  | succ n ih =>
    simp only [cnt]
    rw [ih]
    have := h (n : Int)
    rcases Bool.eq_false_or_eq_true (p (n : Int)) with hp | hp
    · have hq := this hp
      simp [hp, hq]; omega
    · rcases Bool.eq_false_or_eq_true (q (n : Int)) with hq | hq <;> simp [hp, hq] <;> omega
theorem cnt_iv (a b : Int) (h0 : 0 ≤ a) (hab : a ≤ b) : ∀ n : Nat, cnt n (fun d => decide (a ≤ d) && decide (d < b)) = min b (n : Int) - min a (n : Int) := by
  intro n
  induction n with
  | zero => simp only [cnt]; omega
  | succ n ih =>
    simp only [cnt]
    rw [ih]
    by_cases h1 : a ≤ (n : Int) <;> by_cases h2 : (n : Int) < b <;> simp [h1, h2] <;> omega
theorem cnt_congr (n : Nat) (p q : Int → Bool) (h : ∀ d, p d = q d) : cnt n p = cnt n q := by rw [show p = q from funext h]
theorem sum_cnt : ∀ (xs : List S51) (l : Int), -1 ≤ l → Can l xs → sumD xs = cnt 87659 (inB xs) := by
  intro xs
  induction xs with
  | nil =>
    intro l _ _
    have : ∀ n, cnt n (inB []) = 0 := by
      intro n
      induction n with
      | zero => rfl
      | succ n ih => simp only [cnt]; rw [ih]; rfl
    rw [this]
    rfl
  | cons x xs ih =>
    intro l hl h
    have b := h.head
    have t := h.tail
    have e : ∀ d, inB (x :: xs) d = ((decide (x.f0 ≤ d) && decide (d < x.f1)) || inB xs d) := fun d => rfl
    rw [cnt_congr _ _ _ e, cnt_or, ← ih x.f1 (by omega) t, cnt_iv x.f0 x.f1 (by omega) (by omega)]
    · simp only [sumD]
      omega
    · intro d hd
      cases hi : inB xs d with
      | false => rfl
      | true =>
        have := t.me ((inB_iff xs d).1 hi)
        simp only [Bool.and_eq_true, decide_eq_true_eq] at hd
        omega
/-- The days in both are those in the one, less those that are in it alone. -/
theorem both_days (xs ys : List S51) (h : goodB xs = true) (h' : goodB ys = true) (hl : xs.length ≤ 200) (hl' : ys.length ≤ 200) : sumD (bothL xs ys) = sumD xs - sumD (cutsL xs ys) := by
  have c := ((good_iff xs).1 h).2
  have c' := ((good_iff ys).1 h').2
  obtain ⟨g, _, m⟩ := cuts_ok ys xs 200 h hl (by omega) fun t ht => by have := c'.1 t ht; omega
  rw [sum_cnt _ (-1) (by omega) (both_can _ xs ys (-1) (-1) (Nat.le_refl _) c c'), sum_cnt _ (-1) (by omega) c, sum_cnt _ (-1) (by omega) ((good_iff _).1 g).2, cnt_split 87659 (inB xs) (inB ys)]
  have e1 : ∀ d, inB (bothL xs ys) d = (inB xs d && inB ys d) := fun d => by
    rw [Bool.eq_iff_iff, Bool.and_eq_true, inB_iff, inB_iff, inB_iff]
    exact both_me _ xs ys (-1) (-1) (Nat.le_refl _) c c' d
  have e2 : ∀ d, inB (cutsL xs ys) d = (inB xs d && !inB ys d) := fun d => by
    rw [Bool.eq_iff_iff, Bool.and_eq_true, Bool.not_eq_true', ← Bool.not_eq_true, inB_iff, inB_iff, inB_iff]
    exact m d
  rw [cnt_congr _ _ _ e1, cnt_congr _ _ _ e2]
  omega
end Go.Proofs.Ytgiccdjgbjgdcaa.Sp
