/- Texts joined: P7 P8 D2 Kc R0 R1. -/
import Derived.Test.YtkcjgmicoifhcaaGreatDoorM12
import Derived.Test.YtkcjgmicoifhcaaGreatDoorM11
import Derived.Test.YtkcjgmicoifhcaaGreatDoorM10

/- P7: What was read is written as it was: plain. -/
namespace Go.Proofs.YtkcjgmicoifhcaaGreatDoor.Cn
open Go.RowKit Go.Sort Go.Lib Go.Shelf
open Vw (Tab str Blk)
open Ev (E C fineC goodE)

theorem bk_n {y : List UInt8} (h : numB y = true) : itoa (max (numP y) 0) = y := by
  obtain ⟨h0, _, h1, _⟩ := num_back h
  rw [Int.max_eq_left h0]
  exact h1
theorem bk_r {y : List UInt8} (h : realB y = true) : hexT (bitU (realU y)) = y := by
  unfold realB at h
  simp only [Bool.and_eq_true, decide_eq_true_eq] at h
  obtain ⟨_, h1, _, h2⟩ := h
  have h3 := (ofB_true h1).2
  have h4 : bitU (realU y) = realU y := by unfold bitU; rw [h3]; rfl
  rw [h4]
  exact h2
theorem bk_u {y : List UInt8} (h : (numB y && decide (max (numP y) 0 ≤ 1)) = true) : itoa (if (max (numP y) 0 == 1) = true then 1 else 0) = y := by
  rw [Bool.and_eq_true, decide_eq_true_eq] at h
  have h1 := bk_n h.1
  have h2 : 0 ≤ max (numP y) 0 := Int.le_max_right _ _
  generalize max (numP y) 0 = n at *
  have h3 : n = 0 ∨ n = 1 := by omega
  rcases h3 with rfl | rfl
  · exact h1
  · exact h1
theorem bk_s {y : List UInt8} (h : decide (0 < stN y) = true) : stW (stN y) = y := by
  rw [decide_eq_true_eq] at h
  revert h
  unfold stN
  split
  · rename_i h; rw [h]; intro _; rfl
  split
  · rename_i h; rw [h]; intro _; rfl
  split
  · rename_i h; rw [h]; intro _; rfl
  split
  · rename_i h; rw [h]; intro _; rfl
  split
  · rename_i h; rw [h]; intro _; rfl
  · intro h; exact absurd h (by decide)
theorem st_le (y : List UInt8) : 0 ≤ stN y ∧ stN y ≤ 5 := by
  unfold stN
  repeat' split
  all_goals decide
theorem getB_nil (c : UInt8) (hc : c = 108 ∨ c = 97 ∨ c = 114 ∨ c = 117 ∨ c = 115 ∨ c = 105 ∨ c = 102) : getB c.toNat [] = false := by
  have hr : realB [] = false := by unfold realB; simp
  rcases hc with rfl | rfl | rfl | rfl | rfl | rfl | rfl
  · exact num_nil
  · exact num_nil
  · exact hr
  · show (numB [] && decide (max (numP []) 0 ≤ 1)) = false
    rw [num_nil]; rfl
  · decide
  · exact hr
  · exact num_nil
theorem getAll_drop : ∀ (a : List UInt8) (e : E) (L : List (List UInt8)) (ok : Bool), (getAll a e L ok).2.1 = L.drop a.length
  | [], _, L, _ => rfl
  | c :: r, e, L, ok => by
    rw [getAll, getAll_drop r, List.length_cons, List.drop_tail]
theorem getAll_ok : ∀ (a : List UInt8) (e : E) (L : List (List UInt8)) (ok : Bool), (getAll a e L ok).2.2 = true → ok = true
  | [], _, _, _, h => h
  | c :: r, e, L, ok, h => by
    have := getAll_ok r _ _ _ h
    rw [Bool.and_eq_true] at this
    exact this.1
theorem getAll_len : ∀ (a : List UInt8) (e : E) (L : List (List UInt8)) (ok : Bool), (∀ c ∈ a, c = 108 ∨ c = 97 ∨ c = 114 ∨ c = 117 ∨ c = 115 ∨ c = 105 ∨ c = 102) → (getAll a e L ok).2.2 = true → a.length ≤ L.length
  | [], _, _, _, _, _ => Nat.zero_le _
  | c :: r, e, [], ok, hc, h => by
    have := getAll_ok r _ _ _ h
    rw [Bool.and_eq_true, show hd [] = [] from rfl, getB_nil c (hc c (by simp))] at this
    exact absurd this.2 (by decide)
  | c :: r, e, x :: L, ok, hc, h => by
    have := getAll_len r _ L _ (fun d hd => hc d (by simp [hd])) h
    simp only [List.length_cons]
    omega
/-- All letters of a form, read, then written. -/
theorem all_writ (f : Fm) (hf : f ∈ forms) (day key : Int) (Y : List (List UInt8)) (h1 : (getAll f.has ⟨f.kind, day, key, 0, 0, 0, 0, false, 0, f.plan, 0⟩ Y true).2.2 = true) (h2 : (getAll f.has ⟨f.kind, day, key, 0, 0, 0, 0, false, 0, f.plan, 0⟩ Y true).2.1 = []) :
    ∃ e : E, (getAll f.has ⟨f.kind, day, key, 0, 0, 0, 0, false, 0, f.plan, 0⟩ Y true).1 = e ∧ e.day = day ∧ e.key = key ∧ frm e.kind e.plan = f ∧ f.has.map (fun x => wordL x.toNat e) = Y ∧ e.rate < 18446744073709551616 ∧ e.income < 18446744073709551616 := by
  have hl := (has_letters f hf).2
  have h3 := getAll_len f.has _ Y true hl h1
  rw [getAll_drop] at h2
  have h4 : Y.length = f.has.length := by
    have := congrArg List.length h2
    rw [List.length_drop, List.length_nil] at this
    omega
  clear h2 h3 hl
  simp [forms] at hf
  rcases hf with rfl | rfl | rfl | rfl | rfl | rfl | rfl | rfl | rfl | rfl | rfl
  · obtain ⟨a, b, c, d, rfl⟩ : ∃ a b c d, Y = [a, b, c, d] := by
      match Y, h4 with
      | [a, b, c, d], _ => exact ⟨a, b, c, d, rfl⟩
    have h5 : ((((true && getB 108 a) && getB 97 b) && getB 114 c) && getB 117 d) = true := h1
    simp only [Bool.and_eq_true, Bool.true_and] at h5
    obtain ⟨⟨⟨q1, q2⟩, q3⟩, q4⟩ := h5
    refine ⟨⟨1, day, key, max (numP a) 0, max (numP b) 0, realU c, 0, max (numP d) 0 == 1, 0, 0, 0⟩, rfl, rfl, rfl, rfl, ?_, realU_lt c, z64⟩
    show [itoa (max (numP a) 0), itoa (max (numP b) 0), hexT (bitU (realU c)), itoa (if (max (numP d) 0 == 1) = true then 1 else 0)] = _
    rw [bk_n q1, bk_n q2, bk_r q3, bk_u (by rw [Bool.and_eq_true]; have q5 : (numB d && decide (max (numP d) 0 ≤ 1)) = true := q4; exact Bool.and_eq_true _ _ ▸ q5)]
  · obtain ⟨a, b, rfl⟩ : ∃ a b, Y = [a, b] := by
      match Y, h4 with
      | [a, b], _ => exact ⟨a, b, rfl⟩
    have h5 : ((true && getB 108 a) && getB 115 b) = true := h1
    simp only [Bool.and_eq_true, Bool.true_and] at h5
    obtain ⟨q1, q2⟩ := h5
    refine ⟨⟨2, day, key, max (numP a) 0, 0, 0, 0, false, stN b, 0, 0⟩, rfl, rfl, rfl, rfl, ?_, z64, z64⟩
    show [itoa (max (numP a) 0), stW (stN b)] = _
    rw [bk_n q1, bk_s q2]
  · obtain ⟨a, rfl⟩ : ∃ a, Y = [a] := by
      match Y, h4 with
      | [a], _ => exact ⟨a, rfl⟩
    have h5 : (true && getB 97 a) = true := h1
    simp only [Bool.true_and] at h5
    refine ⟨⟨3, day, key, 0, max (numP a) 0, 0, 0, false, 0, 0, 0⟩, rfl, rfl, rfl, rfl, ?_, z64, z64⟩
    show [itoa (max (numP a) 0)] = _
    rw [bk_n h5]
  · obtain ⟨a, b, rfl⟩ : ∃ a b, Y = [a, b] := by
      match Y, h4 with
      | [a, b], _ => exact ⟨a, b, rfl⟩
    have h5 : ((true && getB 108 a) && getB 97 b) = true := h1
    simp only [Bool.and_eq_true, Bool.true_and] at h5
    obtain ⟨q1, q2⟩ := h5
    refine ⟨⟨4, day, key, max (numP a) 0, max (numP b) 0, 0, 0, false, 0, 0, 0⟩, rfl, rfl, rfl, rfl, ?_, z64, z64⟩
    show [itoa (max (numP a) 0), itoa (max (numP b) 0)] = _
    rw [bk_n q1, bk_n q2]
  · obtain rfl : Y = [] := List.length_eq_zero_iff.1 h4
    exact ⟨⟨5, day, key, 0, 0, 0, 0, false, 0, 1, 0⟩, rfl, rfl, rfl, rfl, rfl, z64, z64⟩
  · obtain rfl : Y = [] := List.length_eq_zero_iff.1 h4
    exact ⟨⟨5, day, key, 0, 0, 0, 0, false, 0, 2, 0⟩, rfl, rfl, rfl, rfl, rfl, z64, z64⟩
  · obtain rfl : Y = [] := List.length_eq_zero_iff.1 h4
    exact ⟨⟨5, day, key, 0, 0, 0, 0, false, 0, 3, 0⟩, rfl, rfl, rfl, rfl, rfl, z64, z64⟩
  · obtain ⟨a, b, rfl⟩ : ∃ a b, Y = [a, b] := by
      match Y, h4 with
      | [a, b], _ => exact ⟨a, b, rfl⟩
    have h5 : ((true && getB 105 a) && getB 102 b) = true := h1
    simp only [Bool.and_eq_true, Bool.true_and] at h5
    obtain ⟨q1, q2⟩ := h5
    refine ⟨⟨5, day, key, 0, 0, 0, realU a, false, 0, 4, max (numP b) 0⟩, rfl, rfl, rfl, rfl, ?_, z64, realU_lt a⟩
    show [hexT (bitU (realU a)), itoa (max (numP b) 0)] = _
    rw [bk_r q1, bk_n q2]
  · obtain rfl : Y = [] := List.length_eq_zero_iff.1 h4
    exact ⟨⟨6, day, key, 0, 0, 0, 0, false, 0, 0, 0⟩, rfl, rfl, rfl, rfl, rfl, z64, z64⟩
  · obtain ⟨a, rfl⟩ : ∃ a, Y = [a] := by
      match Y, h4 with
      | [a], _ => exact ⟨a, rfl⟩
    have h5 : (true && getB 108 a) = true := h1
    simp only [Bool.true_and] at h5
    refine ⟨⟨7, day, key, max (numP a) 0, 0, 0, 0, false, 0, 0, 0⟩, rfl, rfl, rfl, rfl, ?_, z64, z64⟩
    show [itoa (max (numP a) 0)] = _
    rw [bk_n h5]
  · obtain ⟨a, rfl⟩ : ∃ a, Y = [a] := by
      match Y, h4 with
      | [a], _ => exact ⟨a, rfl⟩
    have h5 : (true && getB 108 a) = true := h1
    simp only [Bool.true_and] at h5
    refine ⟨⟨8, day, key, max (numP a) 0, 0, 0, 0, false, 0, 0, 0⟩, rfl, rfl, rfl, rfl, ?_, z64, z64⟩
    show [itoa (max (numP a) 0)] = _
    rw [bk_n h5]
/-- The words behind a form's. -/
theorem head_split {M : List (List UInt8)} (hM : ∀ x ∈ M, (32 : UInt8) ∉ x) {f : Fm} (hf : f ∈ forms) (h : headB (Lib.join M [32] ++ [32]) f = true) : ∃ Y, M = cutC 32 f.words ++ Y := by
  unfold headB Lib.hasPrefix at h
  have h1 : ∃ tl, Lib.join M [32] ++ [32] = f.words ++ 32 :: tl := by
    obtain ⟨t, ht⟩ := List.isPrefixOf_iff_prefix.1 h
    exact ⟨t, by rw [← ht]; simp⟩
  obtain ⟨tl, h2⟩ := h1
  have hne : M ≠ [] := by
    rintro rfl
    have h3 : f.words ≠ [] := by
      simp [forms] at hf
      rcases hf with rfl | rfl | rfl | rfl | rfl | rfl | rfl | rfl | rfl | rfl | rfl <;> simp
    cases hw : f.words with
    | nil => exact h3 hw
    | cons a r =>
      rw [hw] at h2
      have := congrArg List.length h2
      simp [Lib.join] at this
  have h3 := congrArg (cutC 32) h2
  rw [cutC_cat 32 tl _ f.words (Nat.le_refl _), show Lib.join M [32] ++ [32] = Lib.join M [32] ++ 32 :: [] from rfl, cutC_cat 32 [] _ (Lib.join M [32]) (Nat.le_refl _), cut_join M hne, flat_one M hM] at h3
  have h4 : cutC 32 tl ≠ [] := cutC_ne 32 tl
  have h5 : M = cutC 32 f.words ++ (cutC 32 tl).dropLast := by
    have := congrArg List.dropLast h3
    rw [List.dropLast_append_of_ne_nil h4, show cutC 32 ([] : List UInt8) = [[]] from by decide, List.dropLast_concat] at this
    exact this
  exact ⟨_, h5⟩
theorem day_nil : dayB [] = false := by
  refine Bool.eq_false_iff.2 fun h => ?_
  obtain ⟨d, h1, h2⟩ := (dayB_iff _).1 h
  have := (Vw.days_apart d d h1 h1).2
  rw [h2] at this
  exact absurd this (by decide)
/-- A line that was read is written as it was. -/
theorem back_line {l : List UInt8} (h : parB (cutC 32 l) = true) : FitC (parC (cutC 32 l)).1 ∧ fineC (parC (cutC 32 l)).1 = true ∧ lnC (parC (cutC 32 l)).1 = l := by
  have hj := join_cut l.length l (Nat.le_refl _)
  have hno := cut_no 32 l.length l (Nat.le_refl _)
  generalize cutC 32 l = L at *
  unfold parB at h
  rw [Bool.and_eq_true, Bool.and_eq_true] at h
  obtain ⟨h1, h2, h3⟩ := h
  have h2' := List.isEmpty_iff.1 h2
  by_cases hu : hd L.tail = undoL
  · have hp : parC L = (⟨true, keyV (hd L), ⟨0, 0, 0, 0, 0, 0, 0, false, 0, 0, 0⟩, keyV (hd L.tail.tail)⟩, L.tail.tail.tail, keyB (hd L) && keyB (hd L.tail.tail)) := by
      unfold parC; rw [if_pos hu]
    rw [hp] at h1 h2' h3 ⊢
    rw [Bool.and_eq_true] at h1
    obtain ⟨k1, k2, k3⟩ := key_back h1.1
    obtain ⟨o1, o2, o3⟩ := key_back h1.2
    refine ⟨⟨⟨k1, k2⟩, ⟨o1, o2⟩, z64, z64⟩, h3, ?_⟩
    match L, hu, h2', h1 with
    | [], hu, _, _ => exact absurd hu (by decide)
    | [a], hu, _, _ => exact absurd (show ([] : List UInt8) = undoL from hu) (by decide)
    | [a, b], _, _, h1 =>
      exact absurd h1.2 (by rw [show hd ([a, b] : List (List UInt8)).tail.tail = [] from rfl, key_nil]; decide)
    | [a, b, c], hu, _, _ =>
      have hb : b = undoL := hu
      subst hb
      unfold lnC
      simp only [if_true]
      rw [k3, o3, ← hj]
      rw [join_cons2, join_cons2, join_one]
      simp [hd]
    | a :: b :: c :: d :: r, _, h2', _ => exact absurd h2' (by simp)
  · have hp : parC L = (⟨false, keyV (hd L), (evR (keyV (hd L)) L.tail (keyB (hd L))).1, 0⟩, (evR (keyV (hd L)) L.tail (keyB (hd L))).2.1, (evR (keyV (hd L)) L.tail (keyB (hd L))).2.2) := by
      unfold parC; rw [if_neg hu]
    rw [hp] at h1 h2' h3 ⊢
    simp only at h1 h2' h3 ⊢
    cases hfi : forms.find? (headB (Lib.join L.tail.tail [32] ++ [32])) with
    | none =>
      have he : (evR (keyV (hd L)) L.tail (keyB (hd L))).2.2 = false := by unfold evR; rw [hfi]
      rw [he] at h1
      exact absurd h1 (by decide)
    | some f =>
      have he : evR (keyV (hd L)) L.tail (keyB (hd L)) = getAll f.has ⟨f.kind, dayN (hd L.tail), keyV (hd L), 0, 0, 0, 0, false, 0, f.plan, 0⟩ (L.tail.tail.drop (cutC 32 f.words).length) ((keyB (hd L) && dayB (hd L.tail)) && decide ((cutC 32 f.words).length ≤ L.tail.tail.length)) := by
        unfold evR; rw [hfi]
      rw [he] at h1 h2' h3 ⊢
      have hok := getAll_ok _ _ _ _ h1
      rw [hok] at h1 h2' h3 ⊢
      rw [Bool.and_eq_true, Bool.and_eq_true] at hok
      obtain ⟨⟨q1, q2⟩, _⟩ := hok
      have hf := List.mem_of_find?_eq_some hfi
      have hh := List.find?_some hfi
      match L, hj, hno, hh, q1, q2, h1, h2', h3 with
      | [], _, _, _, _, q2, _, _, _ => exact absurd q2 (by rw [show hd ([] : List (List UInt8)).tail = [] from rfl, day_nil]; decide)
      | [a], _, _, _, _, q2, _, _, _ => exact absurd q2 (by rw [show hd ([a] : List (List UInt8)).tail = [] from rfl, day_nil]; decide)
      | a :: d :: M, hj, hno, hh, q1, q2, h1, h2', h3 =>
        obtain ⟨Y, hY⟩ := head_split (M := M) (fun x hx => hno x (by simp [hx])) hf hh
        simp only [List.tail_cons] at h1 h2' h3 ⊢
        rw [hY, List.drop_left] at h1 h2' h3 ⊢
        rw [show hd (d :: (cutC 32 f.words ++ Y)) = d from rfl, show hd (a :: d :: (cutC 32 f.words ++ Y)) = a from rfl] at *
        have q2 : dayB d = true := q2
        have q1 : keyB a = true := q1
        obtain ⟨k1, k2, k3⟩ := key_back q1
        obtain ⟨n, hn, hn2⟩ := (dayB_iff _).1 q2
        have hn3 := (dayN_of hn).2
        rw [hn2] at hn3
        obtain ⟨e, e1, e2, e3, e4, e5, e6, e7⟩ := all_writ f hf (dayN d) (keyV a) Y h1 h2'
        rw [e1] at h3 ⊢
        refine ⟨⟨⟨k1, k2⟩, (by decide : (0 : Int) ≤ 0 ∧ (0 : Int) < 4294967296), e6, e7⟩, h3, ?_⟩
        unfold lnC
        simp only [Bool.false_eq_true, if_false]
        unfold lnW
        rw [e4, e5, e2, hn3, hn2, k3, ← hj, hY]
        have hW := join_cut f.words.length f.words (Nat.le_refl _)
        have hWn := cutC_ne 32 f.words
        have g1 : Lib.join (f.words :: Y) [32] = Lib.join (cutC 32 f.words ++ Y) [32] := by
          cases Y with
          | nil => rw [List.append_nil, hW, join_one]
          | cons y r => rw [join_cons2, join_app _ _ hWn (by simp), hW]
        obtain ⟨z, zs, hz⟩ := List.exists_cons_of_ne_nil hWn
        show Lib.join (a :: d :: f.words :: Y) [32] = _
        rw [join_cons2, join_cons2, g1, hz, List.cons_append, join_cons2, join_cons2]
end Go.Proofs.YtkcjgmicoifhcaaGreatDoor.Cn

/- P8: Lines with a word more, a word fewer, a blank ahead or behind; keys: plain. -/
namespace Go.Proofs.YtkcjgmicoifhcaaGreatDoor.Cn
open Go.RowKit Go.Sort Go.Lib Go.Shelf
open Vw (Tab str Blk)
open Ev (E C fineC goodE)

theorem getAll_no : ∀ (a : List UInt8) (e : E) (L : List (List UInt8)), (getAll a e L false).2.2 = false
  | [], _, _ => rfl
  | _ :: a, _, _ => getAll_no a _ _
theorem evR_no (k : Int) (L : List (List UInt8)) (ok : Bool) (h : (ok && dayB (hd L)) = false) : (evR k L ok).2.2 = false := by
  unfold evR
  split
  · rfl
  · rw [h]
    exact getAll_no _ _ _
/-- Where a line's last blank is. -/
theorem last_cut {l a : List UInt8} {r : List (List UInt8)} (h : cutC 32 l = a :: r) (ha : a ≠ []) (hr : r ≠ []) :
    ∃ A B, l = A ++ 32 :: B ∧ (32 : UInt8) ∉ B ∧ 0 < A.length ∧ cutC 32 (A ++ [32]) = (a :: r).dropLast ++ [[]] := by
  have hj := join_cut l.length l (Nat.le_refl _)
  have hno := cut_no 32 l.length l (Nat.le_refl _)
  rw [h] at hj hno
  obtain ⟨R, b, rfl⟩ : ∃ R b, r = R ++ [b] := ⟨r.dropLast, r.getLast hr, (List.dropLast_concat_getLast hr).symm⟩
  have hd : (a :: (R ++ [b])).dropLast = a :: R := by rw [← List.cons_append, List.dropLast_concat]
  have hB : (32 : UInt8) ∉ b := hno b (by simp)
  have h1 : l = Lib.join (a :: R) [32] ++ 32 :: b := by
    rw [← hj, ← List.cons_append, join_app (a :: R) [b] (by simp) (by simp), join_one]
  refine ⟨Lib.join (a :: R) [32], b, h1, hB, ?_, ?_⟩
  · have hl : 0 < a.length := List.length_pos_iff.2 ha
    cases R with
    | nil => rw [join_one]; exact hl
    | cons x r => rw [join_cons2, List.length_append]; omega
  · rw [hd, cutC_cat 32 [] _ (Lib.join (a :: R) [32]) (Nat.le_refl _), cut_join _ (by simp), flat_one _ fun x hx => hno x (by
      rw [List.mem_cons] at hx
      rcases hx with hx | hx
      · simp [hx]
      · simp [hx])]
    rfl
theorem wrds_two (c : C) : ∃ r, wrds c = decDigits c.key.toNat :: r ∧ r ≠ [] := by
  unfold wrds
  split
  · exact ⟨_, rfl, by simp⟩
  · exact ⟨_, rfl, by simp⟩
theorem bad_more (c : C) (hf : FitC c) (hy : fineC c = true) (x : List UInt8) : parB (wrds c ++ [x]) = false := by
  unfold parB
  rw [par_back c hf hy [x]]
  rfl
theorem bad_key (a : List UInt8) (r : List (List UInt8)) (h : keyB a = false) : parB (a :: r) = false := by
  have h0 : (parC (a :: r)).2.2 = false := by
    unfold parC
    split
    · show (keyB a && _) = false
      rw [h]
      rfl
    · refine evR_no _ _ _ ?_
      rw [show hd (a :: r) = a from rfl, h]
      rfl
  unfold parB
  rw [h0]
  rfl
theorem nil_dec (u : Nat) (h : u < 18446744073709551616) : decDigits u ≠ [] := by
  intro h0
  have := (Vw.dig_len u h).1
  rw [h0] at this
  simp at this
theorem ev_less (k : Int) (d : List UInt8) (ok : Bool) (f : Fm) (hf : f ∈ forms) (g : UInt8 → List UInt8) : (evR k (d :: ((cutC 32 f.words ++ f.has.map g).dropLast ++ [[]])) ok).2.2 = false := by
  rcases List.eq_nil_or_concat f.has with h0 | ⟨a, x, h0⟩
  · have h1 : forms.find? (headB (Lib.join ((cutC 32 f.words ++ f.has.map g).dropLast ++ [[]]) [32] ++ [32])) = none := by
      rw [h0, List.map_nil, List.append_nil]
      simp [forms] at hf
      rcases hf with rfl | rfl | rfl | rfl | rfl | rfl | rfl | rfl | rfl | rfl | rfl
      all_goals first | exact absurd h0 (by decide) | decide
    unfold evR
    rw [List.tail_cons, h1]
  · have hx := (has_letters f hf).2 x (by rw [h0]; simp)
    have h1 : (cutC 32 f.words ++ f.has.map g).dropLast ++ [[]] = cutC 32 f.words ++ (a.map g ++ [[]]) := by
      rw [h0, List.concat_eq_append, List.map_append, ← List.append_assoc, List.map_cons, List.map_nil, List.dropLast_concat, List.append_assoc]
    rw [h1]
    obtain ⟨tl, htl⟩ := join_tail f.words (a.map g ++ [[]])
    unfold evR
    rw [List.tail_cons, htl, find_form hf tl]
    simp only
    rw [List.drop_left, h0, List.concat_eq_append, getAll_snoc]
    simp only
    rw [getAll_drop, show List.drop a.length (a.map g ++ [[]]) = ([[]] : List (List UInt8)) by
      have : a.length = (a.map g).length := (List.length_map ..).symm
      rw [this, List.drop_left], show hd [[]] = [] from rfl, getB_nil x hx, Bool.and_false]
theorem bad_less (c : C) (_hf : FitC c) (hy : fineC c = true) : parB ((wrds c).dropLast ++ [[]]) = false := by
  cases hu : c.undo with
  | true =>
    have h1 : (wrds c).dropLast ++ [[]] = [decDigits c.key.toNat, undoL, []] := by
      unfold wrds
      rw [hu]
      rfl
    rw [h1]
    unfold parB parC
    rw [if_pos (show hd [decDigits c.key.toNat, undoL, []].tail = undoL from rfl)]
    show ((_ && keyB []) && _) = false
    rw [key_nil, Bool.and_false]
    rfl
  | false =>
    obtain ⟨_, hge, _⟩ := fine_ev hy hu
    obtain ⟨hd', _⟩ := good_kinds c.e hge
    obtain ⟨i, _, hfi, _⟩ := frm_idx c.e hge
    have hmem := List.mem_of_getElem? hfi
    have h1 : (wrds c).dropLast ++ [[]] = decDigits c.key.toNat :: Vw.dayL c.e.day :: ((cutC 32 (frm c.e.kind c.e.plan).words ++ (frm c.e.kind c.e.plan).has.map (fun x => wordL x.toNat c.e)).dropLast ++ [[]]) := by
      unfold wrds
      rw [hu]
      simp only [Bool.false_eq_true, if_false]
      have hne : cutC 32 (frm c.e.kind c.e.plan).words ++ (frm c.e.kind c.e.plan).has.map (fun x => wordL x.toNat c.e) ≠ [] := by
        intro h0
        exact cutC_ne 32 _ (List.append_eq_nil_iff.1 h0).1
      rw [List.dropLast_cons_of_ne_nil (by simp), List.dropLast_cons_of_ne_nil hne]
      rfl
    rw [h1]
    have h2 := ev_less (keyV (decDigits c.key.toNat)) (Vw.dayL c.e.day) (keyB (decDigits c.key.toNat)) (frm c.e.kind c.e.plan) hmem (fun x => wordL x.toNat c.e)
    unfold parB parC
    rw [if_neg (show ¬ hd (decDigits c.key.toNat :: Vw.dayL c.e.day :: _).tail = undoL from day_undo hd')]
    simp only [List.tail_cons]
    rw [show hd (decDigits c.key.toNat :: Vw.dayL c.e.day :: ((cutC 32 (frm c.e.kind c.e.plan).words ++ (frm c.e.kind c.e.plan).has.map (fun x => wordL x.toNat c.e)).dropLast ++ [[]])) = decDigits c.key.toNat from rfl, h2]
    rfl
/-- A line is short. -/
theorem lnC_len (c : C) (hf : FitC c) (hy : fineC c = true) : (lnC c).length ≤ 2000 := by
  have h1 := (dig_len c.key.toNat (by have := hf.key; omega)).2
  cases hu : c.undo with
  | true =>
    have h2 := (dig_len c.of.toNat (by have := hf.of; omega)).2
    unfold lnC
    rw [hu]
    simp only [if_true, List.length_append, List.length_cons, List.length_nil]
    omega
  | false =>
    obtain ⟨_, hge, _⟩ := fine_ev hy hu
    obtain ⟨hd', _⟩ := good_kinds c.e hge
    obtain ⟨i, _, hfi, _⟩ := frm_idx c.e hge
    have hmem := List.mem_of_getElem? hfi
    have h2 := (has_letters _ hmem).1
    have h3 := words_short _ hmem
    have h4 := (Vw.days_apart c.e.day c.e.day hd' hd').2
    have h5 := good_fit c.e hge hf.rate hf.income
    unfold lnC
    rw [hu]
    simp only [Bool.false_eq_true, if_false]
    unfold lnW
    refine Nat.le_trans (join_len [32] 100 _ ?_) ?_
    · intro x hx
      rw [List.mem_append] at hx
      rcases hx with hx | hx
      · simp at hx
        rcases hx with rfl | rfl | rfl <;> omega
      · obtain ⟨y, _, rfl⟩ := List.mem_map.1 hx
        have := wordL_len c.e h5 y.toNat
        omega
    · rw [List.length_append, List.length_map]
      simp only [List.length_cons, List.length_nil]
      omega
/-- The bad lines of ConsoleWords. -/
theorem words_bad (c : C) (hf : FitC c) (hy : fineC c = true) : ∃ A B, lnC c = A ++ 32 :: B ∧ (32 : UInt8) ∉ B ∧ 0 < A.length ∧ parB (cutC 32 (A ++ [32])) = false ∧
    parB (cutC 32 (lnC c ++ [32, 49])) = false ∧ parB (cutC 32 (lnC c ++ [32])) = false ∧ parB (cutC 32 ([32] ++ lnC c)) = false ∧ parB (cutC 32 (lnC c ++ [32, 102, 111, 114, 103, 105, 118, 101])) = false := by
  obtain ⟨r, hr, hr0⟩ := wrds_two c
  have hw := line_words c hf hy
  obtain ⟨A, B, h1, h2, h3, h4⟩ := last_cut (hw.trans hr) (nil_dec _ (by have := hf.key; omega)) hr0
  refine ⟨A, B, h1, h2, h3, ?_, ?_, ?_, ?_, ?_⟩
  · rw [h4, ← hr]
    exact bad_less c hf hy
  · rw [show lnC c ++ [32, 49] = lnC c ++ 32 :: [49] from rfl, cutC_cat 32 [49] _ (lnC c) (Nat.le_refl _), hw, show cutC 32 [49] = [[49]] by decide]
    exact bad_more c hf hy _
  · rw [show lnC c ++ [32] = lnC c ++ 32 :: [] from rfl, cutC_cat 32 [] _ (lnC c) (Nat.le_refl _), hw, show cutC 32 ([] : List UInt8) = [[]] by decide]
    exact bad_more c hf hy _
  · rw [show [32] ++ lnC c = [] ++ 32 :: lnC c from rfl, cutC_cat 32 (lnC c) _ [] (Nat.le_refl _), hw, show cutC 32 ([] : List UInt8) = [[]] by decide]
    exact bad_key [] _ key_nil
  · rw [show lnC c ++ [32, 102, 111, 114, 103, 105, 118, 101] = lnC c ++ 32 :: [102, 111, 114, 103, 105, 118, 101] from rfl, cutC_cat 32 _ _ (lnC c) (Nat.le_refl _), hw, show cutC 32 ([102, 111, 114, 103, 105, 118, 101] : List UInt8) = [[102, 111, 114, 103, 105, 118, 101]] by decide]
    exact bad_more c hf hy _
/-- The commands of ConsoleKeys. -/
abbrev undoC (k o : Int) : C := ⟨true, k, Ev.zeroE, o⟩
theorem undo_fine (k o : Int) : fineC (undoC k o) = true := by
  unfold fineC
  show decide (Ev.zeroE = Ev.zeroE) = true
  exact decide_eq_true rfl
theorem dec_zero (u : Nat) (h : u < 4294967296) : keyB (48 :: decDigits u) = false := by
  unfold keyB numB numP numOK
  have h1 := (Vw.dig_len u (by omega)).1
  have : decide ((48 :: decDigits u).length ≤ 1) = false := by
    rw [List.length_cons]
    exact decide_eq_false (by omega)
  rw [this]
  simp
theorem bad_zero (k o : Int) (hk : 0 ≤ k ∧ k < 4294967296) (_ho : 0 ≤ o ∧ o < 4294967296) : parB (cutC 32 (48 :: lnC (undoC k o))) = false := by
  have h1 := dec_no k.toNat (by omega)
  have h2 : lnC (undoC k o) = decDigits k.toNat ++ 32 :: (undoL ++ 32 :: decDigits o.toNat) := by
    unfold lnC
    simp
  rw [h2, ← List.cons_append, cutC_app 32 _ _ (by simp [h1])]
  exact bad_key _ _ (dec_zero _ (by omega))
theorem bad_big : parB (cutC 32 [52, 50, 57, 52, 57, 54, 55, 50, 57, 54, 32, 117, 110, 100, 111, 32, 49]) = false := by
  rw [show cutC 32 [52, 50, 57, 52, 57, 54, 55, 50, 57, 54, 32, 117, 110, 100, 111, 32, 49] = [[52, 50, 57, 52, 57, 54, 55, 50, 57, 54], [117, 110, 100, 111], [49]] by decide]
  exact bad_key _ _ (by decide)
theorem bad_neg : parB (cutC 32 [45, 49, 32, 117, 110, 100, 111, 32, 49]) = false := by
  rw [show cutC 32 [45, 49, 32, 117, 110, 100, 111, 32, 49] = [[45, 49], [117, 110, 100, 111], [49]] by decide]
  exact bad_key _ _ (by decide)
end Go.Proofs.YtkcjgmicoifhcaaGreatDoor.Cn

/- D2: The wake-up. (Printed by gen_d2.py.) -/
namespace Go.Proofs.YtkcjgmicoifhcaaGreatDoor.Cn
open Go.RowKit Go.Sort Go.Lib Go.Shelf
open Vw (Tab str Blk)
open Ev (E C fineC goodE)
attribute [local go_sem ↓] Go.wp_at_zero Go.wp_at_succ

/-- The wake-up's command. -/
abbrev c0 : C := ⟨false, 7, ⟨3, 14669, 7, 0, 500, 0, 0, false, 0, 0, 0⟩, 0⟩
theorem c0_fine : fineC c0 = true := by decide +kernel
theorem c0_fit : FitC c0 := ⟨by decide, by decide, by decide, by decide⟩
theorem dec_d (u : Nat) (h : u < 10) : decDigits u = [UInt8.ofNat (48 + u)] := Vw.dec_one u h
theorem dec_2000 : decDigits 2000 = [50, 48, 48, 48] := by
  rw [Vw.dec_more 2000 (by decide), Vw.dec_more (2000 / 10) (by decide), Vw.dec_more (2000 / 10 / 10) (by decide)]
  repeat rw [dec_d _ (by decide)]
  rfl
theorem dec_29 : decDigits 29 = [50, 57] := by
  rw [Vw.dec_more 29 (by decide)]
  repeat rw [dec_d _ (by decide)]
  rfl
theorem dec_500 : decDigits 500 = [53, 48, 48] := by
  rw [Vw.dec_more 500 (by decide), Vw.dec_more (500 / 10) (by decide)]
  repeat rw [dec_d _ (by decide)]
  rfl
theorem day_c0 : Vw.dayL 14669 = [50, 48, 48, 48, 45, 48, 50, 45, 50, 57] := by
  rw [Vw.dayL_at (k := 481) (by decide) (by decide +kernel)]
  rw [show (14669 - Vw.S 481 + 1).toNat = 29 by decide +kernel]
  unfold Vw.dayT Vw.pad Vw.cat
  rw [show 1960 + 481 / 12 = 2000 from rfl, show 1 + 481 % 12 = 2 from rfl, dec_2000, dec_29, dec_d 2 (by decide)]
  rfl
theorem c0_line : lnC c0 = [55, 32, 50, 48, 48, 48, 45, 48, 50, 45, 50, 57, 32, 112, 97, 121, 32, 53, 48, 48] := by
  unfold lnC lnW
  simp only [Bool.false_eq_true, if_false]
  rw [day_c0, show (7 : Int).toNat = 7 from rfl, dec_d 7 (by decide)]
  have h : (frm 3 0).has.map (fun x => wordL x.toNat c0.e) = [itoa 500] := rfl
  rw [h, show itoa 500 = decDigits 500 from itoa_nonneg 500, dec_500]
  rfl
theorem day_l1 : dayB [50, 48, 48, 49, 45, 48, 50, 45, 50, 57] = false := by
  refine Bool.eq_false_iff.2 fun h => ?_
  have h1 := day_key (x := [50, 48, 48, 49, 45, 48, 50, 45, 50, 57]) (x0 := [50, 48, 48, 49]) (x1 := [48, 50]) (x2 := [50, 57]) (n0 := 2001) (n1 := 2) (n2 := 29) (by decide)
    (fun v hv => by rw [atoi_digs [50, 48, 48, 49] (by decide) (by decide) (by unfold Digs; decide)] at hv; cases hv; decide)
    (fun v hv => by rw [atoi_digs [48, 50] (by decide) (by decide) (by unfold Digs; decide)] at hv; cases hv; decide)
    (fun v hv => by rw [atoi_digs [50, 57] (by decide) (by decide) (by unfold Digs; decide)] at hv; cases hv; decide) h
  exact absurd h1.1 (by decide)
theorem par_l1 : parB (cutC 32 [55, 32, 50, 48, 48, 49, 45, 48, 50, 45, 50, 57, 32, 112, 97, 121, 32, 53, 48, 48]) = false := by
  rw [show cutC 32 [55, 32, 50, 48, 48, 49, 45, 48, 50, 45, 50, 57, 32, 112, 97, 121, 32, 53, 48, 48] = [[55], [50, 48, 48, 49, 45, 48, 50, 45, 50, 57], [112, 97, 121], [53, 48, 48]] by decide]
  unfold parB parC
  rw [if_neg (by decide)]
  have h := evR_no (keyV [55]) [[50, 48, 48, 49, 45, 48, 50, 45, 50, 57], [112, 97, 121], [53, 48, 48]] (keyB [55]) (by
    rw [show hd [[50, 48, 48, 49, 45, 48, 50, 45, 50, 57], [112, 97, 121], [53, 48, 48]] = [50, 48, 48, 49, 45, 48, 50, 45, 50, 57] from rfl, day_l1, Bool.and_false])
  have h' : (evR (keyV (hd [[55], [50, 48, 48, 49, 45, 48, 50, 45, 50, 57], [112, 97, 121], [53, 48, 48]])) (List.tail [[55], [50, 48, 48, 49, 45, 48, 50, 45, 50, 57], [112, 97, 121], [53, 48, 48]]) (keyB (hd [[55], [50, 48, 48, 49, 45, 48, 50, 45, 50, 57], [112, 97, 121], [53, 48, 48]]))).2.2 = false := h
  simp only
  rw [h']
  rfl
theorem parV_at {c : C} (l : List UInt8) (hf : FitC c) (hy : fineC c = true) (hl : lnC c = l) : parV (cutC 32 l) = .tuple #[c.v, .int .i64 0] := by
  obtain ⟨h1, h2⟩ := line_par c hf hy
  rw [hl] at h1 h2
  exact (parV_yes _ c h2.symm h1).symm
theorem parV_bad {L : List (List UInt8)} (h : parB L = false) : parV L = .tuple #[zC.v, .int .i64 320] := by
  unfold parV
  rw [h]
  rfl
set_option maxRecDepth 40000 in
set_option maxHeartbeats 8000000 in
theorem wakes_calls (w : World) (hg : Gl w) (hT : w.cell? ⟨5, 15, none⟩ = some (.int .u8 4)) :
    Calls Tryz.prog 8 #[] w fun e w' => e = .returned (.bool true) ∧ Below w.heap.size w w' := by
  have HP1 : Hid (Calls Tryz.prog 10 #[.string ⟨#[55, 32, 50, 48, 48, 48, 45, 48, 50, 45, 50, 57, 32, 112, 97, 121, 32, 53, 48, 48]⟩] w fun e w' => e = .returned (.tuple #[c0.v, .int .i64 0]) ∧ Below w.heap.size w w') := Lib.hid (by
    have := parse_calls [55, 32, 50, 48, 48, 48, 45, 48, 50, 45, 50, 57, 32, 112, 97, 121, 32, 53, 48, 48] (by decide) w hg hT
    rw [parV_at [55, 32, 50, 48, 48, 48, 45, 48, 50, 45, 50, 57, 32, 112, 97, 121, 32, 53, 48, 48] c0_fit c0_fine c0_line] at this
    exact this)
  have HLn : Hid (∀ W, Below w.heap.size w W → Calls Tryz.prog 9 #[c0.v] W fun e w' => e = .returned (.tuple #[.string ⟨#[55, 32, 50, 48, 48, 48, 45, 48, 50, 45, 50, 57, 32, 112, 97, 121, 32, 53, 48, 48]⟩, .int .i64 0]) ∧ Below W.heap.size W w') := Lib.hid (fun W hB => by
    have := line_calls c0 c0_fit W (hg.below hB) (cell_below hT hB)
    rw [show linV c0 = .tuple #[.string ⟨#[55, 32, 50, 48, 48, 48, 45, 48, 50, 45, 50, 57, 32, 112, 97, 121, 32, 53, 48, 48]⟩, .int .i64 0] from (linV_yes c0_fine c0_line).symm] at this
    exact this)
  have HP2 : Hid (∀ W, Below w.heap.size w W → Calls Tryz.prog 10 #[.string ⟨#[55, 32, 50, 48, 48, 49, 45, 48, 50, 45, 50, 57, 32, 112, 97, 121, 32, 53, 48, 48]⟩] W fun e w' => e = .returned (.tuple #[zC.v, .int .i64 320]) ∧ Below W.heap.size W w') := Lib.hid (fun W hB => by
    have := parse_calls [55, 32, 50, 48, 48, 49, 45, 48, 50, 45, 50, 57, 32, 112, 97, 121, 32, 53, 48, 48] (by decide) W (hg.below hB) (cell_below hT hB)
    rw [parV_bad par_l1] at this
    exact this)
  clear hg hT
  have hst0 : ∀ (a : Addr) (n : Nat) (W : World), (store a (.float .f64 n)).run Tryz.prog W = match W.cell? a with
      | some _ => if W.frozen? a then .halt (.unsupported (.unsafePointer "a write to bytes that a string shares")) W else .ok () (W.setCell a (.float .f64 n))
      | none => match World.farStore Tryz.prog W a (.float .f64 n) (Mode.plain == Mode.atomic) with | .ok (w', _) => .ok () w' | .error h => .halt h W := fun _ _ _ => rfl
  go_enter Tryz.func8, Tryz.ntmps8
  go_wp2_with fail
  refine HP1.out.mono ?_
  rintro r w1 ⟨rfl, hb1⟩
  have HB1 := Lib.hid hb1
  clear hb1
  go_upto_region 2 with fail
  have hal := (Below.refl w1.heap.size w1).alloc (Nat.le_refl _) (.cells c0.cells 27)
  have HC2 := Lib.hid (Blk.new w1 27 c0.cells)
  have HB2 := Lib.hid (HB1.out.trans (hal.mono HB1.out.size))
  clear hal
  generalize w1.alloc (.cells c0.cells 27) = w2 at *
  generalize w1.heap.size = gc at *
  have k0 : w2.cell? ⟨gc, 0, none⟩ = some (.bool false) := HC2.out.cell 0
  have k1 : w2.cell? ⟨gc, 1, none⟩ = some (.int .u32 7) := HC2.out.cell 1
  have k2 : w2.cell? ⟨gc, 2, none⟩ = some (.int .i64 3) := HC2.out.cell 2
  have k3 : w2.cell? ⟨gc, 3, none⟩ = some (.int .i64 14669) := HC2.out.cell 3
  have k4 : w2.cell? ⟨gc, 4, none⟩ = some (.int .u32 7) := HC2.out.cell 4
  have k5 : w2.cell? ⟨gc, 5, none⟩ = some (.int .i64 0) := HC2.out.cell 5
  have k6 : w2.cell? ⟨gc, 6, none⟩ = some (.int .i64 500) := HC2.out.cell 6
  have k7 : w2.cell? ⟨gc, 7, none⟩ = some (.float .f64 0) := HC2.out.cell 7
  have k8 : w2.cell? ⟨gc, 8, none⟩ = some (.float .f64 0) := HC2.out.cell 8
  have k9 : w2.cell? ⟨gc, 9, none⟩ = some (.bool false) := HC2.out.cell 9
  have k10 : w2.cell? ⟨gc, 10, none⟩ = some (.int .i64 0) := HC2.out.cell 10
  have k11 : w2.cell? ⟨gc, 11, none⟩ = some (.int .i64 0) := HC2.out.cell 11
  have k12 : w2.cell? ⟨gc, 12, none⟩ = some (.int .i64 0) := HC2.out.cell 12
  have k13 : w2.cell? ⟨gc, 13, none⟩ = some (.int .u32 0) := HC2.out.cell 13
  go_wp2_with fail
  refine (HLn.out w2 HB2.out).mono ?_
  rintro r w3 ⟨rfl, hb3⟩
  have HC3 := Lib.hid (HC2.out.below hb3)
  have HB3 := Lib.hid (HB2.out.trans (hb3.mono HB2.out.size))
  clear hb3 k0 k1 k2 k3 k4 k5 k6 k7 k8 k9 k10 k11 k12 k13
  go_wp2_with fail
  refine (HP2.out w3 HB3.out).mono ?_
  rintro r w4 ⟨rfl, hb4⟩
  have HC4 := Lib.hid (HC3.out.below hb4)
  have HB4 := Lib.hid (HB3.out.trans (hb4.mono HB3.out.size))
  clear hb4
  go_upto_region 4 with fail
  have hal := (Below.refl w4.heap.size w4).alloc (Nat.le_refl _) (.cells zC.cells 27)
  have HC5 := Lib.hid (HC4.out.below hal)
  have HB5 := Lib.hid (HB4.out.trans (hal.mono HB4.out.size))
  clear hal
  generalize w4.alloc (.cells zC.cells 27) = w5 at *
  generalize w4.heap.size = gz at *
  have k1 : w5.cell? ⟨gc, 1, none⟩ = some (.int .u32 7) := HC5.out.cell 1
  have k3 : w5.cell? ⟨gc, 3, none⟩ = some (.int .i64 14669) := HC5.out.cell 3
  have k6 : w5.cell? ⟨gc, 6, none⟩ = some (.int .i64 500) := HC5.out.cell 6
  go_wp2_with fail
  go_ret
  exact ⟨rfl, HB5.out⟩
end Go.Proofs.YtkcjgmicoifhcaaGreatDoor.Cn

/- Kc: Cells' facts of an event and of a command, all at once. (Printed by gen_kc.py.) -/
namespace Go.Proofs.YtkcjgmicoifhcaaGreatDoor.Cn
open Go.RowKit Go.Sort Go.Lib Go.Shelf
open Vw (Tab str Blk)
open Ev (E C)

theorem st_f64 : ∀ (a : Addr) (n : Nat) (W : World), (store a (.float .f64 n)).run Tryz.prog W = match W.cell? a with
      | some _ => if W.frozen? a then .halt (.unsupported (.unsafePointer "a write to bytes that a string shares")) W else .ok () (W.setCell a (.float .f64 n))
      | none => match World.farStore Tryz.prog W a (.float .f64 n) (Mode.plain == Mode.atomic) with | .ok (w', _) => .ok () w' | .error h => .halt h W := fun _ _ _ => rfl
theorem ev_cells {w : World} {g : Nat} {kd : Int} {dy : Int} {ek : Int} {ln : Int} {am : Int} {rt : Nat} {ic : Nat} {sb : Bool} {st : Int} {pl : Int} {fm : Int} (h : Blk w g 25 (⟨kd, dy, ek, ln, am, rt, ic, sb, st, pl, fm⟩ : E).cells) : w.cell? ⟨g, 0, none⟩ = some (.int .i64 kd) ∧ w.cell? ⟨g, 1, none⟩ = some (.int .i64 dy) ∧ w.cell? ⟨g, 2, none⟩ = some (.int .u32 ek) ∧ w.cell? ⟨g, 3, none⟩ = some (.int .i64 ln) ∧ w.cell? ⟨g, 4, none⟩ = some (.int .i64 am) ∧ w.cell? ⟨g, 5, none⟩ = some (.float .f64 rt) ∧ w.cell? ⟨g, 6, none⟩ = some (.float .f64 ic) ∧ w.cell? ⟨g, 7, none⟩ = some (.bool sb) ∧ w.cell? ⟨g, 8, none⟩ = some (.int .i64 st) ∧ w.cell? ⟨g, 9, none⟩ = some (.int .i64 pl) ∧ w.cell? ⟨g, 10, none⟩ = some (.int .i64 fm) :=
  ⟨h.cell 0, h.cell 1, h.cell 2, h.cell 3, h.cell 4, h.cell 5, h.cell 6, h.cell 7, h.cell 8, h.cell 9, h.cell 10⟩
theorem ev_frozen {w : World} {g : Nat} {t : TypeId} {cs : Array Value} (h : Blk w g t cs) : w.frozen? ⟨g, 0, none⟩ = false ∧ w.frozen? ⟨g, 1, none⟩ = false ∧ w.frozen? ⟨g, 2, none⟩ = false ∧ w.frozen? ⟨g, 3, none⟩ = false ∧ w.frozen? ⟨g, 4, none⟩ = false ∧ w.frozen? ⟨g, 5, none⟩ = false ∧ w.frozen? ⟨g, 6, none⟩ = false ∧ w.frozen? ⟨g, 7, none⟩ = false ∧ w.frozen? ⟨g, 8, none⟩ = false ∧ w.frozen? ⟨g, 9, none⟩ = false ∧ w.frozen? ⟨g, 10, none⟩ = false :=
  ⟨h.frozen 0, h.frozen 1, h.frozen 2, h.frozen 3, h.frozen 4, h.frozen 5, h.frozen 6, h.frozen 7, h.frozen 8, h.frozen 9, h.frozen 10⟩
theorem cm_cells {w : World} {g : Nat} {u : Bool} {k : Int} {kd : Int} {dy : Int} {ek : Int} {ln : Int} {am : Int} {rt : Nat} {ic : Nat} {sb : Bool} {st : Int} {pl : Int} {fm : Int} {o : Int} (h : Blk w g 27 (⟨u, k, ⟨kd, dy, ek, ln, am, rt, ic, sb, st, pl, fm⟩, o⟩ : C).cells) : w.cell? ⟨g, 0, none⟩ = some (.bool u) ∧ w.cell? ⟨g, 1, none⟩ = some (.int .u32 k) ∧ w.cell? ⟨g, 2, none⟩ = some (.int .i64 kd) ∧ w.cell? ⟨g, 3, none⟩ = some (.int .i64 dy) ∧ w.cell? ⟨g, 4, none⟩ = some (.int .u32 ek) ∧ w.cell? ⟨g, 5, none⟩ = some (.int .i64 ln) ∧ w.cell? ⟨g, 6, none⟩ = some (.int .i64 am) ∧ w.cell? ⟨g, 7, none⟩ = some (.float .f64 rt) ∧ w.cell? ⟨g, 8, none⟩ = some (.float .f64 ic) ∧ w.cell? ⟨g, 9, none⟩ = some (.bool sb) ∧ w.cell? ⟨g, 10, none⟩ = some (.int .i64 st) ∧ w.cell? ⟨g, 11, none⟩ = some (.int .i64 pl) ∧ w.cell? ⟨g, 12, none⟩ = some (.int .i64 fm) ∧ w.cell? ⟨g, 13, none⟩ = some (.int .u32 o) :=
  ⟨h.cell 0, h.cell 1, h.cell 2, h.cell 3, h.cell 4, h.cell 5, h.cell 6, h.cell 7, h.cell 8, h.cell 9, h.cell 10, h.cell 11, h.cell 12, h.cell 13⟩
theorem cm_frozen {w : World} {g : Nat} {t : TypeId} {cs : Array Value} (h : Blk w g t cs) : w.frozen? ⟨g, 0, none⟩ = false ∧ w.frozen? ⟨g, 1, none⟩ = false ∧ w.frozen? ⟨g, 2, none⟩ = false ∧ w.frozen? ⟨g, 3, none⟩ = false ∧ w.frozen? ⟨g, 4, none⟩ = false ∧ w.frozen? ⟨g, 5, none⟩ = false ∧ w.frozen? ⟨g, 6, none⟩ = false ∧ w.frozen? ⟨g, 7, none⟩ = false ∧ w.frozen? ⟨g, 8, none⟩ = false ∧ w.frozen? ⟨g, 9, none⟩ = false ∧ w.frozen? ⟨g, 10, none⟩ = false ∧ w.frozen? ⟨g, 11, none⟩ = false ∧ w.frozen? ⟨g, 12, none⟩ = false ∧ w.frozen? ⟨g, 13, none⟩ = false :=
  ⟨h.frozen 0, h.frozen 1, h.frozen 2, h.frozen 3, h.frozen 4, h.frozen 5, h.frozen 6, h.frozen 7, h.frozen 8, h.frozen 9, h.frozen 10, h.frozen 11, h.frozen 12, h.frozen 13⟩
end Go.Proofs.YtkcjgmicoifhcaaGreatDoor.Cn

/- R0: The reference's number and key. -/
namespace Go.Proofs.YtkcjgmicoifhcaaGreatDoor.Cn
open Go.RowKit Go.Sort Go.Lib Go.Shelf
open Vw (Tab str Blk)
attribute [local go_sem ↓] Go.wp_at_zero Go.wp_at_succ

theorem num_max_no {l : List UInt8} (h : numOK l = false) : max (numP l) 0 = 0 ∧ numB l = false := by
  unfold numB numP
  rw [h]
  exact ⟨rfl, rfl⟩
theorem num_max_yes {l : List UInt8} (h : numOK l = true) : max (numP l) 0 = (dv l : Int) ∧ numB l = true := by
  unfold numB numP
  rw [h]
  simp
theorem digs_take_succ {l : List UInt8} {k : Nat} (h : k < l.length) (hd : Digs (l.take k)) (hc : 48 ≤ (l[k]).toNat ∧ (l[k]).toNat ≤ 57) : Digs (l.take (k + 1)) := by
  rw [List.take_succ_eq_append_getElem h]
  intro c hc'
  rw [List.mem_append] at hc'
  rcases hc' with h1 | h1
  · exact hd c h1
  · obtain rfl := List.mem_singleton.1 h1
    exact hc
theorem dv_take_succ {l : List UInt8} {k : Nat} (h : k < l.length) : dv (l.take (k + 1)) = dv (l.take k) * 10 + ((l[k]).toNat - 48) := by
  rw [List.take_succ_eq_append_getElem h, dv_snoc]
theorem not_ok_digit {l : List UInt8} {k : Nat} (h : k < l.length) (hc : ¬ (48 ≤ (l[k]).toNat ∧ (l[k]).toNat ≤ 57)) : numOK l = false := by
  cases h1 : numOK l with
  | false => rfl
  | true => exact absurd (((numOK_iff l).1 h1).2.2.2 _ (List.getElem_mem h)) hc
set_option maxRecDepth 20000 in
set_option maxHeartbeats 8000000 in
theorem rnum_calls (l : List UInt8) (hl : l.length ≤ 1000000) (w : World) :
    Calls Tryz.prog 84 #[.string (str l)] w fun e w' => e = .returned (.tuple #[.int .i64 (max (numP l) 0), .bool (numB l)]) ∧ w' = w := by
  have hs : (str l).size = l.length := Vw.str_size l
  by_cases h0 : l = []
  · subst h0
    go_enter Tryz.func84, Tryz.ntmps84
    go_wp2_with fail
    go_ret2
    exact ⟨rfl, rfl⟩
  have hpos : 0 < l.length := List.length_pos_iff.2 h0
  have hemp : l.isEmpty = false := by
    cases l with
    | nil => exact absurd rfl h0
    | cons _ _ => rfl
  by_cases h10 : l.length ≤ 10
  · by_cases hz : 1 < l.length ∧ (l[0]).toNat = 48
    · have hno : numOK l = false := by
        cases h1 : numOK l with
        | false => rfl
        | true =>
          have h2 := ((numOK_iff l).1 h1).2.2.1
          rw [List.head?_eq_getElem?, List.getElem?_eq_getElem hpos] at h2
          rcases h2 with h2 | h2
          · omega
          · exact absurd (congrArg some (UInt8.toNat_inj.1 hz.2)) h2
      obtain ⟨e1, e2⟩ := num_max_no hno
      rw [e1, e2]
      obtain ⟨hz1, hz2⟩ := hz
      have hx : ((str l)[0]'(by rw [hs]; exact hpos)).toNat = 48 := by rw [str_get]; exact hz2
      clear hz2 hno h0
      generalize l.length = n at *
      go_enter Tryz.func84, Tryz.ntmps84
      go_wp2_with fail
      go_ret2
      exact ⟨rfl, rfl⟩
    · have HOK : Hid (Digs l → numOK l = true) := Lib.hid (fun hd => (numOK_iff l).2 ⟨h0, h10, by
        by_cases h1 : 1 < l.length
        · right
          rw [List.head?_eq_getElem?, List.getElem?_eq_getElem hpos]
          intro h2
          exact hz ⟨h1, by rw [Option.some.inj h2]; rfl⟩
        · left; omega, hd⟩)
      have hcase : l.length = 1 ∨ (1 < l.length ∧ ¬ (((str l)[0]'(by rw [hs]; exact hpos)).toNat : Int) = 48) := by
        by_cases h1 : l.length = 1
        · exact .inl h1
        · refine .inr ⟨by omega, fun h => hz ⟨by omega, ?_⟩⟩
          rw [str_get] at h
          omega
      clear hz h0
      obtain ⟨n, hn⟩ : ∃ n, l.length = n := ⟨_, rfl⟩
      have hn10 : (n : Int) ≤ 10 := by omega
      have hn0 : (0 : Int) < (n : Int) := by omega
      have hs2 : (str l).size = n := by omega
      clear hl h10
      rcases hcase with hc1 | ⟨hc1, hc2⟩
      · have hn1 : n = 1 := by omega
        clear hpos hs hc1
        go_enter Tryz.func84, Tryz.ntmps84
        go_wp2_with fail
        go_loop [4, 5] (fun vn vi => ∃ (k : Nat) (a : Int), k ≤ n ∧ vi = .int .i64 (k : Int) ∧ vn = .int .i64 a ∧ 0 ≤ a ∧ a < 100000000000 ∧ Hid (Digs (l.take k) ∧ a = (dv (l.take k) : Int))) (fun _ vi => n - (RowKit.intOf vi).toNat)
        case atStart => exact ⟨0, 0, by omega, rfl, rfl, by omega, by omega, Lib.hid ⟨by intro c hc; simp at hc, by simp [dv]⟩⟩
        case round =>
          obtain ⟨k, a, hk, rfl, rfl, ha0, ha1, hh⟩ := hrel
          by_cases hkn : k < n
          · have hk2 : k < (str l).size := by omega
            have hk3 : k < l.length := by omega
            by_cases hd : 48 ≤ (l[k]).toNat ∧ (l[k]).toNat ≤ 57
            · have hx0 : (48 : Int) ≤ (((str l)[k]'hk2).toNat : Int) := by rw [str_get]; omega
              have hx1 : (((str l)[k]'hk2).toNat : Int) ≤ 57 := by rw [str_get]; omega
              have HN : Hid (Digs (l.take (k + 1)) ∧ a * 10 + ((((str l)[k]'hk2).toNat : Int) - 48) = (dv (l.take (k + 1)) : Int)) := Lib.hid ⟨digs_take_succ hk3 hh.out.1 hd, by
                have h1 := dv_take_succ hk3
                have h2 := hh.out.2
                rw [str_get]
                omega⟩
              have hb : (dv (l.take (k + 1)) : Int) < 100000000000 := by
                have h1 := dv_lt _ HN.out.1
                have h2 : (l.take (k + 1)).length ≤ 10 := by rw [List.length_take]; omega
                have h3 : (10 : Nat) ^ (l.take (k + 1)).length ≤ 10 ^ 10 := Nat.pow_le_pow_right (by decide) h2
                omega
              have hov : a * 10 + ((((str l)[k]'hk2).toNat : Int) - 48) < 100000000000 := by rw [HN.out.2]; exact hb
              have hk4 : (k : Int) ≤ 10 := by omega
              clear hd hb hh
              go_wp2_with fail
              refine ⟨⟨k + 1, a * 10 + ((((str l)[k]'hk2).toNat : Int) - 48), by omega, (by first | rfl | (congr 1; omega)), (by first | rfl | (congr 1; omega)), by omega, hov, HN⟩, by simp [RowKit.intOf]; omega⟩
            · have hno := not_ok_digit hk3 hd
              have HE := Lib.hid (num_max_no hno)
              have hx : (((str l)[k]'hk2).toNat : Int) < 48 ∨ 57 < (((str l)[k]'hk2).toNat : Int) := by rw [str_get]; omega
              clear hno hh hd
              rcases hx with hx | hx
              · go_wp2_with fail
                go_ret2
                exact ⟨by rw [HE.out.1, HE.out.2]; rfl, rfl⟩
              · have hx2 : (48 : Int) ≤ (((str l)[k]'hk2).toNat : Int) := by omega
                go_wp2_with fail
                go_ret2
                exact ⟨by rw [HE.out.1, HE.out.2]; rfl, rfl⟩
          · obtain rfl : n = k := by omega
            have hh2 := hh.out
            rw [← hn, List.take_length] at hh2
            have HE := Lib.hid (num_max_yes (HOK.out hh2.1))
            have HA := Lib.hid hh2.2
            clear hh hh2
            go_wp2_with fail
            go_ret2
            exact ⟨by rw [HE.out.1, HE.out.2, ← HA.out]; rfl, rfl⟩
      · have hn1 : (1 : Int) < (n : Int) := by omega
        have hc3 : ((((str l)[0]'(by rw [hs]; exact hpos)).toNat : Int) == 48) = false := beq_eq_false_iff_ne.2 hc2
        have hc4 : decide ((10 : Int) < (n : Int)) = false := decide_eq_false (by omega)
        clear hc1
        go_enter Tryz.func84, Tryz.ntmps84
        go_wp2_with fail
        go_loop [4, 5] (fun vn vi => ∃ (k : Nat) (a : Int), k ≤ n ∧ vi = .int .i64 (k : Int) ∧ vn = .int .i64 a ∧ 0 ≤ a ∧ a < 100000000000 ∧ Hid (Digs (l.take k) ∧ a = (dv (l.take k) : Int))) (fun _ vi => n - (RowKit.intOf vi).toNat)
        case atStart => exact ⟨0, 0, by omega, rfl, rfl, by omega, by omega, Lib.hid ⟨by intro c hc; simp at hc, by simp [dv]⟩⟩
        case round =>
          obtain ⟨k, a, hk, rfl, rfl, ha0, ha1, hh⟩ := hrel
          by_cases hkn : k < n
          · have hk2 : k < (str l).size := by omega
            have hk3 : k < l.length := by omega
            by_cases hd : 48 ≤ (l[k]).toNat ∧ (l[k]).toNat ≤ 57
            · have hx0 : (48 : Int) ≤ (((str l)[k]'hk2).toNat : Int) := by rw [str_get]; omega
              have hx1 : (((str l)[k]'hk2).toNat : Int) ≤ 57 := by rw [str_get]; omega
              have HN : Hid (Digs (l.take (k + 1)) ∧ a * 10 + ((((str l)[k]'hk2).toNat : Int) - 48) = (dv (l.take (k + 1)) : Int)) := Lib.hid ⟨digs_take_succ hk3 hh.out.1 hd, by
                have h1 := dv_take_succ hk3
                have h2 := hh.out.2
                rw [str_get]
                omega⟩
              have hb : (dv (l.take (k + 1)) : Int) < 100000000000 := by
                have h1 := dv_lt _ HN.out.1
                have h2 : (l.take (k + 1)).length ≤ 10 := by rw [List.length_take]; omega
                have h3 : (10 : Nat) ^ (l.take (k + 1)).length ≤ 10 ^ 10 := Nat.pow_le_pow_right (by decide) h2
                omega
              have hov : a * 10 + ((((str l)[k]'hk2).toNat : Int) - 48) < 100000000000 := by rw [HN.out.2]; exact hb
              have hk4 : (k : Int) ≤ 10 := by omega
              clear hd hb hh
              go_wp2_with fail
              refine ⟨⟨k + 1, a * 10 + ((((str l)[k]'hk2).toNat : Int) - 48), by omega, (by first | rfl | (congr 1; omega)), (by first | rfl | (congr 1; omega)), by omega, hov, HN⟩, by simp [RowKit.intOf]; omega⟩
            · have hno := not_ok_digit hk3 hd
              have HE := Lib.hid (num_max_no hno)
              have hx : (((str l)[k]'hk2).toNat : Int) < 48 ∨ 57 < (((str l)[k]'hk2).toNat : Int) := by rw [str_get]; omega
              clear hno hh hd
              rcases hx with hx | hx
              · go_wp2_with fail
                go_ret2
                exact ⟨by rw [HE.out.1, HE.out.2]; rfl, rfl⟩
              · have hx2 : (48 : Int) ≤ (((str l)[k]'hk2).toNat : Int) := by omega
                go_wp2_with fail
                go_ret2
                exact ⟨by rw [HE.out.1, HE.out.2]; rfl, rfl⟩
          · obtain rfl : n = k := by omega
            have hh2 := hh.out
            rw [← hn, List.take_length] at hh2
            have HE := Lib.hid (num_max_yes (HOK.out hh2.1))
            have HA := Lib.hid hh2.2
            clear hh hh2
            go_wp2_with fail
            go_ret2
            exact ⟨by rw [HE.out.1, HE.out.2, ← HA.out]; rfl, rfl⟩
  · have hno : numOK l = false := by
      cases h1 : numOK l with
      | false => rfl
      | true => exact absurd ((numOK_iff l).1 h1).2.1 h10
    obtain ⟨e1, e2⟩ := num_max_no hno
    rw [e1, e2]
    have h11 : 10 < l.length := by omega
    clear hno h0 h10
    generalize l.length = n at *
    go_enter Tryz.func84, Tryz.ntmps84
    go_wp2_with fail
    go_ret2
    exact ⟨rfl, rfl⟩
set_option maxRecDepth 20000 in
theorem rkey_calls (l : List UInt8) (hl : l.length ≤ 1000000) (w : World) :
    Calls Tryz.prog 52 #[.string (str l)] w fun e w' => e = .returned (.tuple #[.int .u32 (keyV l), .bool (keyB l)]) ∧ w' = w := by
  have HN := Lib.hid (rnum_calls l hl w)
  have HV : Hid (keyV l = IntKind.u32.wrap (max (numP l) 0)) := Lib.hid rfl
  have HB : Hid (keyB l = (numB l && decide (max (numP l) 0 ≤ 4294967295))) := Lib.hid rfl
  rw [HV.out, HB.out]
  clear HV HB
  have h0 : 0 ≤ max (numP l) 0 := Int.le_max_right _ _
  generalize max (numP l) 0 = n at *
  cases hb : numB l with
  | false =>
    rw [hb] at HN
    go_enter Tryz.func52, Tryz.ntmps52
    go_wp2_with fail
    refine HN.out.mono ?_
    rintro e w1 ⟨rfl, rfl⟩
    go_wp2_with fail
    go_ret2
    exact ⟨rfl, rfl⟩
  | true =>
    rw [hb] at HN
    by_cases hn : n ≤ 4294967295
    · have hn2 : n < 4294967296 := by omega
      have hwr : IntKind.u32.wrap n = n := by rw [IntKind.wrap_u32]; omega
      rw [decide_eq_true hn, hwr]
      clear hwr
      go_enter Tryz.func52, Tryz.ntmps52
      go_wp2_with fail
      refine HN.out.mono ?_
      rintro e w1 ⟨rfl, rfl⟩
      go_wp2_with fail
      go_ret2
      exact ⟨rfl, rfl⟩
    · have hn2 : ¬ n < 4294967296 := by omega
      have hd : decide (n < 4294967296) = false := decide_eq_false hn2
      rw [decide_eq_false hn]
      go_enter Tryz.func52, Tryz.ntmps52
      go_wp2_with fail
      refine HN.out.mono ?_
      rintro e w1 ⟨rfl, rfl⟩
      go_wp2_with fail
      go_ret2
      exact ⟨by rw [IntKind.wrap_u32]; rfl, rfl⟩
end Go.Proofs.YtkcjgmicoifhcaaGreatDoor.Cn

/- R1: The reference's find and its lists. -/
namespace Go.Proofs.YtkcjgmicoifhcaaGreatDoor.Cn
open Go.RowKit Go.Sort Go.Lib Go.Shelf
open Vw (Tab str Blk)
attribute [local go_sem ↓] Go.wp_at_zero Go.wp_at_succ

/-- The place of a word in a list, from 1; 0: it is not there. -/
def fnd (x : List UInt8) (k : Nat) : List (List UInt8) → Int
  | [] => 0
  | y :: r => if y = x then ((k + 1 : Nat) : Int) else fnd x (k + 1) r
theorem str_inj {a b : List UInt8} (h : str a = str b) : a = b := by
  have := congrArg (fun s : ByteArray => s.data.toList) h
  simpa using this
set_option maxRecDepth 20000 in
set_option maxHeartbeats 8000000 in
theorem rfind_calls (Ls : List (List UInt8)) (hl : Ls.length ≤ 1000) (p : Option Addr) (c g : Nat) (x : List UInt8) (w : World) (hw : Ws w g p Ls c) :
    Calls Tryz.prog 54 #[.slice p Ls.length c, .string (str x)] w fun e w' => e = .returned (.int .i64 (fnd x 0 Ls)) ∧ w' = w := by
  rcases hw.lies with rfl | ⟨b, off, rfl, _, _, hc⟩
  · go_enter Tryz.func54, Tryz.ntmps54
    go_wp2_with fail
    go_loop [5] (fun vi => vi = .int .i64 0) (fun vi => 0)
    case atStart => exact rfl
    case round =>
      subst hrel
      go_wp2_with fail
      go_ret
      exact ⟨rfl, rfl⟩
  · have hcap := hw.cap
    clear hw
    obtain ⟨n, hn⟩ : ∃ n, Ls.length = n := ⟨_, rfl⟩
    rw [hn]
    have hn2 : (n : Int) ≤ 1000 := by omega
    have hnc : (n : Int) ≤ (c : Int) := by omega
    clear hl hcap
    go_enter Tryz.func54, Tryz.ntmps54
    go_wp2_with fail
    go_loop [5] (fun vi => ∃ k : Nat, k ≤ n ∧ vi = .int .i64 (k : Int) ∧ Hid (fnd x 0 Ls = fnd x k (Ls.drop k))) (fun vi => n - (RowKit.intOf vi).toNat)
    case atStart => exact ⟨0, Nat.zero_le _, rfl, Lib.hid rfl⟩
    case round =>
      obtain ⟨k, hk, rfl, hh⟩ := hrel
      by_cases hkn : k < n
      · have hk2 : k < Ls.length := by omega
        have hd : Ls.drop k = Ls[k] :: Ls.drop (k + 1) := List.drop_eq_getElem_cons hk2
        have hcell := hc k _ (List.getElem?_eq_getElem hk2)
        have hF := hh.out
        rw [hd] at hF
        obtain ⟨y, hy⟩ : ∃ y, Ls[k] = y := ⟨_, rfl⟩
        rw [hy] at hcell hF
        have hkI : (k : Int) < (n : Int) := by omega
        by_cases hyx : y = x
        · subst hyx
          have HF : Hid (fnd y 0 Ls = (k : Int) + 1) := Lib.hid (by rw [hF]; unfold fnd; rw [if_pos rfl]; omega)
          clear hF hh hd hc hy
          go_wp2_with fail
          go_ret
          exact ⟨by rw [HF.out]; rfl, rfl⟩
        · have HF : Hid (fnd x 0 Ls = fnd x (k + 1) (Ls.drop (k + 1))) := Lib.hid (by rw [hF]; conv => lhs; unfold fnd; rw [if_neg hyx])
          have e1 : (y == x) = false := beq_eq_false_iff_ne.2 hyx
          have e2 : ¬ str y = str x := fun h => hyx (str_inj h)
          have e3 : decide (str y = str x) = false := decide_eq_false e2
          clear hF hh hd hc hy
          go_wp2_with fail
          refine ⟨⟨k + 1, by omega, (by first | rfl | (congr 1; omega)), HF⟩, by simp [RowKit.intOf]; omega⟩
      · obtain rfl : n = k := by omega
        have HF : Hid (fnd x 0 Ls = 0) := Lib.hid (by rw [hh.out, ← hn, List.drop_length]; rfl)
        clear hh
        go_wp2_with fail
        go_ret
        exact ⟨by rw [HF.out]; rfl, rfl⟩
def kindsL : List (List UInt8) := [[100, 105, 115, 98, 117, 114, 115, 101], [115, 116, 97, 116, 117, 115], [112, 97, 121], [102, 101, 101], [101, 110, 114, 111, 108, 108], [102, 111, 114, 103, 105, 118, 101], [99, 111, 110, 115, 111, 108, 105, 100, 97, 116, 101], [100, 105, 115, 99, 104, 97, 114, 103, 101]]
def plansL : List (List UInt8) := [[115, 116, 97, 110, 100, 97, 114, 100], [101, 120, 116, 101, 110, 100, 101, 100], [103, 114, 97, 100, 117, 97, 116, 101, 100], [105, 110, 99, 111, 109, 101]]
def statL : List (List UInt8) := [[115, 99, 104, 111, 111, 108], [103, 114, 97, 99, 101], [100, 101, 102, 101, 114, 109, 101, 110, 116], [102, 111, 114, 98, 101, 97, 114], [114, 101, 112, 97, 121]]
def flagL : List (List UInt8) := [[48], [49]]
/-- A row of words lies behind a new block. -/
theorem ws_new (w : World) (g : Nat) (L : List (List UInt8)) (hg : w.heap.size < g) : Ws (w.alloc (.cells (L.map sv).toArray 9)) g (some ⟨w.heap.size, 0, none⟩) L L.length := by
  have hb := Blk.new w 9 (L.map sv).toArray
  refine ⟨Nat.le_refl _, .inr ⟨w.heap.size, 0, rfl, hg, hb.lt, fun i x hx => ?_⟩⟩
  rw [Nat.zero_add, hb.cell i]
  simp [hx]
  rfl
theorem kinds_calls (w : World) : Calls Tryz.prog 31 #[] w fun e w' => e = .returned (.slice (some ⟨w.heap.size, 0, none⟩) 8 8) ∧ w' = w.alloc (.cells (kindsL.map sv).toArray 9) := by
  go_enter Tryz.func31, Tryz.ntmps31
  go_wp2_with fail
  go_ret
  exact ⟨rfl, rfl⟩
theorem plans_calls (w : World) : Calls Tryz.prog 34 #[] w fun e w' => e = .returned (.slice (some ⟨w.heap.size, 0, none⟩) 4 4) ∧ w' = w.alloc (.cells (plansL.map sv).toArray 9) := by
  go_enter Tryz.func34, Tryz.ntmps34
  go_wp2_with fail
  go_ret
  exact ⟨rfl, rfl⟩
theorem stats_calls (w : World) : Calls Tryz.prog 33 #[] w fun e w' => e = .returned (.slice (some ⟨w.heap.size, 0, none⟩) 5 5) ∧ w' = w.alloc (.cells (statL.map sv).toArray 9) := by
  go_enter Tryz.func33, Tryz.ntmps33
  go_wp2_with fail
  go_ret
  exact ⟨rfl, rfl⟩
theorem stat_fnd (x : List UInt8) : fnd x 0 statL = stN x := by
  unfold stN
  simp only [fnd, statL, eq_comm (b := x)]
  repeat' split
  all_goals rfl
theorem flag_fnd (x : List UInt8) : (fnd x 0 flagL = 0 ↔ (numB x && decide (max (numP x) 0 ≤ 1)) = false) ∧ (numB x = true → decide (x = [49]) = (max (numP x) 0 == 1)) := by
  have h0 : numB [48] = true ∧ max (numP [48]) 0 = 0 := by decide
  have h1 : numB [49] = true ∧ max (numP [49]) 0 = 1 := by decide
  by_cases e0 : x = [48]
  · subst e0
    exact ⟨by decide, fun _ => by decide⟩
  by_cases e1 : x = [49]
  · subst e1
    exact ⟨by decide, fun _ => by decide⟩
  have hf : fnd x 0 flagL = 0 := by
    simp only [fnd, flagL]
    rw [if_neg (fun h => e0 h.symm), if_neg (fun h => e1 h.symm)]
  have hb : ∀ n : Int, numB x = true → max (numP x) 0 = n → x = itoa n := fun n h hn => by
    have := num_back h
    rw [Int.max_eq_left this.1] at hn
    rw [← hn]
    exact this.2.2.1.symm
  have i0 : itoa 0 = [48] := (itoa_nonneg 0).trans (Vw.dec_one 0 (by decide))
  have i1 : itoa 1 = [49] := (itoa_nonneg 1).trans (Vw.dec_one 1 (by decide))
  refine ⟨⟨fun _ => ?_, fun _ => hf⟩, fun hB => ?_⟩
  · cases hB : numB x with
    | false => rfl
    | true =>
      rw [Bool.true_and]
      refine decide_eq_false fun hle => ?_
      have hge : 0 ≤ max (numP x) 0 := Int.le_max_right _ _
      rcases (show max (numP x) 0 = 0 ∨ max (numP x) 0 = 1 by omega) with h | h
      · exact e0 ((hb 0 hB h).trans i0)
      · exact e1 ((hb 1 hB h).trans i1)
  · rw [decide_eq_false e1]
    refine (beq_eq_false_iff_ne.2 fun h => e1 ((hb 1 hB h).trans i1)).symm
end Go.Proofs.YtkcjgmicoifhcaaGreatDoor.Cn
