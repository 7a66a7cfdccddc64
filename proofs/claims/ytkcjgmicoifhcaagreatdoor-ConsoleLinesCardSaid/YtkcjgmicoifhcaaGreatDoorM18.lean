/- Texts joined: P9 R10 R9 R5. -/
import Derived.Test.YtkcjgmicoifhcaaGreatDoorM16
import Derived.Test.YtkcjgmicoifhcaaGreatDoorM17
import Derived.Test.YtkcjgmicoifhcaaGreatDoorM13
import Derived.Deep.RegionWith
import Derived.Deep.Cut
import Derived.Deep.RegionHeld3
import Derived.Test.YtkcjgmicoifhcaaGreatDoorM8

/- P9: What the reference reads is what the program reads: plain. -/
namespace Go.Proofs.YtkcjgmicoifhcaaGreatDoor.Cn
open Go.RowKit Go.Sort Go.Lib Go.Shelf
open Vw (Tab str Blk)
open Ev (E C fineC goodE)

/-- How the reference's parse ends. -/
structure RP (L : List (List UInt8)) (cc : C) (b : Bool) : Prop where
  ok : (b && fineC cc) = parB L
  is : parB L = true → cc = (parC L).1
  fit : b = true → cc.e.rate < 18446744073709551616 ∧ cc.e.income < 18446744073709551616
theorem rp_no {L : List (List UInt8)} (h : parB L = false) (cc : C) : RP L cc false := ⟨h.symm, fun h2 => absurd (h.symm.trans h2) (by decide), fun h => absurd h (by decide)⟩
theorem par_short {L : List (List UInt8)} (h : L.length < 3) : parB L = false := by
  have h0 : (parC L).2.2 = false := by
    match L, h with
    | [], _ => rfl
    | [a], _ =>
      unfold parC
      rw [if_neg (show ¬ hd [a].tail = undoL from fun h => absurd (show ([] : List UInt8) = undoL from h) (by decide))]
      exact evR_no _ _ _ (by rw [show hd [a].tail = [] from rfl, day_nil, Bool.and_false])
    | [a, d], _ =>
      unfold parC
      split
      · show (keyB a && keyB []) = false
        rw [key_nil, Bool.and_false]
      · show (evR (keyV a) [d] (keyB a)).2.2 = false
        unfold evR
        rw [show forms.find? (headB (Lib.join [d].tail [32] ++ [32])) = none from (by decide : forms.find? (headB (Lib.join [] [32] ++ [32])) = none)]
  unfold parB
  rw [h0]
  rfl
theorem par_undo (a c : List UInt8) (r : List (List UInt8)) : parC (a :: undoL :: c :: r) = (⟨true, keyV a, ⟨0, 0, 0, 0, 0, 0, 0, false, 0, 0, 0⟩, keyV c⟩, r, keyB a && keyB c) := by
  unfold parC
  rw [if_pos (show hd (a :: undoL :: c :: r).tail = undoL from rfl)]
  rfl
theorem par_ev {a d : List UInt8} (M : List (List UInt8)) (hd' : d ≠ undoL) : parC (a :: d :: M) = (⟨false, keyV a, (evR (keyV a) (d :: M) (keyB a)).1, 0⟩, (evR (keyV a) (d :: M) (keyB a)).2.1, (evR (keyV a) (d :: M) (keyB a)).2.2) := by
  unfold parC
  rw [if_neg (show ¬ hd (a :: d :: M).tail = undoL from hd')]
  rfl
theorem rp_undo (a c : List UInt8) (r : List (List UInt8)) (ha : keyB a = true) : RP (a :: undoL :: c :: r) ⟨true, keyV a, ⟨0, 0, 0, 0, 0, 0, 0, false, 0, 0, 0⟩, keyV c⟩ (keyB c && decide (r.length + 3 = 3)) := by
  refine ⟨?_, fun _ => by rw [par_undo], fun _ => ⟨z64, z64⟩⟩
  unfold parB
  rw [par_undo, ha]
  cases r with
  | nil => cases keyB c <;> rfl
  | cons x r =>
    rw [show decide ((x :: r).length + 3 = 3) = false from decide_eq_false (by simp)]
    cases keyB c <;> rfl
theorem rp_day {a d : List UInt8} (M : List (List UInt8)) (hd' : d ≠ undoL) (h : dayB d = false) (cc : C) : RP (a :: d :: M) cc false := by
  refine rp_no ?_ cc
  unfold parB
  rw [par_ev M hd', evR_no _ _ _ (show (keyB a && dayB (hd (d :: M))) = false by rw [show hd (d :: M) = d from rfl, h, Bool.and_false])]
  rfl
/-- What a kind's words say. -/
def evg (K : Int) (e : E) (Y : List (List UInt8)) : E × List (List UInt8) × Bool :=
  if K = 1 then gv1 e Y else if K = 2 then gv2 e Y else if K = 3 then gv3 e Y else if K = 4 then gv4 e Y else if K = 5 then enG e Y else if K = 6 then gv6 e Y else if K = 7 then gv7 e Y else if K = 8 then gv7 e Y else gv0 e Y
theorem all_exact {a : List UInt8} (e : E) {Y : List (List UInt8)} (ok : Bool) (ha : ∀ c ∈ a, c = 108 ∨ c = 97 ∨ c = 114 ∨ c = 117 ∨ c = 115 ∨ c = 105 ∨ c = 102) (h : ¬ Y.length = a.length) : ((getAll a e Y ok).2.2 && (getAll a e Y ok).2.1.isEmpty) = false := by
  cases hb : (getAll a e Y ok).2.2 with
  | false => rfl
  | true =>
    have h1 := getAll_len _ _ _ _ ha hb
    rw [getAll_drop, Bool.true_and]
    cases hd : Y.drop a.length with
    | nil =>
      have := congrArg List.length hd
      rw [List.length_drop, List.length_nil] at this
      omega
    | cons _ _ => rfl
/-- Two readings that say the same. -/
def Same (g G : E × List (List UInt8) × Bool) : Prop := (g.2.2 && g.2.1.isEmpty) = (G.2.2 && G.2.1.isEmpty) ∧ ((G.2.2 && G.2.1.isEmpty) = true → g.1 = G.1)
theorem same_no {g G : E × List (List UInt8) × Bool} (h : g.2.2 = false) (H : (G.2.2 && G.2.1.isEmpty) = false) : Same g G := ⟨by rw [h, H]; rfl, fun h2 => absurd (H.symm.trans h2) (by decide)⟩
theorem same1 (e : E) (Y : List (List UInt8)) : Same (gv1 e Y) (getAll [108, 97, 114, 117] e Y true) := by
  by_cases h : Y.length = 4
  · match Y, h with
    | [a, b, c, d], _ => exact ⟨rfl, fun _ => rfl⟩
  · exact same_no (by rw [gv1_no e h]) (all_exact e true (by decide) h)
theorem same3 (e : E) (Y : List (List UInt8)) : Same (gv3 e Y) (getAll [97] e Y true) := by
  by_cases h : Y.length = 1
  · match Y, h with
    | [a], _ => exact ⟨rfl, fun _ => rfl⟩
  · exact same_no (by rw [gv3_no e h]) (all_exact e true (by decide) h)
theorem same4 (e : E) (Y : List (List UInt8)) : Same (gv4 e Y) (getAll [108, 97] e Y true) := by
  by_cases h : Y.length = 2
  · match Y, h with
    | [a, b], _ => exact ⟨rfl, fun _ => rfl⟩
  · exact same_no (by rw [gv4_no e h]) (all_exact e true (by decide) h)
theorem same7 (e : E) (Y : List (List UInt8)) : Same (gv7 e Y) (getAll [108] e Y true) := by
  by_cases h : Y.length = 1
  · match Y, h with
    | [a], _ => exact ⟨rfl, fun _ => rfl⟩
  · exact same_no (by rw [gv7_no e h]) (all_exact e true (by decide) h)
theorem all_fit (a : List UInt8) : ∀ (e : E) (Y : List (List UInt8)) (ok : Bool), e.rate < 18446744073709551616 → e.income < 18446744073709551616 → (getAll a e Y ok).1.rate < 18446744073709551616 ∧ (getAll a e Y ok).1.income < 18446744073709551616 := by
  induction a with
  | nil => intro e Y ok h1 h2; exact ⟨h1, h2⟩
  | cons c r ih =>
    intro e Y ok h1 h2
    refine ih _ _ _ ?_ ?_
    · unfold getE; repeat' split
      all_goals first | exact h1 | exact realU_lt _
    · unfold getE; repeat' split
      all_goals first | exact h2 | exact realU_lt _
theorem gv2_fine (k d : Int) (y : List (List UInt8)) (key : Int) (h : stN (y.tail.headD []) = 0) : fineC ⟨false, k, (gv2 ⟨2, d, key, 0, 0, 0, 0, false, 0, 0, 0⟩ y).1, 0⟩ = false ∨ (gv2 ⟨2, d, key, 0, 0, 0, 0, false, 0, 0, 0⟩ y).2.2 = false := by
  by_cases hl : y.length = 2
  · left
    match y, hl with
    | [a, b], _ =>
      have hs : stN b = 0 := h
      refine Bool.eq_false_iff.2 fun hf => ?_
      obtain ⟨_, hg, _⟩ := fine_ev hf rfl
      obtain ⟨_, hk⟩ := good_kinds _ hg
      have e1 : (gv2 ⟨2, d, key, 0, 0, 0, 0, false, 0, 0, 0⟩ [a, b]).1 = ⟨2, d, key, max (numP a) 0, 0, 0, 0, false, 0, 0, 0⟩ := by
        show (⟨2, d, key, max (numP a) 0, 0, 0, 0, false, stN b, 0, 0⟩ : E) = _
        rw [hs]
      simp only [e1] at hk
      rcases hk with ⟨h4, h3⟩ | ⟨h4, h3⟩ | ⟨h4, h3⟩ | ⟨h4, h3⟩ | ⟨h4, h3⟩ | ⟨h4, h3⟩ | ⟨h4, h3⟩ | ⟨h4, h3⟩
      · exact absurd h4 (by decide)
      · have := field_yes h3.status
        simp only at this
        omega
      all_goals exact absurd h4 (by decide)
  · right
    rw [gv2_no _ hl]
abbrev enrW : List UInt8 := [101, 110, 114, 111, 108, 108]
theorem cut_forms (f : Fm) (hf : f ∈ forms) : (∃ l ∈ kindsL, l ≠ enrW ∧ cutC 32 f.words = [l]) ∨ (∃ q ∈ plansL, cutC 32 f.words = [enrW, q]) := by
  simp [forms] at hf
  rcases hf with rfl | rfl | rfl | rfl | rfl | rfl | rfl | rfl | rfl | rfl | rfl
  · exact .inl ⟨[100, 105, 115, 98, 117, 114, 115, 101], by decide, by decide, by decide⟩
  · exact .inl ⟨[115, 116, 97, 116, 117, 115], by decide, by decide, by decide⟩
  · exact .inl ⟨[112, 97, 121], by decide, by decide, by decide⟩
  · exact .inl ⟨[102, 101, 101], by decide, by decide, by decide⟩
  · exact .inr ⟨[115, 116, 97, 110, 100, 97, 114, 100], by decide, by decide⟩
  · exact .inr ⟨[101, 120, 116, 101, 110, 100, 101, 100], by decide, by decide⟩
  · exact .inr ⟨[103, 114, 97, 100, 117, 97, 116, 101, 100], by decide, by decide⟩
  · exact .inr ⟨[105, 110, 99, 111, 109, 101], by decide, by decide⟩
  · exact .inl ⟨[102, 111, 114, 103, 105, 118, 101], by decide, by decide, by decide⟩
  · exact .inl ⟨[99, 111, 110, 115, 111, 108, 105, 100, 97, 116, 101], by decide, by decide, by decide⟩
  · exact .inl ⟨[100, 105, 115, 99, 104, 97, 114, 103, 101], by decide, by decide, by decide⟩
theorem fnd_none (x : List UInt8) : ∀ (L : List (List UInt8)) (k : Nat), (∀ l ∈ L, l ≠ x) → fnd x k L = 0
  | [], _, _ => rfl
  | y :: r, k, h => by
    unfold fnd
    rw [if_neg (h y (by simp)), fnd_none x r _ fun l hl => h l (by simp [hl])]
/-- An event read by the reference is the program's. -/
theorem ev_link (a d x : List UInt8) (Y : List (List UInt8)) (hno : ∀ z ∈ x :: Y, (32 : UInt8) ∉ z) (ha : keyB a = true) (hd' : dayB d = true) (hnd : d ≠ undoL) (e : E) (b : Bool)
    (hb : b = ((evg (fnd x 0 kindsL) ⟨fnd x 0 kindsL, dayN d, keyV a, 0, 0, 0, 0, false, 0, 0, 0⟩ Y).2.2 && (evg (fnd x 0 kindsL) ⟨fnd x 0 kindsL, dayN d, keyV a, 0, 0, 0, 0, false, 0, 0, 0⟩ Y).2.1.isEmpty))
    (he : b = true → e = (evg (fnd x 0 kindsL) ⟨fnd x 0 kindsL, dayN d, keyV a, 0, 0, 0, 0, false, 0, 0, 0⟩ Y).1) : RP (a :: d :: x :: Y) ⟨false, keyV a, e, 0⟩ b := by
  have hP := par_ev (a := a) (x :: Y) hnd
  have hE : ∀ f ∈ forms, ∀ Z, x :: Y = cutC 32 f.words ++ Z → evR (keyV a) (d :: x :: Y) (keyB a) = getAll f.has ⟨f.kind, dayN d, keyV a, 0, 0, 0, 0, false, 0, f.plan, 0⟩ Z true := by
    intro f hf Z hZ
    obtain ⟨tl, htl⟩ := join_tail f.words Z
    unfold evR
    rw [List.tail_cons, hZ, htl, find_form hf tl]
    simp only
    rw [List.drop_left, show hd (d :: (cutC 32 f.words ++ Z)) = d from rfl, ha, hd']
    rw [show decide ((cutC 32 f.words).length ≤ (cutC 32 f.words ++ Z).length) = true by simp]
    rfl
  have fin : ∀ G : E × List (List UInt8) × Bool, evR (keyV a) (d :: x :: Y) (keyB a) = G → Same (evg (fnd x 0 kindsL) ⟨fnd x 0 kindsL, dayN d, keyV a, 0, 0, 0, 0, false, 0, 0, 0⟩ Y) G → (G.1.rate < 18446744073709551616 ∧ G.1.income < 18446744073709551616) → RP (a :: d :: x :: Y) ⟨false, keyV a, e, 0⟩ b := by
    intro G hG hS hF
    have h1 : b = (G.2.2 && G.2.1.isEmpty) := hb.trans hS.1
    have h2 : b = true → e = G.1 := fun h => (he h).trans (hS.2 (h1.symm.trans h))
    have h3 : parB (a :: d :: x :: Y) = (G.2.2 && (G.2.1.isEmpty && fineC ⟨false, keyV a, G.1, 0⟩)) := by unfold parB; rw [hP, hG]
    refine ⟨?_, fun h => ?_, fun h => by rw [h2 h]; exact hF⟩
    · rw [h3, ← Bool.and_assoc, ← h1]
      cases hbb : b with
      | false => rfl
      | true => rw [h2 hbb]
    · rw [h3, ← Bool.and_assoc, ← h1, Bool.and_eq_true] at h
      rw [hP, hG, h2 h.1]
  have none_ : (∀ f ∈ forms, ∀ Z, x :: Y ≠ cutC 32 f.words ++ Z) → (evR (keyV a) (d :: x :: Y) (keyB a)).2.2 = false := by
    intro h
    unfold evR
    cases hf : forms.find? (headB (Lib.join (d :: x :: Y).tail [32] ++ [32])) with
    | none => rfl
    | some f =>
      obtain ⟨Z, hZ⟩ := head_split (M := x :: Y) hno (List.mem_of_find?_eq_some hf) (List.find?_some hf)
      exact absurd hZ (h f (List.mem_of_find?_eq_some hf) Z)
  have bad : (evR (keyV a) (d :: x :: Y) (keyB a)).2.2 = false → (evg (fnd x 0 kindsL) ⟨fnd x 0 kindsL, dayN d, keyV a, 0, 0, 0, 0, false, 0, 0, 0⟩ Y).2.2 = false → RP (a :: d :: x :: Y) ⟨false, keyV a, e, 0⟩ b := by
    intro h1 h2
    rw [h2] at hb
    rw [show b = false from hb]
    refine rp_no ?_ _
    unfold parB
    rw [hP, h1]
    rfl
  have one : ∀ (f : Fm), f ∈ forms → cutC 32 f.words = [x] → evR (keyV a) (d :: x :: Y) (keyB a) = getAll f.has ⟨f.kind, dayN d, keyV a, 0, 0, 0, 0, false, 0, f.plan, 0⟩ Y true := fun f hf h => hE f hf Y (by rw [h]; rfl)
  have F : ∀ i (h : i < forms.length), forms[i] ∈ forms := fun i h => List.getElem_mem h
  by_cases k1 : x = [100, 105, 115, 98, 117, 114, 115, 101]
  · subst k1
    exact fin _ (one forms[0] (F 0 (by decide)) (by decide)) (same1 _ Y) (all_fit _ _ _ _ z64 z64)
  by_cases k2 : x = [115, 116, 97, 116, 117, 115]
  · subst k2
    have hG := one forms[1] (F 1 (by decide)) (by decide)
    by_cases hs : stN (Y.tail.headD []) = 0
    · have hN : ((getAll [108, 115] ⟨2, dayN d, keyV a, 0, 0, 0, 0, false, 0, 0, 0⟩ Y true).2.2 && (getAll [108, 115] ⟨2, dayN d, keyV a, 0, 0, 0, 0, false, 0, 0, 0⟩ Y true).2.1.isEmpty) = false := by
        by_cases hl : Y.length = 2
        · match Y, hl with
          | [u, v], _ =>
            have hs' : stN v = 0 := hs
            show (((true && numB u) && decide (0 < stN v)) && _) = false
            rw [hs']
            cases numB u <;> rfl
        · exact all_exact _ true (by decide) hl
      have h3 : parB (a :: d :: [115, 116, 97, 116, 117, 115] :: Y) = false := by
        have : parB (a :: d :: [115, 116, 97, 116, 117, 115] :: Y) = ((getAll [108, 115] ⟨2, dayN d, keyV a, 0, 0, 0, 0, false, 0, 0, 0⟩ Y true).2.2 && ((getAll [108, 115] ⟨2, dayN d, keyV a, 0, 0, 0, 0, false, 0, 0, 0⟩ Y true).2.1.isEmpty && fineC ⟨false, keyV a, (getAll [108, 115] ⟨2, dayN d, keyV a, 0, 0, 0, 0, false, 0, 0, 0⟩ Y true).1, 0⟩)) := by
          unfold parB
          rw [hP, hG]
          rfl
        rw [this, ← Bool.and_assoc, hN]
        rfl
      have hgv : (evg (fnd [115, 116, 97, 116, 117, 115] 0 kindsL) ⟨fnd [115, 116, 97, 116, 117, 115] 0 kindsL, dayN d, keyV a, 0, 0, 0, 0, false, 0, 0, 0⟩ Y) = gv2 ⟨2, dayN d, keyV a, 0, 0, 0, 0, false, 0, 0, 0⟩ Y := rfl
      rw [hgv] at hb he
      refine ⟨?_, fun h => absurd (h3.symm.trans h) (by decide), fun h => ?_⟩
      · rw [h3]
        cases hbb : b with
        | false => rfl
        | true =>
          rw [Bool.true_and, he hbb]
          rcases gv2_fine (keyV a) (dayN d) Y (keyV a) hs with h | h
          · exact h
          · rw [h] at hb
            exact absurd (hbb.symm.trans (show b = false from hb)) (by decide)
      · rw [he h]
        unfold gv2
        split <;> exact ⟨z64, z64⟩
    · refine fin _ hG ?_ (all_fit _ _ _ _ z64 z64)
      by_cases hl : Y.length = 2
      · match Y, hl with
        | [u, v], _ =>
          have hs' : ¬ stN v = 0 := hs
          have h0 := st_le v
          have h1 : decide (0 < stN v) = true := decide_eq_true (by omega)
          refine ⟨?_, fun _ => rfl⟩
          show (numB u && true) = (((true && numB u) && decide (0 < stN v)) && true)
          rw [h1]
          cases numB u <;> rfl
      · exact same_no (by show (gv2 _ Y).2.2 = false; rw [gv2_no _ hl]) (all_exact _ true (by decide) hl)
  by_cases k3 : x = [112, 97, 121]
  · subst k3
    exact fin _ (one forms[2] (F 2 (by decide)) (by decide)) (same3 _ Y) (all_fit _ _ _ _ z64 z64)
  by_cases k4 : x = [102, 101, 101]
  · subst k4
    exact fin _ (one forms[3] (F 3 (by decide)) (by decide)) (same4 _ Y) (all_fit _ _ _ _ z64 z64)
  by_cases k6 : x = [102, 111, 114, 103, 105, 118, 101]
  · subst k6
    exact fin _ (one forms[8] (F 8 (by decide)) (by decide)) ⟨rfl, fun _ => rfl⟩ (all_fit _ _ _ _ z64 z64)
  by_cases k7 : x = [99, 111, 110, 115, 111, 108, 105, 100, 97, 116, 101]
  · subst k7
    exact fin _ (one forms[9] (F 9 (by decide)) (by decide)) (same7 _ Y) (all_fit _ _ _ _ z64 z64)
  by_cases k8 : x = [100, 105, 115, 99, 104, 97, 114, 103, 101]
  · subst k8
    exact fin _ (one forms[10] (F 10 (by decide)) (by decide)) (same7 _ Y) (all_fit _ _ _ _ z64 z64)
  by_cases k5 : x = enrW
  · subst k5
    match Y, hb, he, hE, fin, bad, none_, hno with
    | [], hb, he, hE, fin, bad, none_, hno =>
      refine bad (none_ fun f hf Z h => ?_) rfl
      rcases cut_forms f hf with ⟨l, _, hl, hc⟩ | ⟨q, _, hc⟩
      · rw [hc] at h
        exact hl (List.cons.inj h).1.symm
      · rw [hc] at h
        exact absurd (List.cons.inj h).2 (by simp)
    | p :: Y', hb, he, hE, fin, bad, none_, hno =>
      by_cases p1 : p = [115, 116, 97, 110, 100, 97, 114, 100]
      · subst p1
        exact fin _ (hE forms[4] (F 4 (by decide)) Y' (by rw [show cutC 32 forms[4].words = [enrW, [115, 116, 97, 110, 100, 97, 114, 100]] by decide]; rfl)) ⟨rfl, fun _ => rfl⟩ (all_fit _ _ _ _ z64 z64)
      by_cases p2 : p = [101, 120, 116, 101, 110, 100, 101, 100]
      · subst p2
        exact fin _ (hE forms[5] (F 5 (by decide)) Y' (by rw [show cutC 32 forms[5].words = [enrW, [101, 120, 116, 101, 110, 100, 101, 100]] by decide]; rfl)) ⟨rfl, fun _ => rfl⟩ (all_fit _ _ _ _ z64 z64)
      by_cases p3 : p = [103, 114, 97, 100, 117, 97, 116, 101, 100]
      · subst p3
        exact fin _ (hE forms[6] (F 6 (by decide)) Y' (by rw [show cutC 32 forms[6].words = [enrW, [103, 114, 97, 100, 117, 97, 116, 101, 100]] by decide]; rfl)) ⟨rfl, fun _ => rfl⟩ (all_fit _ _ _ _ z64 z64)
      by_cases p4 : p = [105, 110, 99, 111, 109, 101]
      · subst p4
        exact fin _ (hE forms[7] (F 7 (by decide)) Y' (by rw [show cutC 32 forms[7].words = [enrW, [105, 110, 99, 111, 109, 101]] by decide]; rfl)) ⟨rfl, fun _ => rfl⟩ (all_fit _ _ _ _ z64 z64)
      have hp : fnd p 0 plansL = 0 := fnd_none p plansL 0 fun l hl => by
        simp [plansL] at hl
        rcases hl with rfl | rfl | rfl | rfl
        · exact fun h => p1 h.symm
        · exact fun h => p2 h.symm
        · exact fun h => p3 h.symm
        · exact fun h => p4 h.symm
      refine bad (none_ fun f hf Z h => ?_) ?_
      · rcases cut_forms f hf with ⟨l, _, hl, hc⟩ | ⟨q, hq, hc⟩
        · rw [hc] at h
          exact hl (List.cons.inj h).1.symm
        · rw [hc] at h
          have hpq : p = q := (List.cons.inj (List.cons.inj h).2).1
          subst hpq
          simp [plansL] at hq
          rcases hq with h | h | h | h
          · exact p1 h
          · exact p2 h
          · exact p3 h
          · exact p4 h
      · show (enG _ (p :: Y')).2.2 = false
        show (if fnd p 0 plansL = 4 then _ else _ : E × List (List UInt8) × Bool).2.2 = false
        rw [hp, if_neg (by decide)]
        rfl
  have hx : fnd x 0 kindsL = 0 := fnd_none x kindsL 0 fun l hl => by
    simp [kindsL] at hl
    rcases hl with rfl | rfl | rfl | rfl | rfl | rfl | rfl | rfl
    · exact fun h => k1 h.symm
    · exact fun h => k2 h.symm
    · exact fun h => k3 h.symm
    · exact fun h => k4 h.symm
    · exact fun h => k5 h.symm
    · exact fun h => k6 h.symm
    · exact fun h => k7 h.symm
    · exact fun h => k8 h.symm
  refine bad (none_ fun f hf Z h => ?_) (by rw [hx]; rfl)
  rcases cut_forms f hf with ⟨l, hl0, hl, hc⟩ | ⟨q, _, hc⟩
  · rw [hc] at h
    have hxl : x = l := (List.cons.inj h).1
    subst hxl
    simp [kindsL] at hl0
    rcases hl0 with h | h | h | h | h | h | h | h
    · exact k1 h
    · exact k2 h
    · exact k3 h
    · exact k4 h
    · exact k5 h
    · exact k6 h
    · exact k7 h
    · exact k8 h
  · rw [hc] at h
    exact k5 (List.cons.inj h).1
end Go.Proofs.YtkcjgmicoifhcaaGreatDoor.Cn

/- R10: The reference's parse: events. (Printed by gen_r10.py.) -/
namespace Go.Proofs.YtkcjgmicoifhcaaGreatDoor.Cn
open Go.RowKit Go.Sort Go.Lib Go.Shelf
open Vw (Tab str Blk)
open Ev (E C fineC)
attribute [local go_sem ↓] Go.wp_at_zero Go.wp_at_succ

theorem fnd_kinds (x : List UInt8) : fnd x 0 kindsL = 0 ∨ fnd x 0 kindsL = 1 ∨ fnd x 0 kindsL = 2 ∨ fnd x 0 kindsL = 3 ∨ fnd x 0 kindsL = 4 ∨ fnd x 0 kindsL = 5 ∨ fnd x 0 kindsL = 6 ∨ fnd x 0 kindsL = 7 ∨ fnd x 0 kindsL = 8 := by
  simp only [fnd, kindsL]
  repeat' split
  all_goals simp
theorem revent_calls (K d key : Int) (hK : K = 0 ∨ K = 1 ∨ K = 2 ∨ K = 3 ∨ K = 4 ∨ K = 5 ∨ K = 6 ∨ K = 7 ∨ K = 8) (Y : List (List UInt8)) (hl : ∀ x ∈ Y, x.length ≤ 1000000) (hY : Y.length ≤ 1000000) (p : Option Addr) (c g : Nat) (w : World) (hw : Ws w g p Y c) :
    Calls Tryz.prog 55 #[.agg #[.int .i64 K, .int .i64 d, .int .u32 key, .int .i64 0, .int .i64 0, .float .f64 0, .float .f64 0, .bool false, .int .i64 0, .int .i64 0, .int .i64 0], .slice p Y.length c] w fun r w' => REv (evg K ⟨K, d, key, 0, 0, 0, 0, false, 0, 0, 0⟩ Y) r ∧ Below w.heap.size w w' := by
  rcases hK with rfl | rfl | rfl | rfl | rfl | rfl | rfl | rfl | rfl
  · exact revent_0 d key Y hl hY p c g w hw
  · exact revent_1 d key Y hl hY p c g w hw
  · exact revent_2 d key Y hl hY p c g w hw
  · exact revent_3 d key Y hl hY p c g w hw
  · exact revent_4 d key Y hl hY p c g w hw
  · exact revent_5 d key Y hl hY p c g w hw
  · exact revent_6 d key Y hl hY p c g w hw
  · exact revent_7 d key Y hl hY p c g w hw
  · exact revent_8 d key Y hl hY p c g w hw
theorem ws_tail3 {w : World} {g b off c : Nat} {a d x : List UInt8} {Y : List (List UInt8)} (hcap : (a :: d :: x :: Y).length ≤ c) (hg : b < g) (hb : b < w.heap.size) (hc : ∀ (i : Nat) (z : List UInt8), (a :: d :: x :: Y)[i]? = some z → w.cell? ⟨b, off + i, none⟩ = some (.string (str z))) : Ws w g (some ⟨b, off + 3, none⟩) Y (c - 3) := by
  refine ⟨by simp at hcap; omega, .inr ⟨b, off + 3, rfl, hg, hb, fun i z hz => ?_⟩⟩
  rw [show off + 3 + i = off + (i + 3) by omega]
  exact hc (i + 3) z hz
theorem kinds_ws (w : World) : Calls Tryz.prog 31 #[] w fun e w' => (∃ gk : Nat, e = .returned (.slice (some ⟨gk, 0, none⟩) 8 8) ∧ Ws w' w'.heap.size (some ⟨gk, 0, none⟩) kindsL 8) ∧ Below w.heap.size w w' :=
  (kinds_calls w).mono fun e w' ⟨h1, h2⟩ => by
    subst h2
    exact ⟨⟨_, h1, ws_made w kindsL 8 rfl⟩, (Below.refl _ _).alloc (Nat.le_refl _) _⟩
theorem bl_call {w W w4 : World} (h : Below w.heap.size w W) (hb : Below W.heap.size W w4) : Below w.heap.size w w4 := h.trans (hb.mono h.size)
theorem ws_alloc {w : World} {g : Nat} {p : Option Addr} {L : List (List UInt8)} {c : Nat} {o : Obj} (h : Ws w g p L c) : Ws (w.alloc o) g p L c := h.fr (P := fun _ => False) (Fr.of ((Below.refl _ _).alloc (Nat.le_refl _) _)) fun _k hk => hk.elim
theorem blk_alloc {w : World} {g : Nat} {t : TypeId} {cs : Array Value} {o : Obj} (h : Blk w g t cs) : Blk (w.alloc o) g t cs := h.below ((Below.refl _ _).alloc (Nat.le_refl _) _)
theorem bl_set {w W : World} {B g : Nat} (h : Below B w W) (hg : B ≤ g) (i : Nat) (v : Value) : Below B w (W.setCell ⟨g, i, none⟩ v) := h.setCell (p := ⟨g, i, none⟩) hg v
set_option maxRecDepth 40000 in
set_option maxHeartbeats 32000000 in
theorem rparse_ev (a d x : List UInt8) (Y : List (List UInt8)) (hka : keyB a = true) (hu : d ≠ undoL) (hno : ∀ z ∈ a :: d :: x :: Y, (32 : UInt8) ∉ z) (hl : ∀ z ∈ a :: d :: x :: Y, z.length ≤ 1000000) (hL : (a :: d :: x :: Y).length ≤ 1000000) (p : Option Addr) (c g : Nat) (w : World) (hw : Ws w g p (a :: d :: x :: Y) c) :
    Calls Tryz.prog 27 #[.slice p (a :: d :: x :: Y).length c] w fun r w' => (∃ (cc : C) (b : Bool), r = .returned (.tuple #[cc.v, .bool b]) ∧ RP (a :: d :: x :: Y) cc b) ∧ Below w.heap.size w w' := by
  have hB1 := (Below.refl w.heap.size w).alloc (Nat.le_refl _) (.cells #[.bool false, .int .u32 0, .int .i64 0, .int .i64 0, .int .u32 0, .int .i64 0, .int .i64 0, .float .f64 0, .float .f64 0, .bool false, .int .i64 0, .int .i64 0, .int .i64 0, .int .u32 0] 27)
  have hZ1 := Blk.new w 27 #[.bool false, .int .u32 0, .int .i64 0, .int .i64 0, .int .u32 0, .int .i64 0, .int .i64 0, .float .f64 0, .float .f64 0, .bool false, .int .i64 0, .int .i64 0, .int .i64 0, .int .u32 0]
  obtain ⟨w1, hw1⟩ : ∃ w1, w.alloc (.cells #[.bool false, .int .u32 0, .int .i64 0, .int .i64 0, .int .u32 0, .int .i64 0, .int .i64 0, .float .f64 0, .float .f64 0, .bool false, .int .i64 0, .int .i64 0, .int .i64 0, .int .u32 0] 27) = w1 := ⟨_, rfl⟩
  rw [hw1] at hB1 hZ1
  obtain ⟨gz, hgz⟩ : ∃ gz, w.heap.size = gz := ⟨_, rfl⟩
  rw [hgz] at hZ1
  have HGz := Lib.hid hgz
  have HZ1 : Hid (Blk w1 gz 27 zC.cells) := Lib.hid hZ1
  have HB1 := Lib.hid hB1
  have hst0 := st_f64
  clear hB1 hZ1
  rcases hw.lies with h1 | ⟨b, off, rfl, hbg, hbw, hc⟩
  · cases h1
  have HC := Lib.hid hc
  have HBw := Lib.hid hbw
  have HBg := Lib.hid hbg
  have hcap := hw.cap
  have HCap := Lib.hid hcap
  obtain ⟨n, hn⟩ : ∃ n, (a :: d :: x :: Y).length = n := ⟨_, rfl⟩
  have HN := Lib.hid hn
  have HYn : Hid (Y.length + 3 = n) := Lib.hid (by simpa using hn)
  rw [hn]
  have hnc : n ≤ c := by omega
  have hn3 : (3 : Int) ≤ (n : Int) := by simp at hn; omega
  have hn3b : 3 ≤ n := by omega
  have hn3c : (2 : Int) < (n : Int) := by omega
  have ca : w1.cell? ⟨b, off, none⟩ = some (.string (str a)) := (HB1.out.cell (p := ⟨b, off, none⟩) hbw).trans (hc 0 a rfl)
  have cd : w1.cell? ⟨b, off + 1, none⟩ = some (.string (str d)) := (HB1.out.cell (p := ⟨b, off + 1, none⟩) hbw).trans (hc 1 d rfl)
  have cx : w1.cell? ⟨b, off + 2, none⟩ = some (.string (str x)) := (HB1.out.cell (p := ⟨b, off + 2, none⟩) hbw).trans (hc 2 x rfl)
  have HK := Lib.hid (rkey_calls a (hl a (by simp)) w1)
  have HNo := Lib.hid hno
  have HHl := Lib.hid hl
  have HHL := Lib.hid hL
  have HU := Lib.hid hu
  rw [hka] at HK
  have HKa := Lib.hid hka
  clear hw hc hbw hbg hn hcap hka hno
  have e1 : (d == undoL) = false := beq_eq_false_iff_ne.2 hu
  have e2 : ¬ str d = ⟨#[117, 110, 100, 111]⟩ := fun h => hu (str_inj (b := undoL) h)
  have e3 : decide (str d = ⟨#[117, 110, 100, 111]⟩) = false := decide_eq_false e2
  have HDay := Lib.hid (rdayR_calls d (hl d (by simp)) w1)
  clear hl hL
  obtain ⟨kv, hkv⟩ : ∃ kv, keyV a = kv := ⟨_, rfl⟩
  obtain ⟨K, hKx⟩ : ∃ K, fnd x 0 kindsL = K := ⟨_, rfl⟩
  have HKx := Lib.hid hKx
  have HKr : Hid (K = 0 ∨ K = 1 ∨ K = 2 ∨ K = 3 ∨ K = 4 ∨ K = 5 ∨ K = 6 ∨ K = 7 ∨ K = 8) := Lib.hid (by rw [← hKx]; exact fnd_kinds x)
  have HKv := Lib.hid hkv
  rw [hkv] at HK
  clear hkv
  go_enter Tryz.func27, Tryz.ntmps27
  go_upto_region 1 with fail
  clear hw1 hgz
  go_wp2_with fail
  refine HK.out.mono ?_
  rintro r w2 ⟨rfl, rfl⟩
  go_wp2_with fail
  refine HDay.out.mono ?_
  rintro r w3 ⟨⟨dn, rfl, hdn⟩, hb3⟩
  have HDn := Lib.hid hdn
  have HZ3 : Hid (Blk w3 gz 27 zC.cells) := Lib.hid (HZ1.out.below hb3)
  have HB3 := Lib.hid (HB1.out.trans (hb3.mono HB1.out.size))
  clear hdn hb3 ca cd cx e1 e2 e3 hu
  have cx3 : w3.cell? ⟨b, off + 2, none⟩ = some (.string (str x)) := (HB3.out.cell (p := ⟨b, off + 2, none⟩) HBw.out).trans (HC.out 2 x rfl)
  go_upto_region 10 with fail
  go_cut [9] from 51 to 58 (fun v9 W => ∃ ge, v9 = .pointer (some ⟨ge, 0, none⟩) ∧ gz < ge ∧ Blk W ge 25 (⟨K, dn, kv, 0, 0, 0, 0, false, 0, 0, 0⟩ : E).cells ∧ Blk W gz 27 zC.cells ∧ Below w.heap.size w W)
  case first =>
    have HKE : Hid (∀ W, Below w.heap.size w W → W.cell? ⟨b, off + 2, none⟩ = some (.string (str x))) := Lib.hid (fun W hB => (hB.cell (p := ⟨b, off + 2, none⟩) HBw.out).trans (HC.out 2 x rfl))
    have hs3 : w.heap.size ≤ w3.heap.size := HB3.out.size
    go_region_held3 (fun w' => w'.cell? ⟨b, off + 2, none⟩ = some (.string (str x))) (exact HKE.out _ (by repeat (first | with_reducible assumption | with_reducible exact HB3.out | with_reducible apply bl_alloc | with_reducible apply bl_drew | with_reducible apply bl_set)))
      (first
        | (go_at_call 31; refine (kinds_ws _).mono ?_; rintro r w4 ⟨⟨gk, rfl, hws⟩, hb⟩; have hb4 : Below w.heap.size w w4 := bl_call (by repeat (first | with_reducible exact HB3.out | with_reducible apply bl_alloc | with_reducible apply bl_drew)) hb; have hs4 : w.heap.size ≤ w4.heap.size := hb4.size; have HB4 := Lib.hid hb4; have HZ4 : Hid (Blk w4 gz 27 zC.cells) := Lib.hid (Blk.below (by repeat (first | with_reducible exact HZ3.out | with_reducible apply blk_alloc | with_reducible apply blk_drew)) hb); (try have hEz : Blk w4 w3.heap.size 25 (⟨0, 0, 0, 0, 0, 0, 0, false, 0, 0, 0⟩ : E).cells := (Blk.new w3.drew 25 _).below hb); (try have q0 : w4.cell? ⟨w3.heap.size, 0, none⟩ = some (.int .i64 0) := hEz.cell 0); (try have fq0 := hEz.frozen 0); (try have q1 : w4.cell? ⟨w3.heap.size, 1, none⟩ = some (.int .i64 0) := hEz.cell 1); (try have fq1 := hEz.frozen 1); (try have q2 : w4.cell? ⟨w3.heap.size, 2, none⟩ = some (.int .u32 0) := hEz.cell 2); (try have fq2 := hEz.frozen 2); (try have q3 : w4.cell? ⟨w3.heap.size, 3, none⟩ = some (.int .i64 0) := hEz.cell 3); (try have fq3 := hEz.frozen 3); (try have q4 : w4.cell? ⟨w3.heap.size, 4, none⟩ = some (.int .i64 0) := hEz.cell 4); (try have fq4 := hEz.frozen 4); (try have q5 : w4.cell? ⟨w3.heap.size, 5, none⟩ = some (.float .f64 0) := hEz.cell 5); (try have fq5 := hEz.frozen 5); (try have q6 : w4.cell? ⟨w3.heap.size, 6, none⟩ = some (.float .f64 0) := hEz.cell 6); (try have fq6 := hEz.frozen 6); (try have q7 : w4.cell? ⟨w3.heap.size, 7, none⟩ = some (.bool false) := hEz.cell 7); (try have fq7 := hEz.frozen 7); (try have q8 : w4.cell? ⟨w3.heap.size, 8, none⟩ = some (.int .i64 0) := hEz.cell 8); (try have fq8 := hEz.frozen 8); (try have q9 : w4.cell? ⟨w3.heap.size, 9, none⟩ = some (.int .i64 0) := hEz.cell 9); (try have fq9 := hEz.frozen 9); (try have q10 : w4.cell? ⟨w3.heap.size, 10, none⟩ = some (.int .i64 0) := hEz.cell 10); (try have fq10 := hEz.frozen 10); (try have HEz := Lib.hid hEz))
        | (go_at_call 54; refine (rfind8 x (by first | exact hws | exact ws_drew hws | exact ws_alloc hws)).mono ?_; rintro r w5 ⟨rfl, rfl⟩))
    all_goals (go_wp2_with fail)
    all_goals go_meet
    all_goals case rel => first
      | exact ⟨_, rfl, HZ4.out.lt, Blk.new _ _ _, blk_alloc HZ4.out, bl_alloc HB4.out⟩
      | (have hF := set_ev_fr (w := w5) (g := w3.heap.size) (P := fun k => k = w3.heap.size) ⟨K, dn, kv, 0, 0, 0, 0, false, 0, 0, 0⟩ rfl
         have hA := set_ev ⟨K, dn, kv, 0, 0, 0, 0, false, 0, 0, 0⟩ HEz.out
         exact ⟨_, rfl, HZ3.out.lt, hA, hF.blk HZ4.out (fun h => by have := HZ3.out.lt; omega), HB4.out.trans (hF.below (B := w.heap.size) HB4.out.size (fun k hk => by omega))⟩)
  case rest =>
    obtain ⟨ge, rfl, hgg, hE6, hZ6, hB6⟩ := hcut
    have HGg := Lib.hid hgg
    have HE6 := Lib.hid hE6
    have HZ6 := Lib.hid hZ6
    have HB6 := Lib.hid hB6
    clear hgg hE6 hZ6 hB6 cx3 hKx
    generalize wc = w6 at *
    cases hdb : dayB d with
    | false =>
      have HR := Lib.hid (rp_day (a := a) (x :: Y) HU.out hdb zC)
      clear hdb
      obtain ⟨z0, z1, z2, z3, z4, z5, z6, z7, z8, z9, z10, z11, z12, z13⟩ := cm_cells HZ6.out
      obtain ⟨r0, r1, r2, r3, r4, r5, r6, r7, r8, r9, r10, r11, r12, r13⟩ := cm_frozen HZ6.out
      go_wp2_with fail
      have hA := set_cm zC HZ6.out
      have hAF := set_cm_fr (w := w6) (g := gz) (P := fun k => k = gz) zC rfl
      have hAB := HB6.out.trans (hAF.below (B := w.heap.size) HB6.out.size (fun k hk => by have := HGz.out; omega))
      (try simp only [Exit.inBlock, Exit.then])
      refine bodyPost_ret (Vw.results_cell_row2 (p := 2) (u := 3) (ty := 27) rfl _ _ gz 27 _ _ _ rfl hA.heap Tryz.underlying27 rfl (by kernel_rfl)) rfl ?_
      exact ⟨⟨zC, _, rfl, HR.out⟩, hAB⟩
    | true =>
      have HLk : Hid (∀ (e : E) (bk : Bool), bk = ((evg K ⟨K, dn, kv, 0, 0, 0, 0, false, 0, 0, 0⟩ Y).2.2 && (evg K ⟨K, dn, kv, 0, 0, 0, 0, false, 0, 0, 0⟩ Y).2.1.isEmpty) → (bk = true → e = (evg K ⟨K, dn, kv, 0, 0, 0, 0, false, 0, 0, 0⟩ Y).1) → RP (a :: d :: x :: Y) ⟨false, kv, e, 0⟩ bk) := Lib.hid (by
        have h := ev_link a d x Y (fun z hz => HNo.out z (List.mem_cons_of_mem _ (List.mem_cons_of_mem _ hz))) HKa.out hdb HU.out
        rw [HKx.out, ← HDn.out hdb, HKv.out] at h
        exact h)
      have HEv : Hid (∀ W, Below w6.heap.size w6 W → Calls Tryz.prog 55 #[.agg #[.int .i64 K, .int .i64 dn, .int .u32 kv, .int .i64 0, .int .i64 0, .float .f64 0, .float .f64 0, .bool false, .int .i64 0, .int .i64 0, .int .i64 0], .slice (if c = 3 then some ⟨b, off, none⟩ else some ⟨b, off + 3, none⟩) (n - 3) (c - 3)] W fun r w' => REv (evg K ⟨K, dn, kv, 0, 0, 0, 0, false, 0, 0, 0⟩ Y) r ∧ Below W.heap.size W w') := Lib.hid (fun W hW => by
        have hBW := HB6.out.trans (hW.mono HB6.out.size)
        have hws : Ws W g (if c = 3 then some ⟨b, off, none⟩ else some ⟨b, off + 3, none⟩) Y (c - 3) := by
          by_cases h3 : c = 3
          · have hY0 : Y = [] := List.eq_nil_of_length_eq_zero (by have := HCap.out; have := HN.out; have := HYn.out; omega)
            rw [if_pos h3, hY0]
            exact ⟨Nat.zero_le _, .inr ⟨b, off, rfl, HBg.out, Nat.lt_of_lt_of_le HBw.out hBW.size, fun i z hz => by simp at hz⟩⟩
          · rw [if_neg h3]
            exact ws_tail3 HCap.out HBg.out (Nat.lt_of_lt_of_le HBw.out hBW.size) (fun i z hz => (hBW.cell (p := ⟨b, off + i, none⟩) HBw.out).trans (HC.out i z hz))
        have h := revent_calls K dn kv HKr.out Y (fun z hz => HHl.out z (by simp [hz])) (by have := HHL.out; simp at this; omega) _ (c - 3) g W hws
        rw [show Y.length = n - 3 by have := HYn.out; omega] at h
        exact h)
      clear hdb
      go_upto_region 13 with fail
      go_cut [5] from 62 to 69 (fun v5 W => ∃ (e : E) (bk : Bool), v5 = .bool bk ∧ Blk W ge 25 e.cells ∧ Blk W gz 27 zC.cells ∧ Below w.heap.size w W ∧ Hid (RP (a :: d :: x :: Y) ⟨false, kv, e, 0⟩ bk))
      case first =>
        obtain ⟨k0, k1, k2, k3, k4, k5, k6, k7, k8, k9, k10⟩ := ev_cells HE6.out
        by_cases hc3 : c = 3
        · subst hc3
          have HEv : Hid (∀ W, Below w6.heap.size w6 W → Calls Tryz.prog 55 #[.agg #[.int .i64 K, .int .i64 dn, .int .u32 kv, .int .i64 0, .int .i64 0, .float .f64 0, .float .f64 0, .bool false, .int .i64 0, .int .i64 0, .int .i64 0], .slice (some ⟨b, off, none⟩) 0 0] W fun r w' => REv (evg K ⟨K, dn, kv, 0, 0, 0, 0, false, 0, 0, 0⟩ Y) r ∧ Below W.heap.size W w') := Lib.hid (fun W hW => by
            have h := HEv.out W hW
            rw [if_pos rfl, show n - 3 = 0 by omega] at h
            exact h)
          go_region_with (first
              | (go_at_call 55
                 refine (HEv.out _ (by repeat (first | with_reducible exact Below.refl _ _ | with_reducible apply bl_drew))).mono ?_
                 rintro r w7 ⟨⟨e7, bk, rfl, hbk, he7⟩, hb7⟩
                 have hB7 : Below w6.heap.size w6 w7 := bl_call (by repeat (first | with_reducible exact Below.refl _ _ | with_reducible apply bl_drew)) hb7
                 have HR7 := Lib.hid (HLk.out e7 bk hbk he7)
                 have HE7 := Lib.hid (HE6.out.below hB7)
                 have HZ7 := Lib.hid (HZ6.out.below hB7)
                 have HB7 := Lib.hid (HB6.out.trans (hB7.mono HB6.out.size))
                 clear hbk he7 hb7 hB7 k0 k1 k2 k3 k4 k5 k6 k7 k8 k9 k10
                 obtain ⟨kd, dy, ek, ln, am, rt, ic, sb, st, pl, fm⟩ := e7
                 obtain ⟨k0, k1, k2, k3, k4, k5, k6, k7, k8, k9, k10⟩ := ev_cells HE7.out
                 obtain ⟨r0, r1, r2, r3, r4, r5, r6, r7, r8, r9, r10⟩ := ev_frozen HE7.out
))
          all_goals (go_wp2_with fail)
          all_goals go_meet
          all_goals case rel =>
            have hF := set_ev_fr (w := w7) (g := ge) (P := fun k => k = ge) ⟨kd, dy, ek, ln, am, rt, ic, sb, st, pl, fm⟩ rfl
            have hA := set_ev ⟨kd, dy, ek, ln, am, rt, ic, sb, st, pl, fm⟩ HE7.out
            exact ⟨⟨kd, dy, ek, ln, am, rt, ic, sb, st, pl, fm⟩, bk, rfl, hA, hF.blk HZ7.out (fun h => by have := HGg.out; omega), HB7.out.trans (hF.below (B := w.heap.size) HB7.out.size (fun k hk => by have := HGg.out; have := HGz.out; omega)), HR7⟩
        · have HEv : Hid (∀ W, Below w6.heap.size w6 W → Calls Tryz.prog 55 #[.agg #[.int .i64 K, .int .i64 dn, .int .u32 kv, .int .i64 0, .int .i64 0, .float .f64 0, .float .f64 0, .bool false, .int .i64 0, .int .i64 0, .int .i64 0], .slice (some ⟨b, off + 3, none⟩) (n - 3) (c - 3)] W fun r w' => REv (evg K ⟨K, dn, kv, 0, 0, 0, 0, false, 0, 0, 0⟩ Y) r ∧ Below W.heap.size W w') := Lib.hid (fun W hW => by
            have h := HEv.out W hW
            rw [if_neg hc3] at h
            exact h)
          go_region_with (first
              | (go_at_call 55
                 refine (HEv.out _ (by repeat (first | with_reducible exact Below.refl _ _ | with_reducible apply bl_drew))).mono ?_
                 rintro r w7 ⟨⟨e7, bk, rfl, hbk, he7⟩, hb7⟩
                 have hB7 : Below w6.heap.size w6 w7 := bl_call (by repeat (first | with_reducible exact Below.refl _ _ | with_reducible apply bl_drew)) hb7
                 have HR7 := Lib.hid (HLk.out e7 bk hbk he7)
                 have HE7 := Lib.hid (HE6.out.below hB7)
                 have HZ7 := Lib.hid (HZ6.out.below hB7)
                 have HB7 := Lib.hid (HB6.out.trans (hB7.mono HB6.out.size))
                 clear hbk he7 hb7 hB7 k0 k1 k2 k3 k4 k5 k6 k7 k8 k9 k10
                 obtain ⟨kd, dy, ek, ln, am, rt, ic, sb, st, pl, fm⟩ := e7
                 obtain ⟨k0, k1, k2, k3, k4, k5, k6, k7, k8, k9, k10⟩ := ev_cells HE7.out
                 obtain ⟨r0, r1, r2, r3, r4, r5, r6, r7, r8, r9, r10⟩ := ev_frozen HE7.out
))
          all_goals (go_wp2_with fail)
          all_goals go_meet
          all_goals case rel =>
            have hF := set_ev_fr (w := w7) (g := ge) (P := fun k => k = ge) ⟨kd, dy, ek, ln, am, rt, ic, sb, st, pl, fm⟩ rfl
            have hA := set_ev ⟨kd, dy, ek, ln, am, rt, ic, sb, st, pl, fm⟩ HE7.out
            exact ⟨⟨kd, dy, ek, ln, am, rt, ic, sb, st, pl, fm⟩, bk, rfl, hA, hF.blk HZ7.out (fun h => by have := HGg.out; omega), HB7.out.trans (hF.below (B := w.heap.size) HB7.out.size (fun k hk => by have := HGg.out; have := HGz.out; omega)), HR7⟩
      case rest =>
        obtain ⟨e8, bk, rfl, hE8, hZ8, hB8, HR8⟩ := hcut
        have HE8 := Lib.hid hE8
        have HZ8 := Lib.hid hZ8
        have HB8 := Lib.hid hB8
        clear hE8 hZ8 hB8
        generalize wc = w8 at *
        obtain ⟨kd, dy, ek, ln, am, rt, ic, sb, st, pl, fm⟩ := e8
        obtain ⟨k0, k1, k2, k3, k4, k5, k6, k7, k8, k9, k10⟩ := ev_cells HE8.out
        obtain ⟨z0, z1, z2, z3, z4, z5, z6, z7, z8, z9, z10, z11, z12, z13⟩ := cm_cells HZ8.out
        obtain ⟨r0, r1, r2, r3, r4, r5, r6, r7, r8, r9, r10, r11, r12, r13⟩ := cm_frozen HZ8.out
        go_wp2_with fail
        have hA := set_cm ⟨false, kv, ⟨kd, dy, ek, ln, am, rt, ic, sb, st, pl, fm⟩, 0⟩ HZ8.out
        have hAF := set_cm_fr (w := w8) (g := gz) (P := fun k => k = gz) ⟨false, kv, ⟨kd, dy, ek, ln, am, rt, ic, sb, st, pl, fm⟩, 0⟩ rfl
        have hAB := HB8.out.trans (hAF.below (B := w.heap.size) HB8.out.size (fun k hk => by have := HGz.out; omega))
        (try simp only [Exit.inBlock, Exit.then])
        refine bodyPost_ret (Vw.results_cell_row2 (p := 2) (u := 3) (ty := 27) rfl _ _ gz 27 _ _ _ rfl hA.heap Tryz.underlying27 rfl (by kernel_rfl)) rfl ?_
        exact ⟨⟨⟨false, kv, ⟨kd, dy, ek, ln, am, rt, ic, sb, st, pl, fm⟩, 0⟩, _, rfl, HR8.out⟩, hAB⟩
end Go.Proofs.YtkcjgmicoifhcaaGreatDoor.Cn

/- R9: The reference's parse. (Printed by gen_r9.py.) -/
namespace Go.Proofs.YtkcjgmicoifhcaaGreatDoor.Cn
open Go.RowKit Go.Sort Go.Lib Go.Shelf
open Vw (Tab str Blk)
open Ev (E C fineC)
attribute [local go_sem ↓] Go.wp_at_zero Go.wp_at_succ

set_option maxRecDepth 40000 in
set_option maxHeartbeats 32000000 in
theorem rparse_calls (L : List (List UInt8)) (hno : ∀ z ∈ L, (32 : UInt8) ∉ z) (hl : ∀ z ∈ L, z.length ≤ 1000000) (hL : L.length ≤ 1000000) (p : Option Addr) (c g : Nat) (w : World) (hw : Ws w g p L c) :
    Calls Tryz.prog 27 #[.slice p L.length c] w fun r w' => (∃ (cc : C) (b : Bool), r = .returned (.tuple #[cc.v, .bool b]) ∧ RP L cc b) ∧ Below w.heap.size w w' := by
  have hB1 := (Below.refl w.heap.size w).alloc (Nat.le_refl _) (.cells #[.bool false, .int .u32 0, .int .i64 0, .int .i64 0, .int .u32 0, .int .i64 0, .int .i64 0, .float .f64 0, .float .f64 0, .bool false, .int .i64 0, .int .i64 0, .int .i64 0, .int .u32 0] 27)
  have hZ1 := Blk.new w 27 #[.bool false, .int .u32 0, .int .i64 0, .int .i64 0, .int .u32 0, .int .i64 0, .int .i64 0, .float .f64 0, .float .f64 0, .bool false, .int .i64 0, .int .i64 0, .int .i64 0, .int .u32 0]
  obtain ⟨w1, hw1⟩ : ∃ w1, w.alloc (.cells #[.bool false, .int .u32 0, .int .i64 0, .int .i64 0, .int .u32 0, .int .i64 0, .int .i64 0, .float .f64 0, .float .f64 0, .bool false, .int .i64 0, .int .i64 0, .int .i64 0, .int .u32 0] 27) = w1 := ⟨_, rfl⟩
  rw [hw1] at hB1 hZ1
  obtain ⟨gz, hgz⟩ : ∃ gz, w.heap.size = gz := ⟨_, rfl⟩
  rw [hgz] at hZ1
  have HGz := Lib.hid hgz
  have HZ1 : Hid (Blk w1 gz 27 zC.cells) := Lib.hid hZ1
  have HB1 := Lib.hid hB1
  have hst0 := st_f64
  clear hB1 hZ1
  by_cases hsh : L.length < 3
  · have HR := Lib.hid (par_short hsh)
    obtain ⟨n, hn⟩ : ∃ n, L.length = n := ⟨_, rfl⟩
    rw [hn]
    have hn3 : (n : Int) < 3 := by omega
    clear hsh hn
    go_enter Tryz.func27, Tryz.ntmps27
    go_upto_region 1 with fail
    clear hw1 hgz
    obtain ⟨z0, z1, z2, z3, z4, z5, z6, z7, z8, z9, z10, z11, z12, z13⟩ := cm_cells HZ1.out
    obtain ⟨r0, r1, r2, r3, r4, r5, r6, r7, r8, r9, r10, r11, r12, r13⟩ := cm_frozen HZ1.out
    go_wp2_with fail
    have hA := set_cm zC HZ1.out
    have hAF := set_cm_fr (w := w1) (g := gz) (P := fun k => k = gz) zC rfl
    have hAB := HB1.out.trans (hAF.below (B := w.heap.size) HB1.out.size (fun k hk => by have := HGz.out; omega))
    (try simp only [Exit.inBlock, Exit.then])
    refine bodyPost_ret (Vw.results_cell_row2 (p := 2) (u := 3) (ty := 27) rfl _ _ gz 27 _ _ _ rfl hA.heap Tryz.underlying27 rfl (by kernel_rfl)) rfl ?_
    exact ⟨⟨zC, _, rfl, rp_no HR.out _⟩, hAB⟩
  · obtain ⟨a, d, x, Y, rfl⟩ : ∃ a d x Y, L = a :: d :: x :: Y := by
      match L, hsh with
      | a :: d :: x :: Y, _ => exact ⟨a, d, x, Y, rfl⟩
      | [], h => exact absurd (by simp) h
      | [_], h => exact absurd (by simp) h
      | [_, _], h => exact absurd (by simp) h
    by_cases hev : keyB a = true ∧ d ≠ undoL
    · exact rparse_ev a d x Y hev.1 hev.2 hno hl hL p c g w hw
    have HEv := Lib.hid hev
    clear hev
    rcases hw.lies with h1 | ⟨b, off, rfl, hbg, hbw, hc⟩
    · cases h1
    have HC := Lib.hid hc
    have HBw := Lib.hid hbw
    have HBg := Lib.hid hbg
    have hcap := hw.cap
    have HCap := Lib.hid hcap
    obtain ⟨n, hn⟩ : ∃ n, (a :: d :: x :: Y).length = n := ⟨_, rfl⟩
    have HN := Lib.hid hn
    rw [hn]
    have hnc : n ≤ c := by omega
    have hn3 : (3 : Int) ≤ (n : Int) := by simp at hn; omega
    have hn3b : 3 ≤ n := by omega
    have hn3c : (2 : Int) < (n : Int) := by omega
    have ca : w1.cell? ⟨b, off, none⟩ = some (.string (str a)) := (HB1.out.cell (p := ⟨b, off, none⟩) hbw).trans (hc 0 a rfl)
    have cd : w1.cell? ⟨b, off + 1, none⟩ = some (.string (str d)) := (HB1.out.cell (p := ⟨b, off + 1, none⟩) hbw).trans (hc 1 d rfl)
    have cx : w1.cell? ⟨b, off + 2, none⟩ = some (.string (str x)) := (HB1.out.cell (p := ⟨b, off + 2, none⟩) hbw).trans (hc 2 x rfl)
    have HK := Lib.hid (rkey_calls a (hl a (by simp)) w1)
    clear hw hc hbw hbg hsh hn hcap
    cases hka : keyB a with
    | false =>
      have HR := Lib.hid (bad_key a (d :: x :: Y) hka)
      rw [hka] at HK
      clear hka
      go_enter Tryz.func27, Tryz.ntmps27
      go_upto_region 1 with fail
      clear hw1 hgz
      go_wp2_with fail
      refine HK.out.mono ?_
      rintro r w2 ⟨rfl, rfl⟩
      clear ca cd cx
      obtain ⟨z0, z1, z2, z3, z4, z5, z6, z7, z8, z9, z10, z11, z12, z13⟩ := cm_cells HZ1.out
      obtain ⟨r0, r1, r2, r3, r4, r5, r6, r7, r8, r9, r10, r11, r12, r13⟩ := cm_frozen HZ1.out
      go_wp2_with fail
      have hA := set_cm zC HZ1.out
      have hAF := set_cm_fr (w := w2) (g := gz) (P := fun k => k = gz) zC rfl
      have hAB := HB1.out.trans (hAF.below (B := w.heap.size) HB1.out.size (fun k hk => by have := HGz.out; omega))
      (try simp only [Exit.inBlock, Exit.then])
      refine bodyPost_ret (Vw.results_cell_row2 (p := 2) (u := 3) (ty := 27) rfl _ _ gz 27 _ _ _ rfl hA.heap Tryz.underlying27 rfl (by kernel_rfl)) rfl ?_
      exact ⟨⟨zC, _, rfl, rp_no HR.out _⟩, hAB⟩
    | true =>
      rw [hka] at HK
      have HKa := Lib.hid hka
      clear hka
      by_cases hu : d = undoL
      · subst hu
        have HKx := Lib.hid (rkey_calls x (hl x (by simp)) w1)
        have HR := Lib.hid (rp_undo a x Y HKa.out)
        obtain ⟨kv, hkv⟩ : ∃ kv, keyV a = kv := ⟨_, rfl⟩
        obtain ⟨ov, hov⟩ : ∃ ov, keyV x = ov := ⟨_, rfl⟩
        rw [hkv] at HK HR
        rw [hov] at HKx HR
        have HYn : Hid (Y.length + 3 = n) := Lib.hid (by have := HN.out; simpa using this)
        clear hkv hov
        cases hkx : keyB x with
        | false =>
          rw [hkx] at HKx HR
          clear hkx
          go_enter Tryz.func27, Tryz.ntmps27
          go_upto_region 1 with fail
          clear hw1 hgz
          go_wp2_with fail
          refine HK.out.mono ?_
          rintro r w2 ⟨rfl, rfl⟩
          go_wp2_with fail
          refine HKx.out.mono ?_
          rintro r w3 ⟨rfl, rfl⟩
          clear ca cd cx
          obtain ⟨z0, z1, z2, z3, z4, z5, z6, z7, z8, z9, z10, z11, z12, z13⟩ := cm_cells HZ1.out
          obtain ⟨r0, r1, r2, r3, r4, r5, r6, r7, r8, r9, r10, r11, r12, r13⟩ := cm_frozen HZ1.out
          go_wp2_with fail
          have hA := set_cm ⟨true, kv, ⟨0, 0, 0, 0, 0, 0, 0, false, 0, 0, 0⟩, ov⟩ HZ1.out
          have hAF := set_cm_fr (w := w3) (g := gz) (P := fun k => k = gz) ⟨true, kv, ⟨0, 0, 0, 0, 0, 0, 0, false, 0, 0, 0⟩, ov⟩ rfl
          have hAB := HB1.out.trans (hAF.below (B := w.heap.size) HB1.out.size (fun k hk => by have := HGz.out; omega))
          (try simp only [Exit.inBlock, Exit.then])
          refine bodyPost_ret (Vw.results_cell_row2 (p := 2) (u := 3) (ty := 27) rfl _ _ gz 27 _ _ _ rfl hA.heap Tryz.underlying27 rfl (by kernel_rfl)) rfl ?_
          exact ⟨⟨⟨true, kv, ⟨0, 0, 0, 0, 0, 0, 0, false, 0, 0, 0⟩, ov⟩, _, rfl, HR.out⟩, hAB⟩
        | true =>
          rw [hkx] at HKx HR
          clear hkx
          by_cases hnq : n = 3
          · have HR2 : Hid (RP (a :: undoL :: x :: Y) ⟨true, kv, ⟨0, 0, 0, 0, 0, 0, 0, false, 0, 0, 0⟩, ov⟩ true) := Lib.hid (by
              have h := HR.out
              rw [show decide (Y.length + 3 = 3) = true from decide_eq_true (by rw [HYn.out]; exact hnq)] at h
              exact h)
            have hnI : ((n : Int) == 3) = true := beq_iff_eq.2 (by omega)
            have hnJ : (n : Int) = 3 := by omega
            go_enter Tryz.func27, Tryz.ntmps27
            go_upto_region 1 with fail
            clear hw1 hgz
            go_wp2_with fail
            refine HK.out.mono ?_
            rintro r w2 ⟨rfl, rfl⟩
            go_wp2_with fail
            refine HKx.out.mono ?_
            rintro r w3 ⟨rfl, rfl⟩
            clear ca cd cx
            obtain ⟨z0, z1, z2, z3, z4, z5, z6, z7, z8, z9, z10, z11, z12, z13⟩ := cm_cells HZ1.out
            obtain ⟨r0, r1, r2, r3, r4, r5, r6, r7, r8, r9, r10, r11, r12, r13⟩ := cm_frozen HZ1.out
            go_wp2_with fail
            have hA := set_cm ⟨true, kv, ⟨0, 0, 0, 0, 0, 0, 0, false, 0, 0, 0⟩, ov⟩ HZ1.out
            have hAF := set_cm_fr (w := w3) (g := gz) (P := fun k => k = gz) ⟨true, kv, ⟨0, 0, 0, 0, 0, 0, 0, false, 0, 0, 0⟩, ov⟩ rfl
            have hAB := HB1.out.trans (hAF.below (B := w.heap.size) HB1.out.size (fun k hk => by have := HGz.out; omega))
            (try simp only [Exit.inBlock, Exit.then])
            refine bodyPost_ret (Vw.results_cell_row2 (p := 2) (u := 3) (ty := 27) rfl _ _ gz 27 _ _ _ rfl hA.heap Tryz.underlying27 rfl (by kernel_rfl)) rfl ?_
            exact ⟨⟨⟨true, kv, ⟨0, 0, 0, 0, 0, 0, 0, false, 0, 0, 0⟩, ov⟩, _, rfl, HR2.out⟩, hAB⟩
          · have HR2 : Hid (RP (a :: undoL :: x :: Y) ⟨true, kv, ⟨0, 0, 0, 0, 0, 0, 0, false, 0, 0, 0⟩, ov⟩ false) := Lib.hid (by
              have h := HR.out
              rw [show decide (Y.length + 3 = 3) = false from decide_eq_false (by rw [HYn.out]; exact hnq)] at h
              exact h)
            have hnI : ((n : Int) == 3) = false := beq_eq_false_iff_ne.2 (by omega)
            have hnJ : ¬ (n : Int) = 3 := by omega
            go_enter Tryz.func27, Tryz.ntmps27
            go_upto_region 1 with fail
            clear hw1 hgz
            go_wp2_with fail
            refine HK.out.mono ?_
            rintro r w2 ⟨rfl, rfl⟩
            go_wp2_with fail
            refine HKx.out.mono ?_
            rintro r w3 ⟨rfl, rfl⟩
            clear ca cd cx
            obtain ⟨z0, z1, z2, z3, z4, z5, z6, z7, z8, z9, z10, z11, z12, z13⟩ := cm_cells HZ1.out
            obtain ⟨r0, r1, r2, r3, r4, r5, r6, r7, r8, r9, r10, r11, r12, r13⟩ := cm_frozen HZ1.out
            go_wp2_with fail
            have hA := set_cm ⟨true, kv, ⟨0, 0, 0, 0, 0, 0, 0, false, 0, 0, 0⟩, ov⟩ HZ1.out
            have hAF := set_cm_fr (w := w3) (g := gz) (P := fun k => k = gz) ⟨true, kv, ⟨0, 0, 0, 0, 0, 0, 0, false, 0, 0, 0⟩, ov⟩ rfl
            have hAB := HB1.out.trans (hAF.below (B := w.heap.size) HB1.out.size (fun k hk => by have := HGz.out; omega))
            (try simp only [Exit.inBlock, Exit.then])
            refine bodyPost_ret (Vw.results_cell_row2 (p := 2) (u := 3) (ty := 27) rfl _ _ gz 27 _ _ _ rfl hA.heap Tryz.underlying27 rfl (by kernel_rfl)) rfl ?_
            exact ⟨⟨⟨true, kv, ⟨0, 0, 0, 0, 0, 0, 0, false, 0, 0, 0⟩, ov⟩, _, rfl, HR2.out⟩, hAB⟩
      · exact absurd ⟨HKa.out, hu⟩ HEv.out
end Go.Proofs.YtkcjgmicoifhcaaGreatDoor.Cn

/- R5: The reference's words. -/
namespace Go.Proofs.YtkcjgmicoifhcaaGreatDoor.Cn
open Go.RowKit Go.Sort Go.Lib Go.Shelf
open Vw (Tab str Blk)
attribute [local go_sem ↓] Go.wp_at_zero Go.wp_at_succ

theorem take_one (l : List UInt8) (f pos : Nat) (hf : f ≤ pos) (hp : pos < l.length) (h1 : (32 : UInt8) ∉ (l.drop f).take (pos - f)) (h2 : l[pos] ≠ 32) : (32 : UInt8) ∉ (l.drop f).take (pos + 1 - f) :=
  take_more l f pos 1 hf h1 (by
    intro h
    rw [List.drop_eq_getElem_cons hp, List.take_succ_cons, List.take_zero, List.mem_singleton] at h
    exact h2 h.symm)
set_option maxRecDepth 20000 in
set_option maxHeartbeats 8000000 in
theorem rwords_calls (l : List UInt8) (hl : l.length ≤ 1000000) (w : World) :
    Calls Tryz.prog 26 #[.string (str l)] w fun e w' => (∃ p c, e = .returned (.slice p (cutC 32 l).length c) ∧ Ws w' w'.heap.size p (cutC 32 l) c) ∧ Below w.heap.size w w' := by
  have hs : (str l).size = l.length := Vw.str_size l
  have HLl := Lib.hid hl
  obtain ⟨gi, hgi⟩ : ∃ gi, w.heap.size = gi := ⟨_, rfl⟩
  have HGi := Lib.hid hgi
  clear hgi
  go_enter Tryz.func26, Tryz.ntmps26
  go_wp2_with fail
  go_loopw [3, 4, 5] (fun v fv iv wr => ∃ (pos f : Nat) (acc : List (List UInt8)), iv = .int .i64 (pos : Int) ∧ fv = .int .i64 (f : Int) ∧ f ≤ pos ∧ pos ≤ l.length + 1 ∧ wr.ownsRow gi 9 1 v acc.length (acc.map sv) ∧ Below gi w wr ∧ Hid (acc.length ≤ f ∧ (pos ≤ l.length → acc ++ cutC 32 (l.drop f) = cutC 32 l ∧ (32 : UInt8) ∉ (l.drop f).take (pos - f)) ∧ (pos = l.length + 1 → acc = cutC 32 l))) (fun _ _ iv _ => l.length + 1 - (RowKit.intOf iv).toNat)
  case atStart => exact ⟨0, 0, [], rfl, rfl, Nat.le_refl _, Nat.zero_le _, World.ownsRow_nil _ _ _ _, by rw [← HGi.out]; exact Below.refl _ w, Lib.hid ⟨Nat.zero_le _, fun _ => ⟨rfl, by simp⟩, fun h => absurd h (by omega)⟩⟩
  case round =>
    obtain ⟨pos, f, acc, rfl, rfl, hfp, hpl, hown, hB, hh⟩ := hrel
    have HO := Lib.hid hown
    have HB := Lib.hid hB
    have HG2 : Hid (gi ≤ wr.heap.size) := Lib.hid (by rw [← HGi.out] at hB ⊢; exact hB.size)
    have hlI : (l.length : Int) ≤ 1000000 := by omega
    have hfI : (f : Int) ≤ (pos : Int) := by omega
    by_cases hp : pos ≤ l.length
    · obtain ⟨hacc, hno⟩ := hh.out.2.1 hp
      have hal := hh.out.1
      have happ : ∀ (q : Nat), q ≤ l.length → ∃ v1 w1, (∀ ty, (Builtin.append_ #[36, 36] ty #[u3, .slice (some ⟨wr.heap.size, 0, none⟩) 1 1]).run Tryz.prog (wr.alloc (.cells #[.string ((str l).extract f q)] 9)) = .ok v1 w1) ∧ w1.ownsRow gi 9 1 v1 (acc.length + 1) (acc.map sv ++ [.string (str ((l.drop f).take (q - f)))]) ∧ Below gi (wr.alloc (.cells #[.string ((str l).extract f q)] 9)) w1 := fun q hq => by
        have hal2 := (Below.refl wr.heap.size wr).alloc (Nat.le_refl _) (.cells #[.string ((str l).extract f q)] 9)
        have hc := (Blk.new wr 9 #[.string ((str l).extract f q)]).cell 0
        rw [str_extract] at hc ⊢
        exact app_str gi u3 acc.length (acc.map sv) wr.heap.size _ _ (own_below hown (by rw [← str_extract]; exact hal2)) hc (Nat.le_trans HG2.out (by rw [← str_extract]; exact hal2.size)) (by have := HLl.out; omega)
      by_cases he : pos = l.length
      · subst he
        have HA := Lib.hid (happ l.length (Nat.le_refl _))
        have hlast : (32 : UInt8) ∉ l.drop f := by
          rw [List.take_of_length_le (by rw [List.length_drop]; exact Nat.le_refl _)] at hno
          exact hno
        have HRes : Hid (acc ++ [(l.drop f).take (l.length - f)] = cutC 32 l) := Lib.hid (by
          rw [List.take_of_length_le (by rw [List.length_drop]; exact Nat.le_refl _), ← hacc, cutC_none 32 _ hlast])
        have HAl := Lib.hid ((Below.refl wr.heap.size wr).alloc (Nat.le_refl _) (.cells #[.string ((str l).extract f l.length)] 9))
        have HLen : Hid ((acc ++ [(l.drop f).take (l.length - f)]).length ≤ l.length + 1) := Lib.hid (by rw [List.length_append, List.length_singleton]; omega)
        clear hh hacc hno hal hown hB hlast happ
        go_wp2_with (at_builtin; refine Hid.out ?_)
        refine Lib.hid ?_
        refine wpList_append_run rfl (.tmp 22) (.tmp 27) 36 rfl _ _ rfl rfl HA.out ?_
        rintro v1 w5 ⟨f1, f2⟩
        have HO5 := Lib.hid f1
        have HB5 := Lib.hid (HB.out.trans ((HAl.out.mono HG2.out).trans f2))
        clear f1 f2
        go_wp2_with fail
        go_roundw
        case rel => exact ⟨l.length + 1, l.length + 1, acc ++ [(l.drop f).take (l.length - f)], by go_num, by go_num, Nat.le_refl _, Nat.le_refl _, by rw [List.length_append, List.map_append]; exact HO5.out, HB5.out, Lib.hid ⟨HLen.out, fun h => absurd h (by omega), fun _ => HRes.out⟩⟩
        all_goals (simp [RowKit.intOf])
      · have hp3 : pos < l.length := by omega
        have hp2 : pos < (str l).size := by rw [hs]; exact hp3
        have hpI : (pos : Int) < (l.length : Int) := by omega
        have heI : ¬ (pos : Int) = (l.length : Int) := by omega
        have hbe : ((pos : Int) == (l.length : Int)) = false := beq_eq_false_iff_ne.2 heI
        by_cases h32 : l[pos] = 32
        · have HA := Lib.hid (happ pos hp)
          have hx : (((str l)[pos]'hp2).toNat : Int) = 32 := by rw [str_get, h32]; rfl
          have HNx : Hid ((acc ++ [(l.drop f).take (pos - f)]) ++ cutC 32 (l.drop (pos + 1)) = cutC 32 l ∧ (32 : UInt8) ∉ (l.drop (pos + 1)).take (pos + 1 - (pos + 1)) ∧ (acc ++ [(l.drop f).take (pos - f)]).length ≤ pos + 1) := Lib.hid ⟨by
            rw [← hacc, List.append_assoc]
            congr 1
            conv => rhs; rw [drop_split l f pos hfp (by rw [List.getElem?_eq_getElem hp3, h32])]
            rw [cutC_app 32 _ _ hno]
            rfl, by simp, by rw [List.length_append, List.length_singleton]; omega⟩
          have HAl := Lib.hid ((Below.refl wr.heap.size wr).alloc (Nat.le_refl _) (.cells #[.string ((str l).extract f pos)] 9))
          clear hh hacc hno hal hown hB happ h32 heI
          go_wp2_with (at_builtin; refine Hid.out ?_)
          refine Lib.hid ?_
          refine wpList_append_run rfl (.tmp 22) (.tmp 27) 36 rfl _ _ rfl rfl HA.out ?_
          rintro v1 w5 ⟨f1, f2⟩
          have HO5 := Lib.hid f1
          have HB5 := Lib.hid (HB.out.trans ((HAl.out.mono HG2.out).trans f2))
          clear f1 f2
          go_wp2_with fail
          go_roundw
          case rel => exact ⟨pos + 1, pos + 1, acc ++ [(l.drop f).take (pos - f)], by go_num, by go_num, Nat.le_refl _, by omega, by rw [List.length_append, List.map_append]; exact HO5.out, HB5.out, Lib.hid ⟨HNx.out.2.2, fun _ => ⟨HNx.out.1, HNx.out.2.1⟩, fun h => absurd h (by omega)⟩⟩
          all_goals (simp [RowKit.intOf]; omega)
        · have hx : ¬ (((str l)[pos]'hp2).toNat : Int) = 32 := by
            rw [str_get]
            intro h
            exact h32 (UInt8.toNat_inj.1 (by rw [show (32 : UInt8).toNat = 32 from rfl]; omega))
          have HNx : Hid (acc.length ≤ f ∧ acc ++ cutC 32 (l.drop f) = cutC 32 l ∧ (32 : UInt8) ∉ (l.drop f).take (pos + 1 - f)) := Lib.hid ⟨hal, hacc, take_one l f pos hfp hp3 hno h32⟩
          clear hh hacc hno hal hown hB happ h32 heI
          go_wp2_with fail
          go_roundw
          case rel => exact ⟨pos + 1, f, acc, by go_num, rfl, by omega, by omega, HO.out, HB.out, Lib.hid ⟨HNx.out.1, fun _ => HNx.out.2, fun h => absurd h (by omega)⟩⟩
          all_goals (simp [RowKit.intOf]; omega)
    · obtain rfl : pos = l.length + 1 := by omega
      have hres := hh.out.2.2 rfl
      obtain ⟨pp, cc, hv, hws⟩ := ws_own (L := acc) rfl hown
      subst hv
      have HWs := Lib.hid hws
      have HR := Lib.hid hres
      have hpI : (l.length : Int) < ((l.length + 1 : Nat) : Int) := by omega
      clear hh hown hB hws hres hp
      go_wp2_with fail
      go_ret
      exact ⟨⟨pp, cc, by rw [← HR.out]; rfl, by rw [← HR.out]; exact HWs.out⟩, by rw [HGi.out]; exact HB.out⟩
end Go.Proofs.YtkcjgmicoifhcaaGreatDoor.Cn
