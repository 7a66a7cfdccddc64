/- span.Has, and span.parts. -/
import Derived.Test.YtgiccdjgbjgdcaaIx
import Derived.Test.YtgiccdjgbjgdcaaPSpanTellsx1
import Derived.Test.YtgiccdjgbjgdcaaPSpanTellsx3
import Derived.BigQuiet
namespace Go.Proofs.Ytgiccdjgbjgdcaa.Sp
open Go.RowKit Go.Proofs.YtgiccdjgbjgdcaaW.PrintWords PSpanTells

/-- A set, as the program tells it. -/
def goodFrom : Int → List S51 → Bool
  | _, [] => true
  | last, x :: xs => decide (last < x.f0) && (decide (x.f0 < x.f1) && (decide (x.f1 ≤ 87659) && goodFrom x.f1 xs))
def goodB (xs : List S51) : Bool := decide (xs.length ≤ 1000) && goodFrom (-1) xs
def inB (xs : List S51) (day : Int) : Bool := xs.any fun x => decide (x.f0 ≤ day) && decide (day < x.f1)

theorem rd_get (xs : List S51) (k : Nat) (h : k < xs.length) : rd_T51 xs (k : Int) = xs[k] := by unfold rd_T51; simp [h]
theorem wr64 (x : Int) (h : -9223372036854775808 ≤ x ∧ x ≤ 9223372036854775807) : wrap64 x = x := IntWalk.wrap64_in x h
theorem good_l0 (xs : List S51) (hl : xs.length ≤ 1000) : ∀ (m k : Nat) (last : Int), xs.length - k < m → k ≤ xs.length → span_Good.l0 m last xs (xs.length : Int) (k : Int) = some (goodFrom last (xs.drop k)) := by
  intro m
  induction m with
  | zero => intro k last h _; omega
  | succ m ih =>
    intro k last hm hk
    simp only [span_Good.l0]
    by_cases hlt : k < xs.length
    · have e2 : wrap64 ((k : Int) + 1) = ((k + 1 : Nat) : Int) := by rw [wr64 _ (by omega)]; omega
      rw [if_pos (show (k : Int) < (xs.length : Int) by omega), if_pos (show (0 : Int) ≤ (k : Int) by omega), if_pos (show (k : Int) < (xs.length : Int) by omega), rd_get xs k hlt, e2,
        List.drop_eq_getElem_cons hlt]
      simp only [goodFrom]
      rw [ih (k + 1) xs[k].f1 (by omega) (by omega)]
      by_cases h1 : xs[k].f0 ≤ last
      · rw [if_pos h1, decide_eq_false (show ¬ last < xs[k].f0 by omega)]; rfl
      · rw [if_neg h1, decide_eq_true (show last < xs[k].f0 by omega)]
        by_cases h2 : xs[k].f1 ≤ xs[k].f0
        · rw [if_pos h2, decide_eq_false (show ¬ xs[k].f0 < xs[k].f1 by omega)]; rfl
        · rw [if_neg h2, decide_eq_true (show xs[k].f0 < xs[k].f1 by omega)]
          by_cases h3 : xs[k].f1 > 87659
          · rw [if_pos h3, decide_eq_false (show ¬ xs[k].f1 ≤ 87659 by omega)]; rfl
          · rw [if_neg h3, decide_eq_true (show xs[k].f1 ≤ 87659 by omega)]; rfl
    · rw [if_neg (show ¬ (k : Int) < (xs.length : Int) by omega), List.drop_eq_nil_of_le (by omega)]
      rfl
theorem good_eval (xs : List S51) : ∃ k, span_Good.f k xs = some (goodB xs) := by
  by_cases hl : xs.length ≤ 1000
  · refine ⟨xs.length + 1, ?_⟩
    unfold span_Good.f goodB
    rw [if_neg (show ¬ (xs.length : Int) > 1000 by omega), decide_eq_true hl]
    have := good_l0 xs hl (xs.length + 1) 0 (-1) (by omega) (by omega)
    rw [List.drop_zero] at this
    exact this
  · refine ⟨0, ?_⟩
    unfold span_Good.f goodB
    rw [if_pos (show (xs.length : Int) > 1000 by omega), decide_eq_false hl]
    rfl
theorem Good_calls (A : Option Addr) (c : Nat) (xs : List S51) (w : World) (hr : Kd.C k51 w A xs.length xs) (hc : xs.length ≤ c) :
    Calls Try.prog 10 #[.slice A xs.length c] w fun e w' => e = .returned (.bool (goodB xs)) ∧ Below w.heap.size w w' := by
  obtain ⟨k, hk⟩ := good_eval xs
  exact span_Good.calls k A c xs _ w hr hc hk

theorem Has_calls (A : Option Addr) (c : Nat) (xs : List S51) (day : Int) (w : World) (hr : Kd.C k51 w A xs.length xs) (hc : xs.length ≤ c) :
    Calls Try.prog 12 #[.slice A xs.length c, .int .i64 day] w fun e w' => e = .returned (.bool (goodB xs && inB xs day)) ∧ Below w.heap.size w w' := by
  have hmf : ∀ (fn : Fn) (first cap : Array Value) (w : World), (Instr.makeFunc fn first cap).run Try.prog w = .ok (.func fn first cap) w := fun _ _ _ _ => rfl
  have b0 : Below w.heap.size w (w.alloc (.cells #[.int .i64 day] 3)) := (Below.refl _ _).alloc (Nat.le_refl _) _
  have hr1 := Kd.C_below hr b0
  have HG := Lib.hid (Good_calls A c xs (w.alloc (.cells #[.int .i64 day] 3)) hr1 hc)
  cases hg : goodB xs with
  | false =>
    go_enter Try.func12, Try.ntmps12
    go_wp2_with fail
    refine HG.out.mono ?_
    rw [hg]
    rintro e w1 ⟨rfl, b1⟩
    have HB := Lib.hid (b0.trans (b1.mono b0.size))
    clear b1 b0 hr hr1 HG
    go_wp2_with fail
    go_ret
    exact ⟨rfl, HB.out⟩
  | true =>
    have hlen : xs.length < 4611686018427387904 := by
      have := hg
      simp only [goodB, Bool.and_eq_true, decide_eq_true_eq] at this
      omega
    go_enter Try.func12, Try.ntmps12
    go_wp2_with fail
    refine HG.out.mono ?_
    rw [hg]
    rintro e w1 ⟨rfl, b1⟩
    have HB := Lib.hid (b0.trans (b1.mono b0.size))
    have HC := Lib.hid (contains_calls 25 (.pointer (some ⟨w.heap.size, 0, none⟩)) (fun x => decide (x.f0 ≤ day) && decide (day < x.f1)) A c xs w1 (Kd.C_below hr1 (b1.mono (Nat.le_refl _))) hlen (has_pred _ day w1 ((Var.new w day).below b1)))
    clear b1 b0 hr hr1 HG
    go_wp2_with fail
    refine HC.out.mono ?_
    rintro e w2 ⟨rfl, b2⟩
    have HB2 := Lib.hid (HB.out.trans (b2.mono HB.out.size))
    have e1 : (xs.any fun x => decide (x.f0 ≤ day) && decide (day < x.f1)) = inB xs day := rfl
    rw [e1]
    obtain ⟨r, hr⟩ : ∃ r, inB xs day = r := ⟨_, rfl⟩
    rw [hr]
    have Hr := Lib.hid hr
    clear b2 HC HB e1 hr
    go_wp2_with fail
    go_ret
    exact ⟨by simp; exact Hr.out.symm, HB2.out⟩
end Go.Proofs.Ytgiccdjgbjgdcaa.Sp
