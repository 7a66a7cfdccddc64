/- Each day is in a set with days more just if it was, or is one of them; in one with days fewer just if it was and is none of them; in two together just if it is in both: the law SpanDays returns true at every two lists and every three numbers, and every argument reads afterwards as before. No condition. -/
import Derived.Test.YtgiccdjgbjgdcaaTa
import Derived.Test.YtgiccdjgbjgdcaaSd
namespace Go.Proofs.Ytgiccdjgbjgdcaa
open Go.ChangeShapes Go.WideShapes Go.ChangeAt Go.RowKit

theorem cells42 : Try.prog.cellsOf 42 = 3 := by kernel_rfl
theorem cells3 : Try.prog.cellsOf 3 = 1 := by kernel_rfl
theorem three_of (zs : List Int) (h : zs.length = 3) : ∃ f t u, zs = [f, t, u] := by
  match zs, h with
  | [f, t, u], _ => exact ⟨f, t, u, rfl⟩
theorem reads5 (t : TypeId) (h : t = 22 ∨ t = 42) : Try.prog.readableRec t = true ∧ t < Try.prog.types.size := by
  rcases h with rfl | rfl <;> exact ⟨by kernel_rfl, of_decide_eq_true (by kernel_rfl)⟩
set_option maxRecDepth 100000 in
set_option maxHeartbeats 1000000 in
theorem days_lifted (os : Os) (started : os.Started) (H : Type) (enc : TypeId × Value → H) :
    ReturnsInHanded {} Try.checked os 5 .any (Rows.spanDaysSpec.pre6 enc Try.prog Try.f5 Rows.spanDaysRow.domain false) (Rows.spanDaysSpec.post enc Try.prog Try.f5 false true false false) := by
  refine returnsInHanded_of_change_sized (C := Try.checked) own started (by kernel_rfl) Try.func5
    (ChangeSpec.witness6 (enc := enc) (C := Try.checked) false ⟨#[], #[.slice none 0 0, .slice none 0 0, .agg #[.int .i64 0, .int .i64 0, .int .i64 0]], []⟩ 8 (by kernel_rfl) (by kernel_rfl) (by kernel_rfl) (by kernel_rfl)) ?_
  intro W base args ds gs before hval0 hW hcnd hsz0 _
  have hval : ∀ (j : Nat) t v, Try.f5.params[j]? = some t → args[j]? = some v → Value.okWide Try.prog W .any base t v := hval0
  have hW' := hW
  obtain ⟨p, q, hA0, hV, rfl, hfz, hnd⟩ := hW
  have hA : DataW.TrodAll enc Try.prog W 0 (fun _ => true) true Try.f5.params.toList args.toList ds p := hA0
  obtain ⟨rfl, rfl⟩ := trodVars_none hV
  rw [Try.params5] at hA hval
  obtain ⟨v0, v1, v2, d0, d1, d2, p0, p1, p2, rfl, rfl, rfl, h0, h1, h2⟩ := trodAll_three hA
  obtain ⟨A, cap, xs, rfl, hc, hr⟩ := open_spans (hval 0 22 v0 rfl rfl) h0
  obtain ⟨B, cap', ys, rfl, hc', hr'⟩ := open_spans (hval 1 22 v1 rfl rfl) h1
  obtain ⟨zs, rfl, hz⟩ := open_ints Try.underlying42 cells42 cells3 Try.underlying3 (hval 2 42 v2 rfl rfl) h2
  obtain ⟨f, t, u, rfl⟩ := three_of zs hz
  refine (Sp.days_walk A B cap cap' xs ys f t u W hr hc hr' hc').mono fun e W' ⟨he, bel⟩ => ?_
  subst he
  exact ⟨_, rfl, Rw.law_post laidOut rfl rfl Try.underlying4 (fun t ht => reads5 t (by rw [Try.params5] at ht; simp at ht; rcases ht with rfl | rfl | rfl <;> simp)) hW' bel ⟨rfl, rfl, rfl⟩⟩

theorem spanDays_holds : Rows.SpanDaysSaid :=
  OpenClaim.holds_of_wide 5 Try.f5 rfl rfl rfl rfl rfl rfl rfl ⟨rfl, rfl, rfl, rfl, rfl⟩ rfl rfl rfl rfl rfl (by kernel_rfl) Try.func5 (by kernel_rfl)
    (of_decide_eq_true (by kernel_rfl)) (by unfold Func.isWrapper; first | (rw [if_pos (by decide +kernel)]; kernel_rfl) | (rw [if_neg (by decide +kernel)]; exact ⟨rfl, rfl⟩))
    (fun os started H enc _ => days_lifted os started H enc)
end Go.Proofs.Ytgiccdjgbjgdcaa
