/- Any set with days more, with days fewer, and the days of two sets, or that it can't be: the law SpanChanges returns true at every two lists and every pair of days, and every argument reads afterwards as before. No condition. -/
import Derived.Test.YtgiccdjgbjgdcaaTa
import Derived.Test.YtgiccdjgbjgdcaaCh
namespace Go.Proofs.Ytgiccdjgbjgdcaa
open Go.ChangeShapes Go.WideShapes Go.ChangeAt Go.RowKit

theorem cells33 : Try.prog.cellsOf 33 = 2 := by kernel_rfl
theorem cells3 : Try.prog.cellsOf 3 = 1 := by kernel_rfl
theorem two_of (zs : List Int) (h : zs.length = 2) : ∃ f t, zs = [f, t] := by
  match zs, h with
  | [f, t], _ => exact ⟨f, t, rfl⟩
theorem reads3 (t : TypeId) (h : t = 22 ∨ t = 33) : Try.prog.readableRec t = true ∧ t < Try.prog.types.size := by
  rcases h with rfl | rfl <;> exact ⟨by kernel_rfl, of_decide_eq_true (by kernel_rfl)⟩
set_option maxRecDepth 100000 in
set_option maxHeartbeats 1000000 in
theorem changes_lifted (os : Os) (started : os.Started) (H : Type) (enc : TypeId × Value → H) :
    ReturnsInHanded {} Try.checked os 4 .any (Rows.spanChangesSpec.pre6 enc Try.prog Try.f4 Rows.spanChangesRow.domain false) (Rows.spanChangesSpec.post enc Try.prog Try.f4 false true false false) := by
  refine returnsInHanded_of_change_sized (C := Try.checked) own started (by kernel_rfl) Try.func4
    (ChangeSpec.witness6 (enc := enc) (C := Try.checked) false ⟨#[], #[.slice none 0 0, .slice none 0 0, .agg #[.int .i64 0, .int .i64 0]], []⟩ 8 (by kernel_rfl) (by kernel_rfl) (by kernel_rfl) (by kernel_rfl)) ?_
  intro W base args ds gs before hval0 hW hcnd hsz0 _
  have hval : ∀ (j : Nat) t v, Try.f4.params[j]? = some t → args[j]? = some v → Value.okWide Try.prog W .any base t v := hval0
  have hW' := hW
  obtain ⟨p, q, hA0, hV, rfl, hfz, hnd⟩ := hW
  have hA : DataW.TrodAll enc Try.prog W 0 (fun _ => true) true Try.f4.params.toList args.toList ds p := hA0
  obtain ⟨rfl, rfl⟩ := trodVars_none hV
  rw [Try.params4] at hA hval
  obtain ⟨v0, v1, v2, d0, d1, d2, p0, p1, p2, rfl, rfl, rfl, h0, h1, h2⟩ := trodAll_three hA
  obtain ⟨A, cap, xs, rfl, hc, hr⟩ := open_spans (hval 0 22 v0 rfl rfl) h0
  obtain ⟨B, cap', ys, rfl, hc', hr'⟩ := open_spans (hval 1 22 v1 rfl rfl) h1
  obtain ⟨zs, rfl, hz⟩ := open_ints Try.underlying33 cells33 cells3 Try.underlying3 (hval 2 33 v2 rfl rfl) h2
  obtain ⟨f, t, rfl⟩ := two_of zs hz
  refine (Sp.changes_walk A B cap cap' xs ys f t W hr hc hr' hc').mono fun e W' ⟨he, bel⟩ => ?_
  subst he
  exact ⟨_, rfl, Rw.law_post laidOut rfl rfl Try.underlying4 (fun t ht => reads3 t (by rw [Try.params4] at ht; simp at ht; rcases ht with rfl | rfl | rfl <;> simp)) hW' bel ⟨rfl, rfl, rfl⟩⟩

theorem spanChanges_holds : Rows.SpanChangesSaid :=
  OpenClaim.holds_of_wide 4 Try.f4 rfl rfl rfl rfl rfl rfl rfl ⟨rfl, rfl, rfl, rfl, rfl⟩ rfl rfl rfl rfl rfl (by kernel_rfl) Try.func4 (by kernel_rfl)
    (of_decide_eq_true (by kernel_rfl)) (by unfold Func.isWrapper; first | (rw [if_pos (by decide +kernel)]; kernel_rfl) | (rw [if_neg (by decide +kernel)]; exact ⟨rfl, rfl⟩))
    (fun os started H enc _ => changes_lifted os started H enc)
end Go.Proofs.Ytgiccdjgbjgdcaa
