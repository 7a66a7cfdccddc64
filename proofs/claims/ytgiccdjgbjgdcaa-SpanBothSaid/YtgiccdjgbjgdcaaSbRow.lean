/- The days in both of two sets are the same the other way round; of a set and itself they are the set; they are as many as are in the one, less those that are in it alone: the law SpanBoth returns true at every two lists, and every argument reads afterwards as before. No condition. -/
import Derived.Test.YtgiccdjgbjgdcaaTr
import Derived.Test.YtgiccdjgbjgdcaaSb
namespace Go.Proofs.Ytgiccdjgbjgdcaa
open Go.ChangeShapes Go.WideShapes Go.ChangeAt Go.RowKit

set_option maxRecDepth 100000 in
theorem both_lifted (os : Os) (started : os.Started) (H : Type) (enc : TypeId × Value → H) :
    ReturnsInHanded {} Try.checked os 7 .any (Rows.spanBothSpec.pre6 enc Try.prog Try.f7 Rows.spanBothRow.domain false) (Rows.spanBothSpec.post enc Try.prog Try.f7 false true false false) := by
  refine returnsInHanded_of_change_sized (C := Try.checked) own started (by kernel_rfl) Try.func7
    (ChangeSpec.witness6 (enc := enc) (C := Try.checked) false ⟨#[], #[.slice none 0 0, .slice none 0 0], []⟩ 8 (by kernel_rfl) (by kernel_rfl) (by kernel_rfl) (by kernel_rfl)) ?_
  intro W base args ds gs before hval0 hW hcnd hsz0 _
  have hval : ∀ (j : Nat) t v, Try.f7.params[j]? = some t → args[j]? = some v → Value.okWide Try.prog W .any base t v := hval0
  have hW' := hW
  obtain ⟨p, q, hA0, hV, rfl, hfz, hnd⟩ := hW
  have hA : DataW.TrodAll enc Try.prog W 0 (fun _ => true) true Try.f7.params.toList args.toList ds p := hA0
  obtain ⟨rfl, rfl⟩ := trodVars_none hV
  rw [Try.params7] at hA hval
  obtain ⟨v0, v1, d0, d1, p0, p1, rfl, rfl, rfl, h0, h1⟩ := trodAll_two hA
  obtain ⟨A, cap, xs, rfl, hc, hr⟩ := open_spans (hval 0 22 v0 rfl rfl) h0
  obtain ⟨B, cap', ys, rfl, hc', hr'⟩ := open_spans (hval 1 22 v1 rfl rfl) h1
  refine (Sp.both_walk A B cap cap' xs ys W hr hc hr' hc').mono fun e W' ⟨he, bel⟩ => ?_
  subst he
  exact ⟨_, rfl, Rw.law_post laidOut rfl rfl Try.underlying4 (fun t ht => reads t (by rw [Try.params7] at ht; simp at ht; rcases ht with rfl | rfl <;> simp)) hW' bel ⟨rfl, rfl, rfl⟩⟩

theorem spanBoth_holds : Rows.SpanBothSaid :=
  OpenClaim.holds_of_wide 7 Try.f7 rfl rfl rfl rfl rfl rfl rfl ⟨rfl, rfl, rfl, rfl, rfl⟩ rfl rfl rfl rfl rfl (by kernel_rfl) Try.func7 (by kernel_rfl)
    (of_decide_eq_true (by kernel_rfl)) (by unfold Func.isWrapper; first | (rw [if_pos (by decide +kernel)]; kernel_rfl) | (rw [if_neg (by decide +kernel)]; exact ⟨rfl, rfl⟩))
    (fun os started H enc _ => both_lifted os started H enc)
end Go.Proofs.Ytgiccdjgbjgdcaa
