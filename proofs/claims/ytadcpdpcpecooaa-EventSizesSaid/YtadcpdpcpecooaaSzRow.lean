/- A command's text has one of two sizes, two commands are one where their texts are, and an event's bytes end it: the law EventSizes returns true at every two commands, and its arguments read afterwards as before. No condition. -/
import Derived.Test.YtadcpdpcpecooaaEr
import Derived.Test.YtadcpdpcpecooaaE23
namespace Go.Proofs.Ytadcpdpcpecooaa
open Go.ChangeShapes Go.WideShapes Go.ChangeAt Go.RowKit

set_option maxRecDepth 100000 in
set_option maxHeartbeats 1000000 in
theorem sizes_lifted (os : Os) (started : os.Started) (H : Type) (enc : TypeId × Value → H) :
    ReturnsInHanded {} Try.checked os 3 .any (Rows.eventSizesSpec.pre6 enc Try.prog Try.f3 Rows.eventSizesRow.domain false) (Rows.eventSizesSpec.post enc Try.prog Try.f3 false true false false) := by
  refine returnsInHanded_of_change_sized (C := Try.checked) own started (by kernel_rfl) Try.func3
    (ChangeSpec.witness6 (enc := enc) (C := Try.checked) false ⟨#[], #[Ev.zeroC.v, Ev.zeroC.v], []⟩ 8 (by kernel_rfl) (by kernel_rfl) (by kernel_rfl) (by kernel_rfl)) ?_
  intro W base args ds gs before hval0 hW hcnd hsz0 _
  have hval : ∀ (j : Nat) t v, Try.f3.params[j]? = some t → args[j]? = some v → Value.okWide Try.prog W .any base t v := hval0
  have hW' := hW
  obtain ⟨p, q, hA0, hV, rfl, hfz, hnd⟩ := hW
  have hA : DataW.TrodAll enc Try.prog W 0 (fun _ => true) true Try.f3.params.toList args.toList ds p := hA0
  obtain ⟨rfl, rfl⟩ := trodVars_none hV
  rw [Try.params3] at hA hval
  obtain ⟨v0, v1, d0, d1, p0, p1, rfl, rfl, rfl, h0, h1⟩ := trodAll_two hA
  obtain ⟨a, rfl, oa⟩ := open_command (hval 0 27 v0 rfl rfl) h0
  obtain ⟨b, rfl, ob⟩ := open_command (hval 1 27 v1 rfl rfl) h1
  refine (Ev.sizes_walk a b W oa ob).mono fun r W' ⟨he, bel⟩ => ?_
  subst he
  exact ⟨_, rfl, Rw.law_post laidOut rfl rfl Try.underlying4 (fun t ht => readsE t (by rw [Try.params3] at ht; simp at ht; rcases ht with rfl | rfl <;> simp)) hW' bel ⟨rfl, rfl, rfl⟩⟩

theorem eventSizes_holds : Rows.EventSizesSaid :=
  OpenClaim.holds_of_wide 3 Try.f3 rfl rfl rfl rfl rfl rfl rfl ⟨rfl, rfl, rfl, rfl, rfl⟩ rfl rfl rfl rfl rfl (by kernel_rfl) Try.func3 (by kernel_rfl)
    (of_decide_eq_true (by kernel_rfl)) (by unfold Func.isWrapper; first | (rw [if_pos (by decide +kernel)]; kernel_rfl) | (rw [if_neg (by decide +kernel)]; exact ⟨rfl, rfl⟩))
    (fun os started H enc _ => sizes_lifted os started H enc)
end Go.Proofs.Ytadcpdpcpecooaa
