/- The others' fields of an event that its kind has not are nothing: the law EventOthers returns true at every event and number, and its arguments read afterwards as before. No condition. -/
import Derived.Test.YtadcpdpcpecooaaEr
import Derived.Test.YtadcpdpcpecooaaE19
namespace Go.Proofs.Ytadcpdpcpecooaa
open Go.ChangeShapes Go.WideShapes Go.ChangeAt Go.RowKit

set_option maxRecDepth 100000 in
set_option maxHeartbeats 1000000 in
theorem others_lifted (os : Os) (started : os.Started) (H : Type) (enc : TypeId × Value → H) :
    ReturnsInHanded {} Try.checked os 5 .any (Rows.eventOthersSpec.pre6 enc Try.prog Try.f5 Rows.eventOthersRow.domain false) (Rows.eventOthersSpec.post enc Try.prog Try.f5 false true false false) := by
  refine returnsInHanded_of_change_sized (C := Try.checked) own started (by kernel_rfl) Try.func5
    (ChangeSpec.witness6 (enc := enc) (C := Try.checked) false ⟨#[], #[Ev.zeroE.v, .int .u8 0], []⟩ 8 (by kernel_rfl) (by kernel_rfl) (by kernel_rfl) (by kernel_rfl)) ?_
  intro W base args ds gs before hval0 hW hcnd hsz0 _
  have hval : ∀ (j : Nat) t v, Try.f5.params[j]? = some t → args[j]? = some v → Value.okWide Try.prog W .any base t v := hval0
  have hW' := hW
  obtain ⟨p, q, hA0, hV, rfl, hfz, hnd⟩ := hW
  have hA : DataW.TrodAll enc Try.prog W 0 (fun _ => true) true Try.f5.params.toList args.toList ds p := hA0
  obtain ⟨rfl, rfl⟩ := trodVars_none hV
  rw [Try.params5] at hA hval
  obtain ⟨v0, v1, d0, d1, p0, p1, rfl, rfl, rfl, h0, h1⟩ := trodAll_two hA
  obtain ⟨e, rfl, ho⟩ := open_event (hval 0 25 v0 rfl rfl) h0
  obtain ⟨c, rfl, _, _, hwf⟩ := open_int Try.underlying5 (hval 1 5 v1 rfl rfl) h1
  have hc := bounds_u8 hwf
  obtain ⟨n, rfl⟩ : ∃ n : Nat, c = (n : Int) := ⟨c.toNat, by omega⟩
  refine (Ev.others_walk e n W ho (by omega)).mono fun r W' ⟨he, bel⟩ => ?_
  subst he
  exact ⟨_, rfl, Rw.law_post laidOut rfl rfl Try.underlying4 (fun t ht => readsE t (by rw [Try.params5] at ht; simp at ht; rcases ht with rfl | rfl <;> simp)) hW' bel ⟨rfl, rfl, rfl⟩⟩

theorem eventOthers_holds : Rows.EventOthersSaid :=
  OpenClaim.holds_of_wide 5 Try.f5 rfl rfl rfl rfl rfl rfl rfl ⟨rfl, rfl, rfl, rfl, rfl⟩ rfl rfl rfl rfl rfl (by kernel_rfl) Try.func5 (by kernel_rfl)
    (of_decide_eq_true (by kernel_rfl)) (by unfold Func.isWrapper; first | (rw [if_pos (by decide +kernel)]; kernel_rfl) | (rw [if_neg (by decide +kernel)]; exact ⟨rfl, rfl⟩))
    (fun os started H enc _ => others_lifted os started H enc)
end Go.Proofs.Ytadcpdpcpecooaa
