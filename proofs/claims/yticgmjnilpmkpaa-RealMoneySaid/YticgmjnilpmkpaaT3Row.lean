/- The cents and the rate of every float64, or that there are none: the law RealMoney returns true at every float64, and its argument reads afterwards as before. No condition. -/
import Derived.Test.YticgmjnilpmkpaaTa
import Derived.Test.YticgmjnilpmkpaaH1
namespace Go.Proofs.Yticgmjnilpmkpaa
open Go.ChangeShapes Go.WideShapes Go.ChangeAt Go.RowKit

theorem readsM (t : TypeId) (h : t = 22) : Try.prog.readableRec t = true ∧ t < Try.prog.types.size := by
  rcases h with rfl; exact ⟨by kernel_rfl, of_decide_eq_true (by kernel_rfl)⟩
set_option maxRecDepth 100000 in
set_option maxHeartbeats 1000000 in
theorem money_lifted (os : Os) (started : os.Started) (H : Type) (enc : TypeId × Value → H) :
    ReturnsInHanded {} Try.checked os 3 .any (Rows.realMoneySpec.pre6 enc Try.prog Try.f3 Rows.realMoneyRow.domain false) (Rows.realMoneySpec.post enc Try.prog Try.f3 false true false false) := by
  refine returnsInHanded_of_change_sized (C := Try.checked) own started (by kernel_rfl) Try.func3
    (ChangeSpec.witness6 (enc := enc) (C := Try.checked) false ⟨#[], #[.float .f64 0], []⟩ 8 (by kernel_rfl) (by kernel_rfl) (by kernel_rfl) (by kernel_rfl)) ?_
  intro W base args ds gs before hval0 hW hcnd hsz0 _
  have hval : ∀ (j : Nat) t v, Try.f3.params[j]? = some t → args[j]? = some v → Value.okWide Try.prog W .any base t v := hval0
  have hW' := hW
  obtain ⟨p, q, hA0, hV, rfl, hfz, hnd⟩ := hW
  have hA : DataW.TrodAll enc Try.prog W 0 (fun _ => true) true Try.f3.params.toList args.toList ds p := hA0
  obtain ⟨rfl, rfl⟩ := trodVars_none hV
  rw [Try.params3] at hA hval
  obtain ⟨v1, d1, rfl, rfl, h1⟩ := trodAll_one hA
  obtain ⟨x, rfl, _, _, hwf⟩ := open_float Try.underlying22 (hval 0 22 v1 rfl rfl) h1
  have hx : x < 18446744073709551616 := of_decide_eq_true hwf
  refine (Re.money_walk x W hx).mono fun e W' ⟨he, bel⟩ => ?_
  subst he
  exact ⟨_, rfl, Rw.law_post laidOut rfl rfl Try.underlying4 (fun t ht => readsM t (by rw [Try.params3] at ht; simp at ht; exact ht)) hW' bel ⟨rfl, rfl, rfl⟩⟩

theorem realMoney_holds : Rows.RealMoneySaid :=
  OpenClaim.holds_of_wide 3 Try.f3 rfl rfl rfl rfl rfl rfl rfl ⟨rfl, rfl, rfl, rfl, rfl⟩ rfl rfl rfl rfl rfl (by kernel_rfl) Try.func3 (by kernel_rfl)
    (of_decide_eq_true (by kernel_rfl)) (by unfold Func.isWrapper; first | (rw [if_pos (by decide +kernel)]; kernel_rfl) | (rw [if_neg (by decide +kernel)]; exact ⟨rfl, rfl⟩))
    (fun os started H enc _ => money_lifted os started H enc)
end Go.Proofs.Yticgmjnilpmkpaa
