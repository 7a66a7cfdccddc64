/- Of a greater number there is no less, by a greater scale neither; by 100 times the scale it is within 50 of 100 times as much: the law RealOrder returns true at any two float64 and every scale of sixteen bits, and its arguments read afterwards as before. No condition. -/
import Derived.Test.YticgmjnilpmkpaaTa
import Derived.Test.YticgmjnilpmkpaaH8
namespace Go.Proofs.Yticgmjnilpmkpaa
open Go.ChangeShapes Go.WideShapes Go.ChangeAt Go.RowKit

theorem readsO (t : TypeId) (h : t = 22 ∨ t = 34) : Try.prog.readableRec t = true ∧ t < Try.prog.types.size := by
  rcases h with rfl | rfl <;> exact ⟨by kernel_rfl, of_decide_eq_true (by kernel_rfl)⟩
set_option maxRecDepth 100000 in
set_option maxHeartbeats 1000000 in
theorem order_lifted (os : Os) (started : os.Started) (H : Type) (enc : TypeId × Value → H) :
    ReturnsInHanded {} Try.checked os 7 .any (Rows.realOrderSpec.pre6 enc Try.prog Try.f7 Rows.realOrderRow.domain false) (Rows.realOrderSpec.post enc Try.prog Try.f7 false true false false) := by
  refine returnsInHanded_of_change_sized (C := Try.checked) own started (by kernel_rfl) Try.func7
    (ChangeSpec.witness6 (enc := enc) (C := Try.checked) false ⟨#[], #[.float .f64 0, .float .f64 0, .int .u16 0], []⟩ 8 (by kernel_rfl) (by kernel_rfl) (by kernel_rfl) (by kernel_rfl)) ?_
  intro W base args ds gs before hval0 hW hcnd hsz0 _
  have hval : ∀ (j : Nat) t v, Try.f7.params[j]? = some t → args[j]? = some v → Value.okWide Try.prog W .any base t v := hval0
  have hW' := hW
  obtain ⟨p, q, hA0, hV, rfl, hfz, hnd⟩ := hW
  have hA : DataW.TrodAll enc Try.prog W 0 (fun _ => true) true Try.f7.params.toList args.toList ds p := hA0
  obtain ⟨rfl, rfl⟩ := trodVars_none hV
  rw [Try.params7] at hA hval
  obtain ⟨v0, v1, v2, d0, d1, d2, p0, p1, p2, rfl, rfl, rfl, h0, h1, h2⟩ := trodAll_three hA
  obtain ⟨x, rfl, _, _, hwf⟩ := open_float Try.underlying22 (hval 0 22 v0 rfl rfl) h0
  obtain ⟨y, rfl, _, _, hwf2⟩ := open_float Try.underlying22 (hval 1 22 v1 rfl rfl) h1
  obtain ⟨c, rfl, _, _, hwf3⟩ := open_int Try.underlying34 (hval 2 34 v2 rfl rfl) h2
  have hx : x < 18446744073709551616 := of_decide_eq_true hwf
  have hy : y < 18446744073709551616 := of_decide_eq_true hwf2
  have hc : 0 ≤ c ∧ c ≤ 65535 := by
    simp only [Lit.wf, Bool.and_eq_true, decide_eq_true_eq] at hwf3
    exact hwf3
  obtain ⟨n, rfl⟩ : ∃ n : Nat, c = (n : Int) := ⟨c.toNat, by omega⟩
  refine (Re.order_walk x y n W hx hy).mono fun e W' ⟨he, bel⟩ => ?_
  subst he
  exact ⟨_, rfl, Rw.law_post laidOut rfl rfl Try.underlying4 (fun t ht => readsO t (by rw [Try.params7] at ht; simp at ht; rcases ht with rfl | rfl <;> simp)) hW' (by rw [bel]; exact Below.refl _ _) ⟨rfl, rfl, rfl⟩⟩

theorem realOrder_holds : Rows.RealOrderSaid :=
  OpenClaim.holds_of_wide 7 Try.f7 rfl rfl rfl rfl rfl rfl rfl ⟨rfl, rfl, rfl, rfl, rfl⟩ rfl rfl rfl rfl rfl (by kernel_rfl) Try.func7 (by kernel_rfl)
    (of_decide_eq_true (by kernel_rfl)) (by unfold Func.isWrapper; first | (rw [if_pos (by decide +kernel)]; kernel_rfl) | (rw [if_neg (by decide +kernel)]; exact ⟨rfl, rfl⟩))
    (fun os started H enc _ => order_lifted os started H enc)
end Go.Proofs.Yticgmjnilpmkpaa
