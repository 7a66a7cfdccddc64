/- Whatever is asked of any bytes, one behind the other, and whether they are at their end: the law PackOpens returns true at every text and list of Items, and every argument reads afterwards as before. No condition. -/
import Derived.Test.YthblcoccoffofaaOpw
import Derived.Test.YthblcoccoffofaaIo
namespace Go.Proofs.Ythblcoccoffofaa
open Go.ChangeShapes Go.WideShapes Go.ChangeAt Go.RowKit

set_option maxRecDepth 100000 in
theorem opens_lifted (os : Os) (started : os.Started) (H : Type) (enc : TypeId × Value → H) :
    ReturnsInHanded {} Try.checked os 4 .any (Rows.packOpensSpec.pre6 enc Try.prog Try.f4 Rows.packOpensRow.domain false) (Rows.packOpensSpec.post enc Try.prog Try.f4 false true false false) := by
  refine returnsInHanded_of_change_sized (C := Try.checked) own started (by kernel_rfl) Try.func4
    (ChangeSpec.witness6 (enc := enc) (C := Try.checked) false ⟨#[], #[.string ByteArray.empty, .slice none 0 0], []⟩ 8 (by kernel_rfl) (by kernel_rfl) (by kernel_rfl) (by kernel_rfl)) ?_
  intro W base args ds gs before hval0 hW hcnd hsz0 _
  have hsz : (DataW.weightsEach Try.prog (Try.f4.params.toList ++ Rows.packOpensSpec.plain.varTypes Try.prog) (ds ++ gs)).all (· ≤ reachBytes) = true := hsz0
  have hval : ∀ (j : Nat) t v, Try.f4.params[j]? = some t → args[j]? = some v → Value.okWide Try.prog W .any base t v := hval0
  have hW' := hW
  obtain ⟨p, q, hA0, hV, rfl, hfz, hnd⟩ := hW
  have hA : DataW.TrodAll enc Try.prog W 0 (fun _ => true) true Try.f4.params.toList args.toList ds p := hA0
  obtain ⟨rfl, rfl⟩ := trodVars_none hV
  rw [Try.params4] at hA hval hsz
  obtain ⟨v0, v1, d0, d1, p0, p1, rfl, rfl, rfl, h0, h1⟩ := trodAll_two hA
  obtain ⟨S, rfl⟩ := okWide_string Try.underlying9 (hval 0 9 v0 rfl rfl)
  obtain ⟨fuel, hf⟩ := h0
  obtain ⟨S', hS1, _, hS⟩ := DataW.trod_string Try.underlying9 hf
  simp only [Value.cells, List.cons.injEq, and_true, Value.string.injEq] at hS1
  subst hS1
  obtain ⟨A, cap, xs, rfl, hin, hl, hs, hv, _⟩ := open_items (hval 1 22 v1 rfl rfl) h1 hsz (j := 1) rfl rfl
  refine (Pk.opens_walk S A cap xs W hin hl hs hS).mono fun e W' ⟨he, bel⟩ => ?_
  subst he
  exact ⟨_, rfl, Rw.law_post laidOut rfl rfl Try.underlying4 (fun t ht => reads t (by rw [Try.params4] at ht; simp at ht; rcases ht with rfl | rfl <;> simp)) hW' bel ⟨rfl, rfl, rfl⟩⟩

theorem packOpens_holds : Rows.PackOpensSaid :=
  OpenClaim.holds_of_wide 4 Try.f4 rfl rfl rfl rfl rfl rfl rfl ⟨rfl, rfl, rfl, rfl, rfl⟩ rfl rfl rfl rfl rfl (by kernel_rfl) Try.func4 (by kernel_rfl)
    (of_decide_eq_true (by kernel_rfl)) (by unfold Func.isWrapper; first | (rw [if_pos (by decide +kernel)]; kernel_rfl) | (rw [if_neg (by decide +kernel)]; exact ⟨rfl, rfl⟩))
    (fun os started H enc _ => opens_lifted os started H enc)
end Go.Proofs.Ythblcoccoffofaa
