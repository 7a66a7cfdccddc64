/- A word more, a word fewer, a blank ahead or behind make a line none: the law ConsoleWords returns true at every command and every number, where the listed tables and variables hold what their text lays (the card ties that), and its arguments read afterwards as before. -/
import Derived.Test.YtkcjgmicoifhcaaGreatDoorCr
import Derived.Test.YtkcjgmicoifhcaaGreatDoorW4
import Derived.Test.YtkcjgmicoifhcaaGreatDoorCards
import Derived.Test.YtkcjgmicoifhcaaGreatDoorTie
import Derived.SevenTiedAt
namespace Go.Proofs.YtkcjgmicoifhcaaGreatDoor
open Go.ChangeShapes Go.WideShapes Go.ChangeAt Go.RowKit
open Go.ChangeMaps (open_string)

set_option maxRecDepth 100000 in
set_option maxHeartbeats 1000000 in
theorem consoleWords_lifted (os : Os) (started : os.Started) (H : Type) (enc : TypeId × Value → H) :
    ReturnsInHanded {} Tryz.checked os 4 .any (fun w args => (Rows.consoleWordsSpec.pre enc Tryz.prog Tryz.f4 Rows.consoleWordsRow.domain false w args ∧ laidMet Tryz.prog Rows.consoleWordsRow.laid w) ∧ sizedMet enc Tryz.prog Tryz.f4 (OpenSpec.ofChange Rows.consoleWordsSpec) false w args)
      (Rows.consoleWordsSpec.post enc Tryz.prog Tryz.f4 false true false false) := by
  refine handed_at started (by kernel_rfl) Tryz.func4
    (ChangeSpec.witness_at (enc := enc) (C := Tryz.checked) (os := os) (X := fun w _ => laidMet Tryz.prog Rows.consoleWordsRow.laid w) false (laidWorld os) #[.agg #[.bool false, .int .u32 0, .int .i64 0, .int .i64 0, .int .u32 0, .int .i64 0, .int .i64 0, .float .f64 0, .float .f64 0, .bool false, .int .i64 0, .int .i64 0, .int .i64 0, .int .u32 0], .int .u8 0] 8 rfl (by kernel_rfl) (by kernel_rfl) (by kernel_rfl) (by kernel_rfl) (by kernel_rfl) (laid_met os _)) ?_
  intro W base args ds gs before hG hL hval0 hW
  have hval : ∀ (j : Nat) t v, Tryz.f4.params[j]? = some t → args[j]? = some v → Value.okWide Tryz.prog W .any base t v := hval0
  have hW' := hW
  obtain ⟨p, q, hA0, hV, rfl, hfz, hnd⟩ := hW
  have hA : DataW.TrodAll enc Tryz.prog W 0 (fun _ => true) true Tryz.f4.params.toList args.toList ds p := hA0
  obtain ⟨rfl, rfl⟩ := trodVars_none hV
  rw [Tryz.params4] at hA hval
  obtain ⟨v0, v1, d0, d1, p0, p1, rfl, rfl, rfl, h0, h1⟩ := trodAll_two hA
  obtain ⟨c, rfl, oc⟩ := open_command (hval 0 27 v0 rfl rfl) h0
  have hfit : Cn.FitC c := ⟨oc.key, oc.of, oc.e.rate, oc.e.income⟩
  obtain ⟨x, rfl, _, _, hx⟩ := open_int Tryz.underlying5 (hval 1 5 v1 rfl rfl) h1
  have bx : 0 ≤ x ∧ x ≤ 255 := by
    have e1 : IntKind.u8.min = 0 := rfl
    have e2 : IntKind.u8.max = 255 := rfl
    simp [Lit.wf, e1, e2] at hx
    omega
  refine (Cn.words_walk c hfit x bx W hG (four_of hL)).mono fun r W' ⟨he, bel⟩ => ?_
  subst he
  exact ⟨_, rfl, Rw.law_post laidOut rfl rfl Tryz.underlying4 (fun t ht => readsV t (by rw [Tryz.params4] at ht; simp at ht; rcases ht with rfl | rfl <;> simp)) hW' bel ⟨rfl, rfl, rfl⟩⟩
theorem consoleWords_holds : Rows.ConsoleWordsSaid :=
  OpenClaim.holds_of_wide 4 Tryz.f4 rfl rfl rfl rfl rfl rfl rfl ⟨rfl, rfl, rfl, rfl, rfl⟩ rfl rfl rfl rfl rfl (by kernel_rfl) Tryz.func4 (by kernel_rfl)
    (of_decide_eq_true (by kernel_rfl)) (by unfold Func.isWrapper; first | (rw [if_pos (by decide +kernel)]; kernel_rfl) | (rw [if_neg (by decide +kernel)]; exact ⟨rfl, rfl⟩))
    (fun os started H enc _ => consoleWords_lifted os started H enc)
/-- The tied card. -/
theorem consoleWords_card_holds : Rows.ConsoleWordsCardSaid :=
  Claim7.holds_tied_plain_at .later [] [.data, .data, .data, .data, .sentinel, .sentinel, .widerDeep, .pinned] true Rows.consoleWordsCard.stood.harness true
    consoleWords_holds (fun _ h => by cases h) (by kernel_rfl) (fun _ h => by cases h) consoleWords_row_tie rfl ⟨rfl, rfl⟩ (by kernel_rfl) rfl
    (fun f fn hf hfn => by
      obtain rfl : f = 4 := Option.some.inj ((show Tryz.prog.funcNamed "annuity/annuitylaw30.ConsoleWords" = some 4 by kernel_rfl).symm.trans hf) |>.symm
      obtain rfl : fn = Tryz.f4 := (Option.some.inj (Tryz.func4.symm.trans hfn)).symm
      exact ⟨by kernel_rfl, fun j t ht => by
        rw [Tryz.params4] at ht
        match j, ht with
        | 0, ht => obtain rfl := Option.some.inj ht; exact (show Tryz.prog.wantsStandIn 27 = false by kernel_rfl)
        | 1, ht => obtain rfl := Option.some.inj ht; exact (show Tryz.prog.wantsStandIn 5 = false by kernel_rfl)
        | j + 2, ht => simp at ht⟩)
    (by kernel_rfl)
end Go.Proofs.YtkcjgmicoifhcaaGreatDoor
