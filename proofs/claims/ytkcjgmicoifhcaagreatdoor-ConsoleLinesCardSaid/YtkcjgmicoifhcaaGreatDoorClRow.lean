/- The line of any command, or that it has none: the law ConsoleLines returns true at every command, where the listed tables and variables hold what their text lays (the card ties that), and its arguments read afterwards as before. -/
import Derived.Test.YtkcjgmicoifhcaaGreatDoorCr
import Derived.Test.YtkcjgmicoifhcaaGreatDoorW7
import Derived.Test.YtkcjgmicoifhcaaGreatDoorCards
import Derived.Test.YtkcjgmicoifhcaaGreatDoorTie
import Derived.SevenTiedAt
namespace Go.Proofs.YtkcjgmicoifhcaaGreatDoor
open Go.ChangeShapes Go.WideShapes Go.ChangeAt Go.RowKit
open Go.ChangeMaps (open_string)

set_option maxRecDepth 100000 in
set_option maxHeartbeats 1000000 in
theorem consoleLines_lifted (os : Os) (started : os.Started) (H : Type) (enc : TypeId × Value → H) :
    ReturnsInHanded {} Tryz.checked os 7 .any (fun w args => (Rows.consoleLinesSpec.pre enc Tryz.prog Tryz.f7 Rows.consoleLinesRow.domain false w args ∧ laidMet Tryz.prog Rows.consoleLinesRow.laid w) ∧ sizedMet enc Tryz.prog Tryz.f7 (OpenSpec.ofChange Rows.consoleLinesSpec) false w args)
      (Rows.consoleLinesSpec.post enc Tryz.prog Tryz.f7 false true false false) := by
  refine handed_at started (by kernel_rfl) Tryz.func7
    (ChangeSpec.witness_at (enc := enc) (C := Tryz.checked) (os := os) (X := fun w _ => laidMet Tryz.prog Rows.consoleLinesRow.laid w) false (laidWorld os) #[.agg #[.bool false, .int .u32 0, .int .i64 0, .int .i64 0, .int .u32 0, .int .i64 0, .int .i64 0, .float .f64 0, .float .f64 0, .bool false, .int .i64 0, .int .i64 0, .int .i64 0, .int .u32 0]] 8 rfl (by kernel_rfl) (by kernel_rfl) (by kernel_rfl) (by kernel_rfl) (by kernel_rfl) (laid_met os _)) ?_
  intro W base args ds gs before hG hL hval0 hW
  have hval : ∀ (j : Nat) t v, Tryz.f7.params[j]? = some t → args[j]? = some v → Value.okWide Tryz.prog W .any base t v := hval0
  have hW' := hW
  obtain ⟨p, q, hA0, hV, rfl, hfz, hnd⟩ := hW
  have hA : DataW.TrodAll enc Tryz.prog W 0 (fun _ => true) true Tryz.f7.params.toList args.toList ds p := hA0
  obtain ⟨rfl, rfl⟩ := trodVars_none hV
  rw [Tryz.params7] at hA hval
  obtain ⟨v0, d0, rfl, rfl, h0⟩ := trodAll_one hA
  obtain ⟨c, rfl, oc⟩ := open_command (hval 0 27 v0 rfl rfl) h0
  have hfit : Cn.FitC c := ⟨oc.key, oc.of, oc.e.rate, oc.e.income⟩
  refine (Cn.lines_walk c hfit W hG (four_of hL)).mono fun r W' ⟨he, bel⟩ => ?_
  subst he
  exact ⟨_, rfl, Rw.law_post laidOut rfl rfl Tryz.underlying4 (fun t ht => readsV t (by rw [Tryz.params7] at ht; simp at ht; subst ht; simp)) hW' bel ⟨rfl, rfl, rfl⟩⟩
theorem consoleLines_holds : Rows.ConsoleLinesSaid :=
  OpenClaim.holds_of_wide 7 Tryz.f7 rfl rfl rfl rfl rfl rfl rfl ⟨rfl, rfl, rfl, rfl, rfl⟩ rfl rfl rfl rfl rfl (by kernel_rfl) Tryz.func7 (by kernel_rfl)
    (of_decide_eq_true (by kernel_rfl)) (by unfold Func.isWrapper; first | (rw [if_pos (by decide +kernel)]; kernel_rfl) | (rw [if_neg (by decide +kernel)]; exact ⟨rfl, rfl⟩))
    (fun os started H enc _ => consoleLines_lifted os started H enc)
/-- The tied card. -/
theorem consoleLines_card_holds : Rows.ConsoleLinesCardSaid :=
  Claim7.holds_tied_plain_at .later [] [.data, .data, .data, .data, .sentinel, .sentinel, .widerDeep, .pinned] true Rows.consoleLinesCard.stood.harness true
    consoleLines_holds (fun _ h => by cases h) (by kernel_rfl) (fun _ h => by cases h) consoleLines_row_tie rfl ⟨rfl, rfl⟩ (by kernel_rfl) rfl
    (fun f fn hf hfn => by
      obtain rfl : f = 7 := Option.some.inj ((show Tryz.prog.funcNamed "annuity/annuitylaw30.ConsoleLines" = some 7 by kernel_rfl).symm.trans hf) |>.symm
      obtain rfl : fn = Tryz.f7 := (Option.some.inj (Tryz.func7.symm.trans hfn)).symm
      exact ⟨by kernel_rfl, fun j t ht => by
        rw [Tryz.params7] at ht
        match j, ht with
        | 0, ht => obtain rfl := Option.some.inj ht; exact (show Tryz.prog.wantsStandIn 27 = false by kernel_rfl)
        | j + 1, ht => simp at ht⟩)
    (by kernel_rfl)
end Go.Proofs.YtkcjgmicoifhcaaGreatDoor
