/- The command of any line, or that there is none: the law ConsoleParses returns true at every line, where the listed tables and variables hold what their text lays (the card ties that), and its arguments read afterwards as before. -/
import Derived.Test.YtkcjgmicoifhcaaGreatDoorCr
import Derived.Test.YtkcjgmicoifhcaaGreatDoorW6
import Derived.Test.YtkcjgmicoifhcaaGreatDoorCards
import Derived.Test.YtkcjgmicoifhcaaGreatDoorTie
import Derived.SevenTiedAt
namespace Go.Proofs.YtkcjgmicoifhcaaGreatDoor
open Go.ChangeShapes Go.WideShapes Go.ChangeAt Go.RowKit
open Go.ChangeMaps (open_string)

set_option maxRecDepth 100000 in
set_option maxHeartbeats 1000000 in
theorem consoleParses_lifted (os : Os) (started : os.Started) (H : Type) (enc : TypeId × Value → H) :
    ReturnsInHanded {} Tryz.checked os 6 .any (fun w args => (Rows.consoleParsesSpec.pre enc Tryz.prog Tryz.f6 Rows.consoleParsesRow.domain false w args ∧ laidMet Tryz.prog Rows.consoleParsesRow.laid w) ∧ sizedMet enc Tryz.prog Tryz.f6 (OpenSpec.ofChange Rows.consoleParsesSpec) false w args)
      (Rows.consoleParsesSpec.post enc Tryz.prog Tryz.f6 false true false false) := by
  refine handed_at started (by kernel_rfl) Tryz.func6
    (ChangeSpec.witness_at (enc := enc) (C := Tryz.checked) (os := os) (X := fun w _ => laidMet Tryz.prog Rows.consoleParsesRow.laid w) false (laidWorld os) #[.string ByteArray.empty] 8 rfl (by kernel_rfl) (by kernel_rfl) (by kernel_rfl) (by kernel_rfl) (by kernel_rfl) (laid_met os _)) ?_
  intro W base args ds gs before hG hL hval0 hW
  have hval : ∀ (j : Nat) t v, Tryz.f6.params[j]? = some t → args[j]? = some v → Value.okWide Tryz.prog W .any base t v := hval0
  have hW' := hW
  obtain ⟨p, q, hA0, hV, rfl, hfz, hnd⟩ := hW
  have hA : DataW.TrodAll enc Tryz.prog W 0 (fun _ => true) true Tryz.f6.params.toList args.toList ds p := hA0
  obtain ⟨rfl, rfl⟩ := trodVars_none hV
  rw [Tryz.params6] at hA hval
  obtain ⟨v0, d0, rfl, rfl, h0⟩ := trodAll_one hA
  obtain ⟨s, rfl, _⟩ := open_string Tryz.underlying9 (hval 0 9 v0 rfl rfl) h0
  have hs : s = Vw.str s.data.toList := by cases s; rfl
  rw [hs] at *
  refine (Cn.parses_walk s.data.toList W hG (four_of hL)).mono fun r W' ⟨he, bel⟩ => ?_
  subst he
  exact ⟨_, rfl, Rw.law_post laidOut rfl rfl Tryz.underlying4 (fun t ht => readsV t (by rw [Tryz.params6] at ht; simp at ht; subst ht; simp)) hW' bel ⟨rfl, rfl, rfl⟩⟩
theorem consoleParses_holds : Rows.ConsoleParsesSaid :=
  OpenClaim.holds_of_wide 6 Tryz.f6 rfl rfl rfl rfl rfl rfl rfl ⟨rfl, rfl, rfl, rfl, rfl⟩ rfl rfl rfl rfl rfl (by kernel_rfl) Tryz.func6 (by kernel_rfl)
    (of_decide_eq_true (by kernel_rfl)) (by unfold Func.isWrapper; first | (rw [if_pos (by decide +kernel)]; kernel_rfl) | (rw [if_neg (by decide +kernel)]; exact ⟨rfl, rfl⟩))
    (fun os started H enc _ => consoleParses_lifted os started H enc)
/-- The tied card. -/
theorem consoleParses_card_holds : Rows.ConsoleParsesCardSaid :=
  Claim7.holds_tied_plain_at .later [] [.data, .data, .data, .data, .sentinel, .sentinel, .widerDeep, .pinned] true Rows.consoleParsesCard.stood.harness true
    consoleParses_holds (fun _ h => by cases h) (by kernel_rfl) (fun _ h => by cases h) consoleParses_row_tie rfl ⟨rfl, rfl⟩ (by kernel_rfl) rfl
    (fun f fn hf hfn => by
      obtain rfl : f = 6 := Option.some.inj ((show Tryz.prog.funcNamed "annuity/annuitylaw30.ConsoleParses" = some 6 by kernel_rfl).symm.trans hf) |>.symm
      obtain rfl : fn = Tryz.f6 := (Option.some.inj (Tryz.func6.symm.trans hfn)).symm
      exact ⟨by kernel_rfl, fun j t ht => by
        rw [Tryz.params6] at ht
        match j, ht with
        | 0, ht => obtain rfl := Option.some.inj ht; exact (show Tryz.prog.wantsStandIn 9 = false by kernel_rfl)
        | j + 1, ht => simp at ht⟩)
    (by kernel_rfl)
end Go.Proofs.YtkcjgmicoifhcaaGreatDoor
