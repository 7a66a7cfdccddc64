/- A key is any number below 2 to the 32, without noughts ahead: the law ConsoleKeys returns true at every two keys, where the listed tables and variables hold what their text lays (the card ties that), and its arguments read afterwards as before. -/
import Derived.Test.YtkcjgmicoifhcaaGreatDoorCr
import Derived.Test.YtkcjgmicoifhcaaGreatDoorW5
import Derived.Test.YtkcjgmicoifhcaaGreatDoorCards
import Derived.Test.YtkcjgmicoifhcaaGreatDoorTie
import Derived.SevenTiedAt
namespace Go.Proofs.YtkcjgmicoifhcaaGreatDoor
open Go.ChangeShapes Go.WideShapes Go.ChangeAt Go.RowKit
open Go.ChangeMaps (open_string)

set_option maxRecDepth 100000 in
set_option maxHeartbeats 1000000 in
theorem consoleKeys_lifted (os : Os) (started : os.Started) (H : Type) (enc : TypeId × Value → H) :
    ReturnsInHanded {} Tryz.checked os 5 .any (fun w args => (Rows.consoleKeysSpec.pre enc Tryz.prog Tryz.f5 Rows.consoleKeysRow.domain false w args ∧ laidMet Tryz.prog Rows.consoleKeysRow.laid w) ∧ sizedMet enc Tryz.prog Tryz.f5 (OpenSpec.ofChange Rows.consoleKeysSpec) false w args)
      (Rows.consoleKeysSpec.post enc Tryz.prog Tryz.f5 false true false false) := by
  refine handed_at started (by kernel_rfl) Tryz.func5
    (ChangeSpec.witness_at (enc := enc) (C := Tryz.checked) (os := os) (X := fun w _ => laidMet Tryz.prog Rows.consoleKeysRow.laid w) false (laidWorld os) #[.int .u32 0, .int .u32 0] 8 rfl (by kernel_rfl) (by kernel_rfl) (by kernel_rfl) (by kernel_rfl) (by kernel_rfl) (laid_met os _)) ?_
  intro W base args ds gs before hG hL hval0 hW
  have hval : ∀ (j : Nat) t v, Tryz.f5.params[j]? = some t → args[j]? = some v → Value.okWide Tryz.prog W .any base t v := hval0
  have hW' := hW
  obtain ⟨p, q, hA0, hV, rfl, hfz, hnd⟩ := hW
  have hA : DataW.TrodAll enc Tryz.prog W 0 (fun _ => true) true Tryz.f5.params.toList args.toList ds p := hA0
  obtain ⟨rfl, rfl⟩ := trodVars_none hV
  rw [Tryz.params5] at hA hval
  obtain ⟨v0, v1, d0, d1, p0, p1, rfl, rfl, rfl, h0, h1⟩ := trodAll_two hA
  obtain ⟨x, rfl, _, _, hx⟩ := open_int Tryz.underlying22 (hval 0 22 v0 rfl rfl) h0
  obtain ⟨y, rfl, _, _, hy⟩ := open_int Tryz.underlying22 (hval 1 22 v1 rfl rfl) h1
  have bx := bounds_u32 hx
  have byy := bounds_u32 hy
  refine (Cn.keys_walk x y (by omega) (by omega) W hG (four_of hL)).mono fun r W' ⟨he, bel⟩ => ?_
  subst he
  exact ⟨_, rfl, Rw.law_post laidOut rfl rfl Tryz.underlying4 (fun t ht => readsV t (by rw [Tryz.params5] at ht; simp at ht; subst ht; simp)) hW' bel ⟨rfl, rfl, rfl⟩⟩
theorem consoleKeys_holds : Rows.ConsoleKeysSaid :=
  OpenClaim.holds_of_wide 5 Tryz.f5 rfl rfl rfl rfl rfl rfl rfl ⟨rfl, rfl, rfl, rfl, rfl⟩ rfl rfl rfl rfl rfl (by kernel_rfl) Tryz.func5 (by kernel_rfl)
    (of_decide_eq_true (by kernel_rfl)) (by unfold Func.isWrapper; first | (rw [if_pos (by decide +kernel)]; kernel_rfl) | (rw [if_neg (by decide +kernel)]; exact ⟨rfl, rfl⟩))
    (fun os started H enc _ => consoleKeys_lifted os started H enc)
/-- The tied card. -/
theorem consoleKeys_card_holds : Rows.ConsoleKeysCardSaid :=
  Claim7.holds_tied_plain_at .later [] [.data, .data, .data, .data, .sentinel, .sentinel, .widerDeep, .pinned] true Rows.consoleKeysCard.stood.harness true
    consoleKeys_holds (fun _ h => by cases h) (by kernel_rfl) (fun _ h => by cases h) consoleKeys_row_tie rfl ⟨rfl, rfl⟩ (by kernel_rfl) rfl
    (fun f fn hf hfn => by
      obtain rfl : f = 5 := Option.some.inj ((show Tryz.prog.funcNamed "annuity/annuitylaw30.ConsoleKeys" = some 5 by kernel_rfl).symm.trans hf) |>.symm
      obtain rfl : fn = Tryz.f5 := (Option.some.inj (Tryz.func5.symm.trans hfn)).symm
      exact ⟨by kernel_rfl, fun j t ht => by
        rw [Tryz.params5] at ht
        match j, ht with
        | 0, ht => obtain rfl := Option.some.inj ht; exact (show Tryz.prog.wantsStandIn 22 = false by kernel_rfl)
        | 1, ht => obtain rfl := Option.some.inj ht; exact (show Tryz.prog.wantsStandIn 22 = false by kernel_rfl)
        | j + 2, ht => simp at ht⟩)
    (by kernel_rfl)
end Go.Proofs.YtkcjgmicoifhcaaGreatDoor
