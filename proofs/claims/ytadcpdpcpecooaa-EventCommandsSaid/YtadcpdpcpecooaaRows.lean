/-
  No cell of these rows narrows 'for every input' (looked for: loops, veiled, ifaces, maps, wideKeys, modest, calm, conditions, laid).
  DERIVED. THE GIVEN ROWS OF THIS SEAT. 5 by the template 'for every input the law returns true; each argument reads behind the call as it read before'; 0 by the template 'total and deterministic' (their statements: YtadcpdpcpecooaaTotals.lean).
  GIVEN WITH THE SEED: the statements are not yours to turn. If you find one false, say at which input.
  Laid BY PROGRAM, IN A SANDBOX (cutbox-rows.mjs): the forced cells as the released guide's own fill.sh prints them over the translation e8629c0d823da663… (all of the seat's roots in one cut). By AI agents, Wed Nov 11 2026. No macro, syntax, notation, axiom, sorry.
-/
import Derived.Test.YtadcpdpcpecooaaChecked
import GoSem.Claim
import GoSem.ClaimJoined
import GoSem.ClaimMapViews
import Derived.JoinedTies
import Derived.KernelRfl
namespace Go.Proofs.Ytadcpdpcpecooaa
/- THE CELL 'sum', in the pinned program and in every row, IS THE sha256 OF THE DUMP (.gsa) THAT YtadcpdpcpecooaaProg.lean LOADS. Nothing in Lean hashes anything: it is a label: what it is worth is what the hold of that sum in a sandbox is worth. -/
noncomputable def Try.pinned : Pinned := { name := "ytadcpdpcpecooaa", sum := "e8629c0d823da663f876adb538fd04a6a1f7b95682acf74207436b94cb74c111", checked := Try.checked }
namespace Rows
def none {H : Type} : Left H := { results := [], args := [] }

/-- 'annuitylaw09.EventSizes': WHATEVER THE INPUT: true; the input reads as it did. -/
def eventSizesSpec : ChangeSpec := { name := "eventSizes", fn := fun _ => fun
  | [d1, d2] => { results := [.lit (.bool true)], args := [d1, d2] }
  | _ => none }
def eventSizesRow : OpenClaim := { program := "ytadcpdpcpecooaa", sum := "e8629c0d823da663f876adb538fd04a6a1f7b95682acf74207436b94cb74c111", func := "annuity/annuitylaw09.EventSizes", spec := "eventSizes", inPlace := ["math.Float64bits", "math.Float64frombits"], unfollowed := true, recurses := true, apart := false }
def EventSizesSaid : Prop := eventSizesRow.holds Try.pinned (OpenSpec.ofChange eventSizesSpec)

/-- ITS FALSE NEIGHBOUR: 'it returns false'. Refute it at one input. -/
def eventSizesWrong : ChangeSpec := { name := "eventSizes", fn := fun _ => fun
  | [d1, d2] => { results := [.lit (.bool false)], args := [d1, d2] }
  | _ => none }
def EventSizesWrongFalsely : Prop := eventSizesRow.holds Try.pinned (OpenSpec.ofChange eventSizesWrong)

/-- 'annuitylaw09.EventCodes': WHATEVER THE INPUT: true; the input reads as it did. -/
def eventCodesSpec : ChangeSpec := { name := "eventCodes", fn := fun _ => fun
  | [d1, d2, d3] => { results := [.lit (.bool true)], args := [d1, d2, d3] }
  | _ => none }
def eventCodesRow : OpenClaim := { program := "ytadcpdpcpecooaa", sum := "e8629c0d823da663f876adb538fd04a6a1f7b95682acf74207436b94cb74c111", func := "annuity/annuitylaw09.EventCodes", spec := "eventCodes", inPlace := ["math.Float64bits", "math.Float64frombits"], unfollowed := true, recurses := true, apart := false }
def EventCodesSaid : Prop := eventCodesRow.holds Try.pinned (OpenSpec.ofChange eventCodesSpec)

/-- ITS FALSE NEIGHBOUR: 'it returns false'. Refute it at one input. -/
def eventCodesWrong : ChangeSpec := { name := "eventCodes", fn := fun _ => fun
  | [d1, d2, d3] => { results := [.lit (.bool false)], args := [d1, d2, d3] }
  | _ => none }
def EventCodesWrongFalsely : Prop := eventCodesRow.holds Try.pinned (OpenSpec.ofChange eventCodesWrong)

/-- 'annuitylaw09.EventOthers': WHATEVER THE INPUT: true; the input reads as it did. -/
def eventOthersSpec : ChangeSpec := { name := "eventOthers", fn := fun _ => fun
  | [d1, d2] => { results := [.lit (.bool true)], args := [d1, d2] }
  | _ => none }
def eventOthersRow : OpenClaim := { program := "ytadcpdpcpecooaa", sum := "e8629c0d823da663f876adb538fd04a6a1f7b95682acf74207436b94cb74c111", func := "annuity/annuitylaw09.EventOthers", spec := "eventOthers", inPlace := ["math.Float64bits", "math.Float64frombits"], unfollowed := true, recurses := true, apart := false }
def EventOthersSaid : Prop := eventOthersRow.holds Try.pinned (OpenSpec.ofChange eventOthersSpec)

/-- ITS FALSE NEIGHBOUR: 'it returns false'. Refute it at one input. -/
def eventOthersWrong : ChangeSpec := { name := "eventOthers", fn := fun _ => fun
  | [d1, d2] => { results := [.lit (.bool false)], args := [d1, d2] }
  | _ => none }
def EventOthersWrongFalsely : Prop := eventOthersRow.holds Try.pinned (OpenSpec.ofChange eventOthersWrong)

/-- 'annuitylaw09.EventBack': WHATEVER THE INPUT: true; the input reads as it did. -/
def eventBackSpec : ChangeSpec := { name := "eventBack", fn := fun _ => fun
  | [d1, d2] => { results := [.lit (.bool true)], args := [d1, d2] }
  | _ => none }
def eventBackRow : OpenClaim := { program := "ytadcpdpcpecooaa", sum := "e8629c0d823da663f876adb538fd04a6a1f7b95682acf74207436b94cb74c111", func := "annuity/annuitylaw09.EventBack", spec := "eventBack", inPlace := ["math.Float64bits", "math.Float64frombits"], unfollowed := true, recurses := true, apart := false }
def EventBackSaid : Prop := eventBackRow.holds Try.pinned (OpenSpec.ofChange eventBackSpec)

/-- ITS FALSE NEIGHBOUR: 'it returns false'. Refute it at one input. -/
def eventBackWrong : ChangeSpec := { name := "eventBack", fn := fun _ => fun
  | [d1, d2] => { results := [.lit (.bool false)], args := [d1, d2] }
  | _ => none }
def EventBackWrongFalsely : Prop := eventBackRow.holds Try.pinned (OpenSpec.ofChange eventBackWrong)

/-- 'annuitylaw09.EventCommands': WHATEVER THE INPUT: true; the input reads as it did. -/
def eventCommandsSpec : ChangeSpec := { name := "eventCommands", fn := fun _ => fun
  | [d1, d2] => { results := [.lit (.bool true)], args := [d1, d2] }
  | _ => none }
def eventCommandsRow : OpenClaim := { program := "ytadcpdpcpecooaa", sum := "e8629c0d823da663f876adb538fd04a6a1f7b95682acf74207436b94cb74c111", func := "annuity/annuitylaw09.EventCommands", spec := "eventCommands", inPlace := ["math.Float64bits", "math.Float64frombits"], unfollowed := true, recurses := true, apart := false }
def EventCommandsSaid : Prop := eventCommandsRow.holds Try.pinned (OpenSpec.ofChange eventCommandsSpec)

/-- ITS FALSE NEIGHBOUR: 'it returns false'. Refute it at one input. -/
def eventCommandsWrong : ChangeSpec := { name := "eventCommands", fn := fun _ => fun
  | [d1, d2] => { results := [.lit (.bool false)], args := [d1, d2] }
  | _ => none }
def EventCommandsWrongFalsely : Prop := eventCommandsRow.holds Try.pinned (OpenSpec.ofChange eventCommandsWrong)

/- THE SECOND FORM. 'bulk': how many values and letters a reading holds, each counted each time it is reached (what is shared counts as often as it is met; a slice's spare places count too). A statement '..UptoSaid' is the law's where the arguments, and the package variables that the reading takes, are together of bulk at most 1048576: NARROWER than '..Said'. Prove '..Said' where nothing that the law and all that it calls make is longer than what came in: it says more and counts as full. Else prove '..UptoSaid'. A law counts once. -/
mutual
def uptoBulk {H : Type} : DataW H → Nat
  | .lit (.string bytes) => bytes.length + 1
  | .lit _ => 1
  | .nil => 1
  | .ptr d => uptoBulk d + 1
  | .slice elems spare => uptoBulkAll elems + uptoBulkAll spare + 1
  | .agg parts => uptoBulkAll parts + 1
  | .iface _ d => uptoBulk d + 1
  | .map entries => uptoBulkEntries entries + 1
  | .held _ => 1
def uptoBulkAll {H : Type} : List (DataW H) → Nat
  | [] => 0
  | d :: r => uptoBulk d + uptoBulkAll r
def uptoBulkEntries {H : Type} : List (Lit × DataW H) → Nat
  | [] => 0
  | x :: r => uptoBulkEntry x + uptoBulkEntries r
def uptoBulkEntry {H : Type} : Lit × DataW H → Nat
  | (.string bytes, d) => bytes.length + uptoBulk d + 1
  | (_, d) => uptoBulk d + 1
 end
def uptoSmall : (H : Type) → List (DataW H) → Bool := fun _ ds => decide (uptoBulkAll ds ≤ 1048576)
def OpenSpec.upto (s : _root_.Go.ChangeSpec) : _root_.Go.OpenSpec := { _root_.Go.OpenSpec.ofChange s with cond := some uptoSmall }

/-- 'annuitylaw09.EventSizes', WHERE WHAT IT READS IS OF BULK AT MOST 1048576: true; the input reads as it did. -/
def eventSizesUptoRow : OpenClaim := { program := "ytadcpdpcpecooaa", sum := "e8629c0d823da663f876adb538fd04a6a1f7b95682acf74207436b94cb74c111", func := "annuity/annuitylaw09.EventSizes", spec := "eventSizes", inPlace := ["math.Float64bits", "math.Float64frombits"], unfollowed := true, recurses := true, apart := false, narrowed := true }
def EventSizesUptoSaid : Prop := eventSizesUptoRow.holds Try.pinned (OpenSpec.upto eventSizesSpec)

/-- 'annuitylaw09.EventCodes', WHERE WHAT IT READS IS OF BULK AT MOST 1048576: true; the input reads as it did. -/
def eventCodesUptoRow : OpenClaim := { program := "ytadcpdpcpecooaa", sum := "e8629c0d823da663f876adb538fd04a6a1f7b95682acf74207436b94cb74c111", func := "annuity/annuitylaw09.EventCodes", spec := "eventCodes", inPlace := ["math.Float64bits", "math.Float64frombits"], unfollowed := true, recurses := true, apart := false, narrowed := true }
def EventCodesUptoSaid : Prop := eventCodesUptoRow.holds Try.pinned (OpenSpec.upto eventCodesSpec)

/-- 'annuitylaw09.EventOthers', WHERE WHAT IT READS IS OF BULK AT MOST 1048576: true; the input reads as it did. -/
def eventOthersUptoRow : OpenClaim := { program := "ytadcpdpcpecooaa", sum := "e8629c0d823da663f876adb538fd04a6a1f7b95682acf74207436b94cb74c111", func := "annuity/annuitylaw09.EventOthers", spec := "eventOthers", inPlace := ["math.Float64bits", "math.Float64frombits"], unfollowed := true, recurses := true, apart := false, narrowed := true }
def EventOthersUptoSaid : Prop := eventOthersUptoRow.holds Try.pinned (OpenSpec.upto eventOthersSpec)

/-- 'annuitylaw09.EventBack', WHERE WHAT IT READS IS OF BULK AT MOST 1048576: true; the input reads as it did. -/
def eventBackUptoRow : OpenClaim := { program := "ytadcpdpcpecooaa", sum := "e8629c0d823da663f876adb538fd04a6a1f7b95682acf74207436b94cb74c111", func := "annuity/annuitylaw09.EventBack", spec := "eventBack", inPlace := ["math.Float64bits", "math.Float64frombits"], unfollowed := true, recurses := true, apart := false, narrowed := true }
def EventBackUptoSaid : Prop := eventBackUptoRow.holds Try.pinned (OpenSpec.upto eventBackSpec)

/-- 'annuitylaw09.EventCommands', WHERE WHAT IT READS IS OF BULK AT MOST 1048576: true; the input reads as it did. -/
def eventCommandsUptoRow : OpenClaim := { program := "ytadcpdpcpecooaa", sum := "e8629c0d823da663f876adb538fd04a6a1f7b95682acf74207436b94cb74c111", func := "annuity/annuitylaw09.EventCommands", spec := "eventCommands", inPlace := ["math.Float64bits", "math.Float64frombits"], unfollowed := true, recurses := true, apart := false, narrowed := true }
def EventCommandsUptoSaid : Prop := eventCommandsUptoRow.holds Try.pinned (OpenSpec.upto eventCommandsSpec)

end Rows
end Go.Proofs.Ytadcpdpcpecooaa
