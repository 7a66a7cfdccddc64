/-
  No cell of these rows narrows 'for every input' (looked for: loops, veiled, ifaces, maps, wideKeys, modest, calm, conditions, laid).
  DERIVED. THE GIVEN ROWS OF THIS SEAT. 5 by the template 'for every input the law returns true; each argument reads behind the call as it read before'; 0 by the template 'total and deterministic' (their statements: YticgmjnilpmkpaaTotals.lean).
  GIVEN WITH THE SEED: the statements are not yours to turn. If you find one false, say at which input.
  Laid BY PROGRAM, IN A SANDBOX (cutbox-rows.mjs): the forced cells as the released guide's own fill.sh prints them over the translation b4c77404958ae119… (all of the seat's roots in one cut). By AI agents, Wed Nov 11 2026. No macro, syntax, notation, axiom, sorry.
-/
import Derived.Test.YticgmjnilpmkpaaChecked
import GoSem.Claim
import GoSem.ClaimJoined
import GoSem.ClaimMapViews
import Derived.JoinedTies
import Derived.KernelRfl
namespace Go.Proofs.Yticgmjnilpmkpaa
/- THE CELL 'sum', in the pinned program and in every row, IS THE sha256 OF THE DUMP (.gsa) THAT YticgmjnilpmkpaaProg.lean LOADS. Nothing in Lean hashes anything: it is a label: what it is worth is what the hold of that sum in a sandbox is worth. -/
noncomputable def Try.pinned : Pinned := { name := "yticgmjnilpmkpaa", sum := "b4c77404958ae119dedc8f8b25953dc35091fbfd964b6b473ffe9caa4a77c421", checked := Try.checked }
namespace Rows
def none {H : Type} : Left H := { results := [], args := [] }

/-- 'annuitylaw03.RealMoney': WHATEVER THE INPUT: true; the input reads as it did. -/
def realMoneySpec : ChangeSpec := { name := "realMoney", fn := fun _ => fun
  | [d] => { results := [.lit (.bool true)], args := [d] }
  | _ => none }
def realMoneyRow : OpenClaim := { program := "yticgmjnilpmkpaa", sum := "b4c77404958ae119dedc8f8b25953dc35091fbfd964b6b473ffe9caa4a77c421", func := "annuity/annuitylaw03.RealMoney", spec := "realMoney", inPlace := ["math.Float64bits", "math.Float64frombits"], apart := false }
def RealMoneySaid : Prop := realMoneyRow.holds Try.pinned (OpenSpec.ofChange realMoneySpec)

/-- ITS FALSE NEIGHBOUR: 'it returns false'. Refute it at one input. -/
def realMoneyWrong : ChangeSpec := { name := "realMoney", fn := fun _ => fun
  | [d] => { results := [.lit (.bool false)], args := [d] }
  | _ => none }
def RealMoneyWrongFalsely : Prop := realMoneyRow.holds Try.pinned (OpenSpec.ofChange realMoneyWrong)

/-- 'annuitylaw03.RealEdges': WHATEVER THE INPUT: true; the input reads as it did. -/
def realEdgesSpec : ChangeSpec := { name := "realEdges", fn := fun _ => fun
  | [d1, d2] => { results := [.lit (.bool true)], args := [d1, d2] }
  | _ => none }
def realEdgesRow : OpenClaim := { program := "yticgmjnilpmkpaa", sum := "b4c77404958ae119dedc8f8b25953dc35091fbfd964b6b473ffe9caa4a77c421", func := "annuity/annuitylaw03.RealEdges", spec := "realEdges", inPlace := ["math.Float64frombits", "math.Float64bits"], apart := false }
def RealEdgesSaid : Prop := realEdgesRow.holds Try.pinned (OpenSpec.ofChange realEdgesSpec)

/-- ITS FALSE NEIGHBOUR: 'it returns false'. Refute it at one input. -/
def realEdgesWrong : ChangeSpec := { name := "realEdges", fn := fun _ => fun
  | [d1, d2] => { results := [.lit (.bool false)], args := [d1, d2] }
  | _ => none }
def RealEdgesWrongFalsely : Prop := realEdgesRow.holds Try.pinned (OpenSpec.ofChange realEdgesWrong)

/-- 'annuitylaw03.RealTells': WHATEVER THE INPUT: true; the input reads as it did. -/
def realTellsSpec : ChangeSpec := { name := "realTells", fn := fun _ => fun
  | [d1, d2, d3] => { results := [.lit (.bool true)], args := [d1, d2, d3] }
  | _ => none }
def realTellsRow : OpenClaim := { program := "yticgmjnilpmkpaa", sum := "b4c77404958ae119dedc8f8b25953dc35091fbfd964b6b473ffe9caa4a77c421", func := "annuity/annuitylaw03.RealTells", spec := "realTells", inPlace := ["math.Float64frombits", "math.Float64bits"], apart := false }
def RealTellsSaid : Prop := realTellsRow.holds Try.pinned (OpenSpec.ofChange realTellsSpec)

/-- ITS FALSE NEIGHBOUR: 'it returns false'. Refute it at one input. -/
def realTellsWrong : ChangeSpec := { name := "realTells", fn := fun _ => fun
  | [d1, d2, d3] => { results := [.lit (.bool false)], args := [d1, d2, d3] }
  | _ => none }
def RealTellsWrongFalsely : Prop := realTellsRow.holds Try.pinned (OpenSpec.ofChange realTellsWrong)

/-- 'annuitylaw03.RealBack': WHATEVER THE INPUT: true; the input reads as it did. -/
def realBackSpec : ChangeSpec := { name := "realBack", fn := fun _ => fun
  | [d1, d2, d3] => { results := [.lit (.bool true)], args := [d1, d2, d3] }
  | _ => none }
def realBackRow : OpenClaim := { program := "yticgmjnilpmkpaa", sum := "b4c77404958ae119dedc8f8b25953dc35091fbfd964b6b473ffe9caa4a77c421", func := "annuity/annuitylaw03.RealBack", spec := "realBack", inPlace := ["math.Float64bits", "math.Float64frombits"], apart := false }
def RealBackSaid : Prop := realBackRow.holds Try.pinned (OpenSpec.ofChange realBackSpec)

/-- ITS FALSE NEIGHBOUR: 'it returns false'. Refute it at one input. -/
def realBackWrong : ChangeSpec := { name := "realBack", fn := fun _ => fun
  | [d1, d2, d3] => { results := [.lit (.bool false)], args := [d1, d2, d3] }
  | _ => none }
def RealBackWrongFalsely : Prop := realBackRow.holds Try.pinned (OpenSpec.ofChange realBackWrong)

/-- 'annuitylaw03.RealOrder': WHATEVER THE INPUT: true; the input reads as it did. -/
def realOrderSpec : ChangeSpec := { name := "realOrder", fn := fun _ => fun
  | [d1, d2, d3] => { results := [.lit (.bool true)], args := [d1, d2, d3] }
  | _ => none }
def realOrderRow : OpenClaim := { program := "yticgmjnilpmkpaa", sum := "b4c77404958ae119dedc8f8b25953dc35091fbfd964b6b473ffe9caa4a77c421", func := "annuity/annuitylaw03.RealOrder", spec := "realOrder", inPlace := ["math.Float64bits", "math.Float64frombits", "math.archMin", "math.archMax"], apart := false }
def RealOrderSaid : Prop := realOrderRow.holds Try.pinned (OpenSpec.ofChange realOrderSpec)

/-- ITS FALSE NEIGHBOUR: 'it returns false'. Refute it at one input. -/
def realOrderWrong : ChangeSpec := { name := "realOrder", fn := fun _ => fun
  | [d1, d2, d3] => { results := [.lit (.bool false)], args := [d1, d2, d3] }
  | _ => none }
def RealOrderWrongFalsely : Prop := realOrderRow.holds Try.pinned (OpenSpec.ofChange realOrderWrong)

/- THE SECOND FORM. 'bulk': how many values and letters a reading holds, each counted each time it is reached (what is shared counts as often as it is met; a slice's spare places count too). A statement '..UptoSaid' is the law's where the arguments, and the package variables that the reading takes, are together of bulk at most 1048576: NARROWER than '..Said'. Prove '..Said' where nothing that the law and all that it calls make is longer than what came in: it says more and counts as full. Else prove '..UptoSaid'. A law counts once. -/
mutual
def uptoBulk {H : Type} : DataW H → Nat
  | .lit (.string bytes) => bytes.length + 1
  | .lit _ => 1
  | .nil => 1
  | .ptr d => uptoBulk d + 1
  | .slice elems spare => uptoBulkAll elems + uptoBulkAll spare + 1
  | .agg parts => uptoBulkAll parts + 1
  | .iface _ d => uptoBulk d + 1
  | .map entries => uptoBulkEntries entries + 1
  | .held _ => 1
def uptoBulkAll {H : Type} : List (DataW H) → Nat
  | [] => 0
  | d :: r => uptoBulk d + uptoBulkAll r
def uptoBulkEntries {H : Type} : List (Lit × DataW H) → Nat
  | [] => 0
  | x :: r => uptoBulkEntry x + uptoBulkEntries r
def uptoBulkEntry {H : Type} : Lit × DataW H → Nat
  | (.string bytes, d) => bytes.length + uptoBulk d + 1
  | (_, d) => uptoBulk d + 1
 end
def uptoSmall : (H : Type) → List (DataW H) → Bool := fun _ ds => decide (uptoBulkAll ds ≤ 1048576)
def OpenSpec.upto (s : _root_.Go.ChangeSpec) : _root_.Go.OpenSpec := { _root_.Go.OpenSpec.ofChange s with cond := some uptoSmall }

/-- 'annuitylaw03.RealMoney', WHERE WHAT IT READS IS OF BULK AT MOST 1048576: true; the input reads as it did. -/
def realMoneyUptoRow : OpenClaim := { program := "yticgmjnilpmkpaa", sum := "b4c77404958ae119dedc8f8b25953dc35091fbfd964b6b473ffe9caa4a77c421", func := "annuity/annuitylaw03.RealMoney", spec := "realMoney", inPlace := ["math.Float64bits", "math.Float64frombits"], apart := false, narrowed := true }
def RealMoneyUptoSaid : Prop := realMoneyUptoRow.holds Try.pinned (OpenSpec.upto realMoneySpec)

/-- 'annuitylaw03.RealEdges', WHERE WHAT IT READS IS OF BULK AT MOST 1048576: true; the input reads as it did. -/
def realEdgesUptoRow : OpenClaim := { program := "yticgmjnilpmkpaa", sum := "b4c77404958ae119dedc8f8b25953dc35091fbfd964b6b473ffe9caa4a77c421", func := "annuity/annuitylaw03.RealEdges", spec := "realEdges", inPlace := ["math.Float64frombits", "math.Float64bits"], apart := false, narrowed := true }
def RealEdgesUptoSaid : Prop := realEdgesUptoRow.holds Try.pinned (OpenSpec.upto realEdgesSpec)

/-- 'annuitylaw03.RealTells', WHERE WHAT IT READS IS OF BULK AT MOST 1048576: true; the input reads as it did. -/
def realTellsUptoRow : OpenClaim := { program := "yticgmjnilpmkpaa", sum := "b4c77404958ae119dedc8f8b25953dc35091fbfd964b6b473ffe9caa4a77c421", func := "annuity/annuitylaw03.RealTells", spec := "realTells", inPlace := ["math.Float64frombits", "math.Float64bits"], apart := false, narrowed := true }
def RealTellsUptoSaid : Prop := realTellsUptoRow.holds Try.pinned (OpenSpec.upto realTellsSpec)

/-- 'annuitylaw03.RealBack', WHERE WHAT IT READS IS OF BULK AT MOST 1048576: true; the input reads as it did. -/
def realBackUptoRow : OpenClaim := { program := "yticgmjnilpmkpaa", sum := "b4c77404958ae119dedc8f8b25953dc35091fbfd964b6b473ffe9caa4a77c421", func := "annuity/annuitylaw03.RealBack", spec := "realBack", inPlace := ["math.Float64bits", "math.Float64frombits"], apart := false, narrowed := true }
def RealBackUptoSaid : Prop := realBackUptoRow.holds Try.pinned (OpenSpec.upto realBackSpec)

/-- 'annuitylaw03.RealOrder', WHERE WHAT IT READS IS OF BULK AT MOST 1048576: true; the input reads as it did. -/
def realOrderUptoRow : OpenClaim := { program := "yticgmjnilpmkpaa", sum := "b4c77404958ae119dedc8f8b25953dc35091fbfd964b6b473ffe9caa4a77c421", func := "annuity/annuitylaw03.RealOrder", spec := "realOrder", inPlace := ["math.Float64bits", "math.Float64frombits", "math.archMin", "math.archMax"], apart := false, narrowed := true }
def RealOrderUptoSaid : Prop := realOrderUptoRow.holds Try.pinned (OpenSpec.upto realOrderSpec)

end Rows
end Go.Proofs.Yticgmjnilpmkpaa
