/- Contracts for the laws' walks. (Printed by gen_w3.py.) -/
import Derived.Test.YtkcjgmicoifhcaaGreatDoorM13
import Derived.Test.YtkcjgmicoifhcaaGreatDoorM3
namespace Go.Proofs.YtkcjgmicoifhcaaGreatDoor.Cn
open Go.RowKit Go.Sort Go.Lib Go.Shelf
open Vw (Tab str Blk)
open Ev (E C fineC goodE)
attribute [local go_sem ↓] Go.wp_at_zero Go.wp_at_succ

/-- What a walk may call: contracts at a world. -/
structure Cts (w : World) : Prop where
  line : ∀ (c : C), FitC c → ∀ W, Below w.heap.size w W → Calls Tryz.prog 9 #[c.v] W fun e w' => e = .returned (linV c) ∧ Below W.heap.size W w'
  parse : ∀ (l : List UInt8), l.length ≤ 900000 → ∀ W, Below w.heap.size w W → Calls Tryz.prog 10 #[.string (str l)] W fun e w' => e = .returned (parV (cutC 32 l)) ∧ Below W.heap.size W w'
  wakes : ∀ W, Below w.heap.size w W → Calls Tryz.prog 8 #[] W fun e w' => e = .returned (.bool true) ∧ Below W.heap.size W w'
theorem cts_of {w : World} (hg : Gl w) (hT : w.cell? ⟨5, 15, none⟩ = some (.int .u8 4)) : Cts w :=
  ⟨fun c hf W hB => line_calls c hf W (hg.below hB) (cell_below hT hB), fun l hl W hB => parse_calls l hl W (hg.below hB) (cell_below hT hB), fun W hB => wakes_calls W (hg.below hB) (cell_below hT hB)⟩
theorem same_calls_c (c : C) (W : World) : Calls Tryz.prog 11 #[c.v, c.v] W fun r w' => r = .returned (.bool true) ∧ Below W.heap.size W w' := by
  have := Ev.kcmd_calls c c W
  rw [decide_eq_true (rfl : c = c)] at this
  exact this
theorem parV_ok {l : List UInt8} (h : parB (cutC 32 l) = true) : parV (cutC 32 l) = .tuple #[(parC (cutC 32 l)).1.v, .int .i64 0] := (parV_yes _ _ rfl h).symm
end Go.Proofs.YtkcjgmicoifhcaaGreatDoor.Cn
