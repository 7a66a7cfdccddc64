/- The reference's dec. -/
import Derived.Test.YtkcjgmicoifhcaaGreatDoorM4
import Derived.Test.YtkcjgmicoifhcaaGreatDoorM6
namespace Go.Proofs.YtkcjgmicoifhcaaGreatDoor.Cn
open Go.RowKit Go.Sort Go.Lib Go.Shelf
open Vw (Tab str Blk)
attribute [local go_sem ↓] Go.wp_at_zero Go.wp_at_succ

set_option maxRecDepth 20000 in
theorem rdec_calls (n : Int) (h0 : -9223372036854775808 ≤ n) (h1 : n ≤ 9223372036854775807) (w : World) :
    Calls Tryz.prog 29 #[.int .i64 n] w fun e w' => e = .returned (.string (str (itoa n))) ∧ w' = w := by
  have HN := Lib.hid (Vw.rint_calls n h0 h1 w)
  go_enter Tryz.func29, Tryz.ntmps29
  go_wp2_with fail
  refine HN.out.mono ?_
  rintro e w1 ⟨rfl, rfl⟩
  go_wp2_with fail
  go_ret
  exact ⟨rfl, rfl⟩
end Go.Proofs.YtkcjgmicoifhcaaGreatDoor.Cn
