/- Floats' bits, Abs, IsInf, Good (the program's, the reference's). -/
import Derived.Test.YtadcpdpcpecooaaProg
import Derived.RowKit3
import Derived.WalkKit
import Derived.WalkLawsBesides
import Derived.BigQuiet
import Derived.BigCall
import Derived.Lib.Hide
import Derived.Laws.FloatArith
import Derived.KernelRfl
namespace Go.Proofs.Ytadcpdpcpecooaa.Re
open Go.RowKit

theorem bits_run (b : Nat) (w : World) : (callFunc 46 #[.float .f64 b]).run Try.prog w = .ok (.value (.int .u64 b)) w := by kernel_rfl
theorem frombits_run (n : Int) (w : World) : (callFunc 55 #[.int .u64 n]).run Try.prog w = .ok (.value (.float .f64 n.toNat)) w := by kernel_rfl
def absN (x : Nat) : Nat := (bits .andNot .u64 (x : Int) 9223372036854775808).toNat
set_option maxRecDepth 20000 in
theorem abs_calls (x : Nat) (w : World) : Calls Try.prog 82 #[.float .f64 x] w fun e w' => e = .returned (.float .f64 (absN x)) ∧ w' = w := by
  have h1 := bits_run
  have h2 := frombits_run
  go_enter Try.func82, Try.ntmps82
  go_wp2_with fail
  go_ret
  exact ⟨rfl, rfl⟩
def infB (x : Nat) : Bool := FloatKind.f64.format.order (absN x) 9218868437227405311 == some .gt
set_option maxRecDepth 20000 in
set_option maxHeartbeats 1000000 in
theorem inf_calls (x : Nat) (w : World) : Calls Try.prog 77 #[.float .f64 x, .int .i64 0] w fun e w' => e = .returned (.bool (infB x)) ∧ w' = w := by
  have HA := Lib.hid (abs_calls x w)
  go_enter Try.func77, Try.ntmps77
  go_wp2_with fail
  refine HA.out.mono ?_
  rintro e w1 ⟨rfl, rfl⟩
  go_wp2_with fail
  go_ret
  exact ⟨rfl, rfl⟩
def nanB (x : Nat) : Bool := FloatKind.f64.format.order x x != some .eq
def negB (x : Nat) : Bool := FloatKind.f64.format.order x 0 == some .lt
def goodR (x : Nat) : Bool := !nanB x && (!infB x && !negB x)
set_option maxRecDepth 20000 in
set_option maxHeartbeats 1000000 in
theorem good_calls (x : Nat) (w : World) : Calls Try.prog 76 #[.float .f64 x] w fun e w' => e = .returned (.bool (goodR x)) ∧ w' = w := by
  have HI := Lib.hid (inf_calls x w)
  unfold goodR
  obtain ⟨b1, h1⟩ : ∃ b, nanB x = b := ⟨_, rfl⟩
  obtain ⟨b2, h2⟩ : ∃ b, infB x = b := ⟨_, rfl⟩
  obtain ⟨b3, h3⟩ : ∃ b, negB x = b := ⟨_, rfl⟩
  rw [h1, h2, h3]
  rw [h2] at HI
  unfold nanB at h1
  unfold negB at h3
  clear h2
  go_enter Try.func76, Try.ntmps76
  cases b1 with
  | true =>
    go_wp2_with fail
    go_ret
    exact ⟨rfl, rfl⟩
  | false =>
    go_wp2_with fail
    refine HI.out.mono ?_
    rintro e w1 ⟨rfl, rfl⟩
    cases b2 with
    | true =>
      go_wp2_with fail
      go_ret
      exact ⟨rfl, rfl⟩
    | false =>
      cases b3 <;>
        (go_wp2_with fail
         go_ret
         exact ⟨rfl, rfl⟩)
theorem ge_law (x : Nat) : (FloatKind.f64.format.order x 0 == some Ordering.gt || FloatKind.f64.format.order x 0 == some Ordering.eq) = (!nanB x && !negB x) := by
  unfold nanB negB Ieee.Format.order
  have h0 : FloatKind.f64.format.read 0 = .number false 0 FloatKind.f64.format.leastPlace := by decide
  rw [h0]
  cases FloatKind.f64.format.read x with
  | nan s f => rfl
  | infinity s => cases s <;> rfl
  | number s m i =>
    have h1 : ∀ a : Int, compare a a = Ordering.eq := fun a => by simp [compare, compareOfLessAndEq]
    simp only [Ieee.Datum.order, h1]
    cases compare (Ieee.signed s m (i - min i FloatKind.f64.format.leastPlace).toNat) (Ieee.signed false 0 (FloatKind.f64.format.leastPlace - min i FloatKind.f64.format.leastPlace).toNat) <;> rfl
set_option maxRecDepth 20000 in
set_option maxHeartbeats 1000000 in
theorem rgood_calls (x : Nat) (w : World) : Calls Try.prog 57 #[.float .f64 x] w fun e w' => e = .returned (.bool (goodR x)) ∧ w' = w := by
  have HI := Lib.hid (inf_calls x w)
  have hg := ge_law x
  have hgd : goodR x = ((!nanB x && !negB x) && !infB x) := by
    unfold goodR
    cases nanB x <;> cases infB x <;> cases negB x <;> rfl
  rw [hgd, ← hg]
  obtain ⟨b2, h2⟩ : ∃ b, infB x = b := ⟨_, rfl⟩
  rw [h2] at HI ⊢
  obtain ⟨b1, h1⟩ : ∃ b, (FloatKind.f64.format.order x 0 == some Ordering.gt || FloatKind.f64.format.order x 0 == some Ordering.eq) = b := ⟨_, rfl⟩
  rw [h1]
  clear hg hgd h2
  go_enter Try.func57, Try.ntmps57
  cases b1 with
  | true =>
    go_wp2_with fail
    refine HI.out.mono ?_
    rintro e w1 ⟨rfl, rfl⟩
    go_wp2_with fail
    go_ret
    exact ⟨by cases b2 <;> rfl, rfl⟩
  | false =>
    go_wp2_with fail
    go_ret
    exact ⟨rfl, rfl⟩
end Go.Proofs.Ytadcpdpcpecooaa.Re
