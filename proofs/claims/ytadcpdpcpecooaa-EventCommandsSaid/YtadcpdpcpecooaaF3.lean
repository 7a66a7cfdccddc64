/- Frexp, Ldexp of normal numbers. -/
import Derived.Test.YtadcpdpcpecooaaF1
import Derived.Deep.Cut
import Derived.Deep.CutRange
namespace Go.Proofs.Ytadcpdpcpecooaa.Re
open Go.RowKit

theorem wr64 (x : Int) (h : -9223372036854775808 ≤ x ∧ x ≤ 9223372036854775807) : wrap64 x = x := IntWalk.wrap64_in x h
set_option maxRecDepth 20000 in
theorem isnan_calls (x : Nat) (w : World) : Calls Try.prog 92 #[.float .f64 x] w fun e w' => e = .returned (.bool (nanB x)) ∧ w' = w := by
  go_enter Try.func92, Try.ntmps92
  go_wp2_with fail
  go_ret
  exact ⟨rfl, rfl⟩
/-- A number that is none of the special ones. -/
def smallB (x : Nat) : Bool := FloatKind.f64.format.order (absN x) 4503599627370496 == some .lt
structure Nrm (x : Nat) : Prop where
  z : isZ x = false
  i : infB x = false
  n : nanB x = false
  s : smallB x = false
set_option maxRecDepth 20000 in
theorem norm_calls (x : Nat) (w : World) (h : Nrm x) : Calls Try.prog 93 #[.float .f64 x] w fun e w' => e = .returned (.tuple #[.float .f64 x, .int .i64 0]) ∧ w' = w := by
  have HA := Lib.hid (abs_calls x w)
  have hs := h.s
  unfold smallB at hs
  clear h
  go_enter Try.func93, Try.ntmps93
  go_wp2_with fail
  refine HA.out.mono ?_
  rintro e w1 ⟨rfl, rfl⟩
  go_wp2_with fail
  go_ret2
  exact ⟨rfl, rfl⟩
def frA (x : Nat) : Nat := (bits .or .u64 (bits .andNot .u64 (x : Int) 9218868437227405312) 4602678819172646912).toNat
def frE (x : Nat) : Int := wrap64 (wrap64 (wrap64 (wrap64 (bits .and .u64 ((x : Int) / 4503599627370496) 2047) - 1023) + 1))
set_option maxRecDepth 20000 in
set_option maxHeartbeats 1000000 in
theorem frexp_calls (x : Nat) (w : World) (h : Nrm x) : Calls Try.prog 88 #[.float .f64 x] w fun e w' => e = .returned (.tuple #[.float .f64 (frA x), .int .i64 (frE x)]) ∧ w' = w := by
  have HI := Lib.hid (inf_calls x w)
  have HN := Lib.hid (isnan_calls x w)
  have HM := Lib.hid (norm_calls x w h)
  have h1 := bits_run
  have h2 := frombits_run
  have hz := h.z
  unfold isZ at hz
  rw [h.i] at HI
  rw [h.n] at HN
  clear h
  go_enter Try.func88, Try.ntmps88
  go_wp2_with fail
  refine HI.out.mono ?_
  rintro e w1 ⟨rfl, rfl⟩
  go_wp2_with fail
  refine HN.out.mono ?_
  rintro e w2 ⟨rfl, rfl⟩
  go_wp2_with fail
  refine HM.out.mono ?_
  rintro e w3 ⟨rfl, rfl⟩
  go_wp2_with fail
  go_ret2
  exact ⟨rfl, rfl⟩
set_option maxRecDepth 20000 in
theorem Frexp_calls (x : Nat) (w : World) (h : Nrm x) : Calls Try.prog 83 #[.float .f64 x] w fun e w' => e = .returned (.tuple #[.float .f64 (frA x), .int .i64 (frE x)]) ∧ w' = w := by
  have HF := Lib.hid (frexp_calls x w h)
  clear h
  generalize frA x = a at *
  generalize frE x = b at *
  go_enter Try.func83, Try.ntmps83
  go_wp2_with fail
  refine HF.out.mono ?_
  rintro e w1 ⟨rfl, rfl⟩
  go_wp2_with fail
  go_ret2
  exact ⟨rfl, rfl⟩
def ldY (x : Nat) : Nat := (bits .or .u64 (bits .andNot .u64 (x : Int) 9218868437227405312) 4841369599423283200).toNat
set_option maxRecDepth 20000 in
set_option maxHeartbeats 1000000 in
theorem ldexp_calls (x R : Nat) (w : World) (h : Nrm x) (hE : bits .and .i64 (wrap64 ((x : Int) / 4503599627370496)) 2047 = 1022) (hM : floatBits .mul .f64 4607182418800017408 (ldY x) = some R) :
    Calls Try.prog 90 #[.float .f64 x, .int .i64 53] w fun e w' => e = .returned (.float .f64 R) ∧ w' = w := by
  have HI := Lib.hid (inf_calls x w)
  have HN := Lib.hid (isnan_calls x w)
  have HM := Lib.hid (norm_calls x w h)
  have h1 := bits_run
  have h2 := frombits_run
  have hz := h.z
  unfold isZ at hz
  rw [h.i] at HI
  rw [h.n] at HN
  have hq : ∀ W, (binOp .mul 23 (.float .f64 4607182418800017408) (.float .f64 (bits .or .u64 (bits .andNot .u64 (x : Int) 9218868437227405312) 4841369599423283200).toNat)).run Try.prog W = .ok (.float .f64 R) W := fun W => run_float_arith W .mul 23 .f64 _ _ _ hM
  have hw1 : wrap64 (-1) = -1 := by kernel_rfl
  have hw2 : wrap64 52 = 52 := by kernel_rfl
  have hw3 : wrap64 (1022 - 1023) = -1 := by kernel_rfl
  have hw4 : wrap64 (53 + -1) = 52 := by kernel_rfl
  clear h hM
  go_enter Try.func90, Try.ntmps90
  go_wp2_with fail
  refine HI.out.mono ?_
  rintro e w1 ⟨rfl, rfl⟩
  go_wp2_with fail
  refine HN.out.mono ?_
  rintro e w2 ⟨rfl, rfl⟩
  go_wp2_with fail
  refine HM.out.mono ?_
  rintro e w3 ⟨rfl, rfl⟩
  go_wp2_with fail
  go_ret
  exact ⟨rfl, rfl⟩
set_option maxRecDepth 20000 in
theorem Ldexp_calls (x R : Nat) (w : World) (h : Nrm x) (hE : bits .and .i64 (wrap64 ((x : Int) / 4503599627370496)) 2047 = 1022) (hM : floatBits .mul .f64 4607182418800017408 (ldY x) = some R) :
    Calls Try.prog 84 #[.float .f64 x, .int .i64 53] w fun e w' => e = .returned (.float .f64 R) ∧ w' = w := by
  have HF := Lib.hid (ldexp_calls x R w h hE hM)
  clear h hE hM
  go_enter Try.func84, Try.ntmps84
  go_wp2_with fail
  refine HF.out.mono ?_
  rintro e w1 ⟨rfl, rfl⟩
  go_wp2_with fail
  go_ret
  exact ⟨rfl, rfl⟩
set_option maxRecDepth 20000 in
set_option maxHeartbeats 2000000 in
theorem take_calls (x R : Nat) (S V E n hi lo k : Int) (w : World) (h : Nrm x) (hG : goodR x = true) (hS1 : ¬ S < 1) (hS2 : ¬ 1000000 < S) (hfE : frE x = E) (hA : Nrm (frA x)) (hE : bits .and .i64 (wrap64 ((frA x : Int) / 4503599627370496)) 2047 = 1022)
    (hM : floatBits .mul .f64 4607182418800017408 (ldY (frA x)) = some R) (hC : floatToIntVal .f64 R .u64 = some n) (hSw : IntKind.u64.wrap S = S)
    (hEk : wrap64 (E - 53) = -k) (hk : 0 < k ∧ k ≤ 74)
    (HMul : ∀ W, Calls Try.prog 85 #[.int .u64 n, .int .u64 S] W fun e w' => e = .returned (.tuple #[.int .u64 hi, .int .u64 lo]) ∧ w' = W)
    (HSh : ∀ W, Calls Try.prog 86 #[.int .u64 hi, .int .u64 lo, .int .u64 k] W fun e w' => e = .returned (.tuple #[.int .u64 V, .bool true]) ∧ w' = W) (hV : 0 ≤ V ∧ V ≤ 10000000000000) :
    Calls Try.prog 78 #[.float .f64 x, .int .i64 S] w fun e w' => e = .returned (.tuple #[.int .i64 V, .int .i64 0]) ∧ w' = w := by
  have HG := Lib.hid (good_calls x w)
  rw [hG] at HG
  have HF := Lib.hid (Frexp_calls x w h)
  rw [hfE] at HF
  have HL := Lib.hid (Ldexp_calls (frA x) R w hA hE hM)
  have hz := h.z
  unfold isZ at hz
  have hcv : ∀ W, (convert 23 57 (.float .f64 R)).run Try.prog W = .ok (.int .u64 n) W := fun W => run_convert_float_int W 23 57 .f64 .u64 R n (by rw [Try.underlying23]; rfl) Try.underlying57 hC
  generalize frA x = a at *
  have HMu := Lib.hid HMul
  have HSh' := Lib.hid HSh
  clear h hG hfE hA hE hM hC HMul HSh
  go_enter Try.func78, Try.ntmps78
  go_wp2_with fail
  refine HG.out.mono ?_
  rintro e w1 ⟨rfl, rfl⟩
  go_wp2_with fail
  refine HF.out.mono ?_
  rintro e w2 ⟨rfl, rfl⟩
  go_wp2_with fail
  refine HL.out.mono ?_
  rintro e w3 ⟨rfl, rfl⟩
  go_wp2_with fail
  rw [hEk]
  refine (HMu.out _).mono ?_
  rintro e w4 ⟨rfl, rfl⟩
  have hk1 : wrap64 k = k := wr64 k (by omega)
  have hk2 : IntKind.u64.wrap k = k := by simp [IntKind.wrap, IntKind.signed, IntKind.bits]; omega
  have hk3 : k % 18446744073709551616 = k := by omega
  go_wp2_with fail
  refine (HSh'.out _).mono ?_
  rintro e w5 ⟨rfl, rfl⟩
  have hV1 : wrap64 V = V := wr64 V (by omega)
  go_wp2_with fail
  go_ret2
  exact ⟨rfl, rfl⟩
end Go.Proofs.Ytadcpdpcpecooaa.Re
