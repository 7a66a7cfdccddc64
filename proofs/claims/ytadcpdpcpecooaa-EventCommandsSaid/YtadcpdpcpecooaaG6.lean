/- Frexp of small numbers; Take in general: the program's. -/
import Derived.Test.YtadcpdpcpecooaaG5
namespace Go.Proofs.Ytadcpdpcpecooaa.Re
open Go.RowKit

set_option maxRecDepth 20000 in
theorem norm_low (x Y : Nat) (w : World) (hs : smallB x = true) (hM : floatBits .mul .f64 x 4841369599423283200 = some Y) : Calls Try.prog 93 #[.float .f64 x] w fun e w' => e = .returned (.tuple #[.float .f64 Y, .int .i64 (-52)]) ∧ w' = w := by
  have HA := Lib.hid (abs_calls x w)
  have hq : ∀ W, (binOp .mul 23 (.float .f64 x) (.float .f64 4841369599423283200)).run Try.prog W = .ok (.float .f64 Y) W := fun W => run_float_arith W .mul 23 .f64 _ _ _ hM
  unfold smallB at hs
  clear hM
  go_enter Try.func93, Try.ntmps93
  go_wp2_with fail
  refine HA.out.mono ?_
  rintro e w1 ⟨rfl, rfl⟩
  go_wp2_with fail
  go_ret2
  exact ⟨rfl, rfl⟩
set_option maxRecDepth 20000 in
set_option maxHeartbeats 1000000 in
theorem frexp_low (x Y : Nat) (E : Int) (w : World) (hz : isZ x = false) (hi : infB x = false) (hn : nanB x = false) (hs : smallB x = true) (hM : floatBits .mul .f64 x 4841369599423283200 = some Y)
    (hE : wrap64 (-52 + wrap64 (wrap64 (wrap64 (bits .and .u64 ((Y : Int) / 4503599627370496) 2047) - 1023) + 1)) = E) : Calls Try.prog 88 #[.float .f64 x] w fun e w' => e = .returned (.tuple #[.float .f64 (frA Y), .int .i64 E]) ∧ w' = w := by
  have HI := Lib.hid (inf_calls x w)
  have HN := Lib.hid (isnan_calls x w)
  have HM := Lib.hid (norm_low x Y w hs hM)
  have h1 := bits_run
  have h2 := frombits_run
  unfold isZ at hz
  rw [hi] at HI
  rw [hn] at HN
  clear hi hn hs hM
  go_enter Try.func88, Try.ntmps88
  go_wp2_with fail
  refine HI.out.mono ?_
  rintro e w1 ⟨rfl, rfl⟩
  go_wp2_with fail
  refine HN.out.mono ?_
  rintro e w2 ⟨rfl, rfl⟩
  go_wp2_with fail
  refine HM.out.mono ?_
  rintro e w3 ⟨rfl, rfl⟩
  go_wp2_with fail
  go_ret2
  exact ⟨by rw [hE]; rfl, rfl⟩
set_option maxRecDepth 20000 in
theorem Frexp_of (x a : Nat) (E : Int) (w : World) (h : Calls Try.prog 88 #[.float .f64 x] w fun e w' => e = .returned (.tuple #[.float .f64 a, .int .i64 E]) ∧ w' = w) : Calls Try.prog 83 #[.float .f64 x] w fun e w' => e = .returned (.tuple #[.float .f64 a, .int .i64 E]) ∧ w' = w := by
  have HF := Lib.hid h
  clear h
  go_enter Try.func83, Try.ntmps83
  go_wp2_with fail
  refine HF.out.mono ?_
  rintro e w1 ⟨rfl, rfl⟩
  go_wp2_with fail
  go_ret2
  exact ⟨rfl, rfl⟩
set_option maxRecDepth 20000 in
theorem take_arg (x : Nat) (S : Int) (w : World) (h : goodR x = true) (hS : S < 1 ∨ 1000000 < S) : Calls Try.prog 78 #[.float .f64 x, .int .i64 S] w fun e w' => e = .returned (.tuple #[.int .i64 0, .int .i64 1]) ∧ w' = w := by
  have HG := Lib.hid (good_calls x w)
  rw [h] at HG
  by_cases h1 : S < 1
  · go_enter Try.func78, Try.ntmps78
    go_wp2_with fail
    refine HG.out.mono ?_
    rintro e w1 ⟨rfl, rfl⟩
    go_wp2_with fail
    go_ret2
    exact ⟨rfl, rfl⟩
  · have h2 : 1000000 < S := by omega
    go_enter Try.func78, Try.ntmps78
    go_wp2_with fail
    refine HG.out.mono ?_
    rintro e w1 ⟨rfl, rfl⟩
    go_wp2_with fail
    go_ret2
    exact ⟨rfl, rfl⟩
set_option maxRecDepth 20000 in
theorem take_nil (x : Nat) (S : Int) (w : World) (h : goodR x = true) (hz : isZ x = true) (hS1 : ¬ S < 1) (hS2 : ¬ 1000000 < S) : Calls Try.prog 78 #[.float .f64 x, .int .i64 S] w fun e w' => e = .returned (.tuple #[.int .i64 0, .int .i64 0]) ∧ w' = w := by
  have HG := Lib.hid (good_calls x w)
  rw [h] at HG
  unfold isZ at hz
  go_enter Try.func78, Try.ntmps78
  go_wp2_with fail
  refine HG.out.mono ?_
  rintro e w1 ⟨rfl, rfl⟩
  go_wp2_with fail
  go_ret2
  exact ⟨rfl, rfl⟩
/-- What Take comes to, of a product and of the places it is shifted by (E: less than 0 to the right). -/
def tkV (_hi _lo E : Int) (V : Int) (ok : Bool) : Value :=
  if 0 ≤ E then .tuple #[.int .i64 0, .int .i64 14]
  else if E < -74 then .tuple #[.int .i64 0, .int .i64 0]
  else if ok = true then (if 10000000000000 < V then .tuple #[.int .i64 0, .int .i64 14] else .tuple #[.int .i64 V, .int .i64 0])
  else .tuple #[.int .i64 0, .int .i64 14]
set_option maxRecDepth 20000 in
set_option maxHeartbeats 4000000 in
theorem take_gen (x a R : Nat) (S V E n hi lo : Int) (ok : Bool) (w : World) (hG : goodR x = true) (hz : isZ x = false) (hS1 : ¬ S < 1) (hS2 : ¬ 1000000 < S)
    (HF0 : ∀ w, Calls Try.prog 83 #[.float .f64 x] w fun e w' => e = .returned (.tuple #[.float .f64 a, .int .i64 E]) ∧ w' = w)
    (HL0 : ∀ w, Calls Try.prog 84 #[.float .f64 a, .int .i64 53] w fun e w' => e = .returned (.float .f64 R) ∧ w' = w)
    (hC : floatToIntVal .f64 R .u64 = some n) (hSw : IntKind.u64.wrap S = S)
    (hEr : -5000 ≤ E ∧ E ≤ 5000)
    (HMul : ∀ W, Calls Try.prog 85 #[.int .u64 n, .int .u64 S] W fun e w' => e = .returned (.tuple #[.int .u64 hi, .int .u64 lo]) ∧ w' = W)
    (hlo : 0 ≤ E - 53 → 0 < hi ∨ (hi = 0 ∧ 10000000000000 < lo)) (hhi : 0 ≤ hi ∧ 0 ≤ lo)
    (HSh : E - 53 < 0 → -74 ≤ E - 53 → ∀ W, Calls Try.prog 86 #[.int .u64 hi, .int .u64 lo, .int .u64 (-(E - 53))] W fun e w' => e = .returned (.tuple #[.int .u64 V, .bool ok]) ∧ w' = W) (hV : 0 ≤ V ∧ V ≤ 18446744073709551615) :
    Calls Try.prog 78 #[.float .f64 x, .int .i64 S] w fun e w' => e = .returned (tkV hi lo (E - 53) V ok) ∧ w' = w := by
  have HG := Lib.hid (good_calls x w)
  rw [hG] at HG
  have HF := Lib.hid (HF0 w)
  have HL := Lib.hid (HL0 w)
  unfold isZ at hz
  have hcv : ∀ W, (convert 23 57 (.float .f64 R)).run Try.prog W = .ok (.int .u64 n) W := fun W => run_convert_float_int W 23 57 .f64 .u64 R n (by rw [Try.underlying23]; rfl) Try.underlying57 hC
  have HMu := Lib.hid HMul
  have HSh' := Lib.hid HSh
  have hE0 : wrap64 (E - 53) = E - 53 := wr64 _ (by omega)
  have HEr := Lib.hid hEr
  have HLo := Lib.hid hlo
  have HHi := Lib.hid hhi
  have HV := Lib.hid hV
  clear hG hC HMul HSh HF0 HL0 hEr hlo hhi hV
  obtain ⟨E', hE'⟩ : ∃ q, E - 53 = q := ⟨_, rfl⟩
  rw [hE'] at hE0 HSh' HLo ⊢
  have HEr' : Hid (-5053 ≤ E' ∧ E' ≤ 4947) := Lib.hid (by have := HEr.out; omega)
  clear HEr
  unfold tkV
  by_cases c1 : 0 ≤ E'
  · rw [if_pos c1]
    rcases Int.lt_or_le 10 E' with c2 | c2
    · go_enter Try.func78, Try.ntmps78
      go_wp2_with fail
      refine HG.out.mono ?_
      rintro e w1 ⟨rfl, rfl⟩
      go_wp2_with fail
      refine HF.out.mono ?_
      rintro e w2 ⟨rfl, rfl⟩
      go_wp2_with fail
      refine HL.out.mono ?_
      rintro e w3 ⟨rfl, rfl⟩
      go_wp2_with fail
      (try rw [hE0])
      refine (HMu.out _).mono ?_
      rintro e w4 ⟨rfl, rfl⟩
      go_wp2_with fail
      go_ret2
      exact ⟨rfl, rfl⟩
    · have c2' : ¬ 10 < E' := by omega
      rcases HLo.out c1 with c3 | ⟨c3, c4⟩
      · go_enter Try.func78, Try.ntmps78
        go_wp2_with fail
        refine HG.out.mono ?_
        rintro e w1 ⟨rfl, rfl⟩
        go_wp2_with fail
        refine HF.out.mono ?_
        rintro e w2 ⟨rfl, rfl⟩
        go_wp2_with fail
        refine HL.out.mono ?_
        rintro e w3 ⟨rfl, rfl⟩
        go_wp2_with fail
        (try rw [hE0])
        refine (HMu.out _).mono ?_
        rintro e w4 ⟨rfl, rfl⟩
        go_wp2_with fail
        go_ret2
        exact ⟨rfl, rfl⟩
      · subst c3
        have c5 : (10000000000000 : Int) / 2 ^ E'.toNat < lo := by
          have : (10000000000000 : Int) / 2 ^ E'.toNat ≤ 10000000000000 := Int.ediv_le_self _ (by decide)
          omega
        have c6 : ¬ E' < 0 := by omega
        go_enter Try.func78, Try.ntmps78
        go_wp2_with fail
        refine HG.out.mono ?_
        rintro e w1 ⟨rfl, rfl⟩
        go_wp2_with fail
        refine HF.out.mono ?_
        rintro e w2 ⟨rfl, rfl⟩
        go_wp2_with fail
        refine HL.out.mono ?_
        rintro e w3 ⟨rfl, rfl⟩
        go_wp2_with fail
        (try rw [hE0])
        refine (HMu.out _).mono ?_
        rintro e w4 ⟨rfl, rfl⟩
        go_wp2_with fail
        go_ret2
        exact ⟨rfl, rfl⟩
  · rw [if_neg c1]
    by_cases c2 : E' < -74
    · rw [if_pos c2]
      go_enter Try.func78, Try.ntmps78
      go_wp2_with fail
      refine HG.out.mono ?_
      rintro e w1 ⟨rfl, rfl⟩
      go_wp2_with fail
      refine HF.out.mono ?_
      rintro e w2 ⟨rfl, rfl⟩
      go_wp2_with fail
      refine HL.out.mono ?_
      rintro e w3 ⟨rfl, rfl⟩
      go_wp2_with fail
      (try rw [hE0])
      refine (HMu.out _).mono ?_
      rintro e w4 ⟨rfl, rfl⟩
      go_wp2_with fail
      go_ret2
      exact ⟨rfl, rfl⟩
    · rw [if_neg c2]
      have HS2 := Lib.hid (HSh'.out (by omega) (by omega))
      obtain ⟨k, hk⟩ : ∃ k, -E' = k := ⟨_, rfl⟩
      rw [hk] at HS2
      have hk1 : wrap64 k = k := wr64 k (by omega)
      have hk2 : IntKind.u64.wrap k = k := by simp [IntKind.wrap, IntKind.signed, IntKind.bits]; omega
      have hk3 : k % 18446744073709551616 = k := by omega
      have hk4 : wrap64 (-E') = k := by rw [hk]; exact hk1
      clear HSh'
      cases ok with
      | false =>
        go_enter Try.func78, Try.ntmps78
        go_wp2_with fail
        refine HG.out.mono ?_
        rintro e w1 ⟨rfl, rfl⟩
        go_wp2_with fail
        refine HF.out.mono ?_
        rintro e w2 ⟨rfl, rfl⟩
        go_wp2_with fail
        refine HL.out.mono ?_
        rintro e w3 ⟨rfl, rfl⟩
        go_wp2_with fail
        (try rw [hE0])
        refine (HMu.out _).mono ?_
        rintro e w4 ⟨rfl, rfl⟩
        go_wp2_with fail
        refine (HS2.out _).mono ?_
        rintro e w5 ⟨rfl, rfl⟩
        go_wp2_with fail
        go_ret2
        exact ⟨rfl, rfl⟩
      | true =>
        rw [if_pos rfl]
        by_cases c3 : 10000000000000 < V
        · rw [if_pos c3]
          go_enter Try.func78, Try.ntmps78
          go_wp2_with fail
          refine HG.out.mono ?_
          rintro e w1 ⟨rfl, rfl⟩
          go_wp2_with fail
          refine HF.out.mono ?_
          rintro e w2 ⟨rfl, rfl⟩
          go_wp2_with fail
          refine HL.out.mono ?_
          rintro e w3 ⟨rfl, rfl⟩
          go_wp2_with fail
          (try rw [hE0])
          refine (HMu.out _).mono ?_
          rintro e w4 ⟨rfl, rfl⟩
          go_wp2_with fail
          refine (HS2.out _).mono ?_
          rintro e w5 ⟨rfl, rfl⟩
          go_wp2_with fail
          go_ret2
          exact ⟨rfl, rfl⟩
        · rw [if_neg c3]
          have hV1 : wrap64 V = V := wr64 V (by have := HV.out; omega)
          go_enter Try.func78, Try.ntmps78
          go_wp2_with fail
          refine HG.out.mono ?_
          rintro e w1 ⟨rfl, rfl⟩
          go_wp2_with fail
          refine HF.out.mono ?_
          rintro e w2 ⟨rfl, rfl⟩
          go_wp2_with fail
          refine HL.out.mono ?_
          rintro e w3 ⟨rfl, rfl⟩
          go_wp2_with fail
          (try rw [hE0])
          refine (HMu.out _).mono ?_
          rintro e w4 ⟨rfl, rfl⟩
          go_wp2_with fail
          refine (HS2.out _).mono ?_
          rintro e w5 ⟨rfl, rfl⟩
          go_wp2_with fail
          go_ret2
          refine ⟨?_, rfl⟩
          show Ending.returned (.tuple #[.int .i64 (wrap64 V), .int .i64 0]) = _
          rw [hV1]
end Go.Proofs.Ytadcpdpcpecooaa.Re
