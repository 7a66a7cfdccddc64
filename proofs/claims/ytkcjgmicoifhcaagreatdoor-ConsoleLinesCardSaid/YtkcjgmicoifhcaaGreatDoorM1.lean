/- Texts joined: G5 G6 G7 G8 G9 H0. -/
import Derived.Test.YtkcjgmicoifhcaaGreatDoorM0
import Derived.Deep.CutRange

/- G5: Which words are good. -/
namespace Go.Proofs.YtkcjgmicoifhcaaGreatDoor.Re
open Go.RowKit

theorem read_low (x : Nat) (h : x < 4503599627370496) : Ieee.double.read x = .number false x (-1074) := by
  unfold Ieee.Format.read
  rw [sw, bn, ir, lp]
  have d1 : x / 9223372036854775808 = 0 := by omega
  have d2 : x % 9223372036854775808 = x := by omega
  rw [d1, d2]
  simp only
  rw [if_pos h]
  rfl
theorem read_neg (y : Nat) (h0 : 0 < y) (h : y < 9218868437227405312) : ∃ m i, 0 < m ∧ Ieee.double.read (9223372036854775808 + y) = .number true m i := by
  unfold Ieee.Format.read
  rw [sw, bn, ir, lp]
  have d1 : (9223372036854775808 + y) / 9223372036854775808 = 1 := by omega
  have d2 : (9223372036854775808 + y) % 9223372036854775808 = y := by omega
  rw [d1, d2]
  simp only
  by_cases hb : y < 4503599627370496
  · rw [if_pos hb]
    exact ⟨y, _, h0, rfl⟩
  · rw [if_neg hb, if_pos h]
    exact ⟨_, _, by omega, rfl⟩
theorem read_nan (b y : Nat) (_hb : b < 2) (h : 9218868437227405312 < y) (hy : y < 9223372036854775808) : ∃ s f, Ieee.double.read (b * 9223372036854775808 + y) = .nan s f := by
  unfold Ieee.Format.read
  rw [sw, bn, ir, lp]
  have d2 : (b * 9223372036854775808 + y) % 9223372036854775808 = y := by omega
  rw [d2]
  simp only
  rw [if_neg (by omega), if_neg (by omega), if_neg (by omega)]
  exact ⟨_, _, rfl⟩
theorem bad_nan (x : Nat) (h : ∃ s f, Ieee.double.read x = .nan s f) : goodR x = false := by
  obtain ⟨s, f, h⟩ := h
  have : nanB x = true := by
    unfold nanB Ieee.Format.order
    rw [fmt, h]
    rfl
  unfold goodR
  rw [this]
  rfl
theorem bad_neg (x : Nat) (h : ∃ m i, 0 < m ∧ Ieee.double.read x = .number true m i) : goodR x = false := by
  obtain ⟨m, i, hm, h⟩ := h
  have : negB x = true := by
    unfold negB Ieee.Format.order
    rw [fmt, h, zero_read]
    simp only [Ieee.Datum.order]
    have : compare (Ieee.signed true m (i - min i (-1074)).toNat) (Ieee.signed false 0 (-1074 - min i (-1074)).toNat) = Ordering.lt := by
      have := sh_pos m (i - min i (-1074)).toNat hm
      unfold Ieee.signed
      rw [if_pos rfl, if_neg (by decide), Nat.zero_shiftLeft]
      simp only [compare, compareOfLessAndEq]
      rw [if_pos (by omega)]
    rw [this]
    rfl
  unfold goodR
  rw [this]
  simp
/-- The good words. -/
theorem good_cases (x : Nat) (hx : x < 18446744073709551616) (h : goodR x = true) : x = 9223372036854775808 ∨ ∃ e f, e ≤ 2046 ∧ f < 4503599627370496 ∧ x = e * 4503599627370496 + f := by
  by_cases h1 : x < 9218868437227405312
  · exact .inr ⟨x / 4503599627370496, x % 4503599627370496, by omega, by omega, by omega⟩
  by_cases h2 : x = 9218868437227405312
  · subst h2
    exact absurd h (by have : goodR 9218868437227405312 = false := by kernel_rfl
                       rw [this]; decide)
  by_cases h3 : x < 9223372036854775808
  · have := bad_nan x (by have := read_nan 0 x (by decide) (by omega) h3; simpa using this)
    rw [this] at h; cases h
  by_cases h4 : x = 9223372036854775808
  · exact .inl h4
  obtain ⟨y, rfl⟩ : ∃ y, x = 9223372036854775808 + y := ⟨x - 9223372036854775808, by omega⟩
  by_cases h5 : y < 9218868437227405312
  · have := bad_neg _ (read_neg y (by omega) h5)
    rw [this] at h; cases h
  by_cases h6 : y = 9218868437227405312
  · subst h6
    exact absurd h (by have : goodR (9223372036854775808 + 9218868437227405312) = false := by kernel_rfl
                       rw [this]; decide)
  · have := bad_nan (9223372036854775808 + y) (by have := read_nan 1 y (by decide) (by omega) (by omega); simpa using this)
    rw [this] at h; cases h
theorem good_low (f : Nat) (h0 : 0 < f) (hf : f < 4503599627370496) : goodR f = true ∧ isZ f = false ∧ infB f = false ∧ nanB f = false ∧ smallB f = true := by
  have hr := read_low f hf
  obtain ⟨a, b, c⟩ := pos_word _ _ _ hr h0
  have d := fin_word _ _ _ hr (by omega) (by omega) (by omega)
  refine ⟨by unfold goodR; rw [b, c, d]; rfl, a, d, c, ?_⟩
  have hr2 : Ieee.double.read 4503599627370496 = .number false 4503599627370496 (-1074) := by
    have := read_nrm 1 0 (by decide) (by decide) (by decide)
    simpa using this
  have h0 := order_num f 4503599627370496 f 4503599627370496 (-1074) (-1074) hr hr2
  unfold smallB
  rw [abs_pos f (by omega), fmt, h0, some_beq, show ((-1074 : Int) - min (-1074) (-1074)).toNat = 0 by decide, Nat.shiftLeft_zero]
  simp only [compare, compareOfLessAndEq]
  rw [if_pos (by omega)]
  rfl
theorem good_nil : goodR 0 = true ∧ isZ 0 = true := ⟨by kernel_rfl, by kernel_rfl⟩
theorem good_nil2 : goodR 9223372036854775808 = true ∧ isZ 9223372036854775808 = true := ⟨by kernel_rfl, by kernel_rfl⟩
theorem word_plus (r : Nat) : Ieee.double.word (false ^^ false) r = r := rfl
theorem cut_low (f l : Nat) (hl : l < 52) (hlg : (f * 4503599627370496).log2 = l + 52) : Ieee.Toward.even.cut (false ^^ false) (f * 4503599627370496) l = f * 2 ^ (52 - l) := by
  have hp1 : 2 ^ l * 2 ^ (52 - l) = 4503599627370496 := by rw [← Nat.pow_add, show l + (52 - l) = 52 by omega]
  have e1 : f * 4503599627370496 = f * 2 ^ (52 - l) * 2 ^ l := by
    rw [Nat.mul_assoc, Nat.mul_comm (2 ^ (52 - l)), hp1]
  generalize f * 4503599627370496 = N at *
  unfold Ieee.Toward.cut
  rw [hlg, show min l (l + 52 + 2) = l by omega, Nat.one_shiftLeft]
  have q1 : N / 2 ^ l = f * 2 ^ (52 - l) := by rw [e1]; exact Nat.mul_div_cancel _ (Nat.two_pow_pos l)
  have q2 : N % 2 ^ l = 0 := by rw [e1]; exact Nat.mul_mod_left _ _
  have q3 : 2 ^ l ≠ 0 := Nat.ne_of_gt (Nat.two_pow_pos l)
  simp only [q1, q2]
  simp
/-- A word below the normal ones, times 2 to the 52. -/
theorem mul_low (f : Nat) (h0 : 0 < f) (hf : f < 4503599627370496) : ∃ e g, 1 ≤ e ∧ e ≤ 52 ∧ g < 4503599627370496 ∧ floatBits .mul .f64 f 4841369599423283200 = some (e * 4503599627370496 + g) := by
  have hl : f.log2 < 52 := by
    rw [Nat.log2_lt (by omega)]; omega
  obtain ⟨l, hl'⟩ : ∃ l, f.log2 = l := ⟨_, rfl⟩
  have hlo : 2 ^ l ≤ f := by rw [← hl']; exact Nat.log2_self_le (by omega)
  have hhi : f < 2 ^ (l + 1) := by rw [← hl']; exact Nat.lt_log2_self
  rw [hl'] at hl
  have hp1 : 2 ^ l * 2 ^ (52 - l) = 4503599627370496 := by rw [← Nat.pow_add, show l + (52 - l) = 52 by omega]
  have hp2 : 2 ^ (l + 1) * 2 ^ (52 - l) = 9007199254740992 := by rw [← Nat.pow_add, show l + 1 + (52 - l) = 53 by omega]
  have hq1 : 4503599627370496 ≤ f * 2 ^ (52 - l) := by rw [← hp1]; exact Nat.mul_le_mul_right _ hlo
  have hq2 : f * 2 ^ (52 - l) < 9007199254740992 := by rw [← hp2]; exact Nat.mul_lt_mul_of_pos_right hhi (Nat.two_pow_pos _)
  refine ⟨l + 1, f * 2 ^ (52 - l) - 4503599627370496, by omega, by omega, by omega, ?_⟩
  unfold floatBits
  simp only
  unfold Ieee.Format.mul
  have hr2 : Ieee.double.read 4841369599423283200 = .number false 4503599627370496 0 := by kernel_rfl
  rw [fmt, read_low f hf, hr2]
  simp only [Ieee.Datum.product, Option.map_some, Option.some.injEq, Ieee.Format.write]
  unfold Ieee.Format.nearest
  rw [if_neg (by omega)]
  have hlg : (f * 4503599627370496).log2 = l + 52 := by
    rw [Nat.log2_eq_iff (by omega)]
    have e1 : (2 : Nat) ^ (l + 52) = 2 ^ l * 4503599627370496 := by rw [Nat.pow_add]
    have e2 : (2 : Nat) ^ (l + 52 + 1) = 2 ^ (l + 1) * 4503599627370496 := by rw [show l + 52 + 1 = l + 1 + 52 by omega, Nat.pow_add]
    rw [e1, e2]
    exact ⟨Nat.mul_le_mul_right _ hlo, Nat.mul_lt_mul_of_pos_right hhi (by decide)⟩
  rw [hlg, lp, bn, ir]
  have hfb : Ieee.double.fractionBits = 52 := rfl
  rw [hfb]
  have hpl : (-1074 : Int) + 0 = -1074 := by decide
  rw [hpl]
  have hmx : max ((-1074 : Int) + ((l + 52 : Nat) : Int) - ((52 : Nat) : Int)) (-1074) = -1074 + (l : Int) := by omega
  rw [hmx]
  show Ieee.double.word (false ^^ false) (min (((-1074 + (l : Int)) - -1074).toNat * 4503599627370496 + Ieee.Toward.even.cut (false ^^ false) ((f * 4503599627370496) <<< ((-1074 : Int) - (-1074 + (l : Int))).toNat) ((-1074 + (l : Int)) - -1074).toNat) 9218868437227405312) = _
  rw [show ((-1074 : Int) - (-1074 + (l : Int))).toNat = 0 by omega, show ((-1074 + (l : Int)) - -1074).toNat = l by omega, Nat.shiftLeft_zero]
  rw [cut_low f l hl hlg, word_plus]
  clear hfb hpl hmx hr2
  generalize f * 2 ^ (52 - l) = q at *
  have : l * 4503599627370496 ≤ 51 * 4503599627370496 := Nat.mul_le_mul_right _ (by omega)
  rw [Nat.add_mul]
  omega
end Go.Proofs.YtkcjgmicoifhcaaGreatDoor.Re

/- G6: Frexp of small numbers; Take in general: the program's. -/
namespace Go.Proofs.YtkcjgmicoifhcaaGreatDoor.Re
open Go.RowKit

set_option maxRecDepth 20000 in
theorem norm_low (x Y : Nat) (w : World) (hs : smallB x = true) (hM : floatBits .mul .f64 x 4841369599423283200 = some Y) : Calls Tryz.prog 172 #[.float .f64 x] w fun e w' => e = .returned (.tuple #[.float .f64 Y, .int .i64 (-52)]) ∧ w' = w := by
  have HA := Lib.hid (abs_calls x w)
  have hq : ∀ W, (binOp .mul 23 (.float .f64 x) (.float .f64 4841369599423283200)).run Tryz.prog W = .ok (.float .f64 Y) W := fun W => run_float_arith W .mul 23 .f64 _ _ _ hM
  unfold smallB at hs
  clear hM
  go_enter Tryz.func172, Tryz.ntmps172
  go_wp2_with fail
  refine HA.out.mono ?_
  rintro e w1 ⟨rfl, rfl⟩
  go_wp2_with fail
  go_ret2
  exact ⟨rfl, rfl⟩
set_option maxRecDepth 20000 in
set_option maxHeartbeats 1000000 in
theorem frexp_low (x Y : Nat) (E : Int) (w : World) (hz : isZ x = false) (hi : infB x = false) (hn : nanB x = false) (hs : smallB x = true) (hM : floatBits .mul .f64 x 4841369599423283200 = some Y)
    (hE : wrap64 (-52 + wrap64 (wrap64 (wrap64 (bits .and .u64 ((Y : Int) / 4503599627370496) 2047) - 1023) + 1)) = E) : Calls Tryz.prog 162 #[.float .f64 x] w fun e w' => e = .returned (.tuple #[.float .f64 (frA Y), .int .i64 E]) ∧ w' = w := by
  have HI := Lib.hid (inf_calls x w)
  have HN := Lib.hid (isnan_calls x w)
  have HM := Lib.hid (norm_low x Y w hs hM)
  have h1 := bits_run
  have h2 := frombits_run
  unfold isZ at hz
  rw [hi] at HI
  rw [hn] at HN
  clear hi hn hs hM
  go_enter Tryz.func162, Tryz.ntmps162
  go_wp2_with fail
  refine HI.out.mono ?_
  rintro e w1 ⟨rfl, rfl⟩
  go_wp2_with fail
  refine HN.out.mono ?_
  rintro e w2 ⟨rfl, rfl⟩
  go_wp2_with fail
  refine HM.out.mono ?_
  rintro e w3 ⟨rfl, rfl⟩
  go_wp2_with fail
  go_ret2
  exact ⟨by rw [hE]; rfl, rfl⟩
set_option maxRecDepth 20000 in
theorem Frexp_of (x a : Nat) (E : Int) (w : World) (h : Calls Tryz.prog 162 #[.float .f64 x] w fun e w' => e = .returned (.tuple #[.float .f64 a, .int .i64 E]) ∧ w' = w) : Calls Tryz.prog 148 #[.float .f64 x] w fun e w' => e = .returned (.tuple #[.float .f64 a, .int .i64 E]) ∧ w' = w := by
  have HF := Lib.hid h
  clear h
  go_enter Tryz.func148, Tryz.ntmps148
  go_wp2_with fail
  refine HF.out.mono ?_
  rintro e w1 ⟨rfl, rfl⟩
  go_wp2_with fail
  go_ret2
  exact ⟨rfl, rfl⟩
set_option maxRecDepth 20000 in
theorem take_arg (x : Nat) (S : Int) (w : World) (h : goodR x = true) (hS : S < 1 ∨ 1000000 < S) : Calls Tryz.prog 131 #[.float .f64 x, .int .i64 S] w fun e w' => e = .returned (.tuple #[.int .i64 0, .int .i64 1]) ∧ w' = w := by
  have HG := Lib.hid (good_calls x w)
  rw [h] at HG
  by_cases h1 : S < 1
  · go_enter Tryz.func131, Tryz.ntmps131
    go_wp2_with fail
    refine HG.out.mono ?_
    rintro e w1 ⟨rfl, rfl⟩
    go_wp2_with fail
    go_ret2
    exact ⟨rfl, rfl⟩
  · have h2 : 1000000 < S := by omega
    go_enter Tryz.func131, Tryz.ntmps131
    go_wp2_with fail
    refine HG.out.mono ?_
    rintro e w1 ⟨rfl, rfl⟩
    go_wp2_with fail
    go_ret2
    exact ⟨rfl, rfl⟩
set_option maxRecDepth 20000 in
theorem take_nil (x : Nat) (S : Int) (w : World) (h : goodR x = true) (hz : isZ x = true) (hS1 : ¬ S < 1) (hS2 : ¬ 1000000 < S) : Calls Tryz.prog 131 #[.float .f64 x, .int .i64 S] w fun e w' => e = .returned (.tuple #[.int .i64 0, .int .i64 0]) ∧ w' = w := by
  have HG := Lib.hid (good_calls x w)
  rw [h] at HG
  unfold isZ at hz
  go_enter Tryz.func131, Tryz.ntmps131
  go_wp2_with fail
  refine HG.out.mono ?_
  rintro e w1 ⟨rfl, rfl⟩
  go_wp2_with fail
  go_ret2
  exact ⟨rfl, rfl⟩
/-- What Take comes to, of a product and of the places it is shifted by (E: less than 0 to the right). -/
def tkV (_hi _lo E : Int) (V : Int) (ok : Bool) : Value :=
  if 0 ≤ E then .tuple #[.int .i64 0, .int .i64 14]
  else if E < -74 then .tuple #[.int .i64 0, .int .i64 0]
  else if ok = true then (if 10000000000000 < V then .tuple #[.int .i64 0, .int .i64 14] else .tuple #[.int .i64 V, .int .i64 0])
  else .tuple #[.int .i64 0, .int .i64 14]
set_option maxRecDepth 20000 in
set_option maxHeartbeats 4000000 in
theorem take_gen (x a R : Nat) (S V E n hi lo : Int) (ok : Bool) (w : World) (hG : goodR x = true) (hz : isZ x = false) (hS1 : ¬ S < 1) (hS2 : ¬ 1000000 < S)
    (HF0 : ∀ w, Calls Tryz.prog 148 #[.float .f64 x] w fun e w' => e = .returned (.tuple #[.float .f64 a, .int .i64 E]) ∧ w' = w)
    (HL0 : ∀ w, Calls Tryz.prog 149 #[.float .f64 a, .int .i64 53] w fun e w' => e = .returned (.float .f64 R) ∧ w' = w)
    (hC : floatToIntVal .f64 R .u64 = some n) (hSw : IntKind.u64.wrap S = S)
    (hEr : -5000 ≤ E ∧ E ≤ 5000)
    (HMul : ∀ W, Calls Tryz.prog 150 #[.int .u64 n, .int .u64 S] W fun e w' => e = .returned (.tuple #[.int .u64 hi, .int .u64 lo]) ∧ w' = W)
    (hlo : 0 ≤ E - 53 → 0 < hi ∨ (hi = 0 ∧ 10000000000000 < lo)) (hhi : 0 ≤ hi ∧ 0 ≤ lo)
    (HSh : E - 53 < 0 → -74 ≤ E - 53 → ∀ W, Calls Tryz.prog 151 #[.int .u64 hi, .int .u64 lo, .int .u64 (-(E - 53))] W fun e w' => e = .returned (.tuple #[.int .u64 V, .bool ok]) ∧ w' = W) (hV : 0 ≤ V ∧ V ≤ 18446744073709551615) :
    Calls Tryz.prog 131 #[.float .f64 x, .int .i64 S] w fun e w' => e = .returned (tkV hi lo (E - 53) V ok) ∧ w' = w := by
  have HG := Lib.hid (good_calls x w)
  rw [hG] at HG
  have HF := Lib.hid (HF0 w)
  have HL := Lib.hid (HL0 w)
  unfold isZ at hz
  have hcv : ∀ W, (convert 23 46 (.float .f64 R)).run Tryz.prog W = .ok (.int .u64 n) W := fun W => run_convert_float_int W 23 46 .f64 .u64 R n (by rw [Tryz.underlying23]; rfl) Tryz.underlying46 hC
  have HMu := Lib.hid HMul
  have HSh' := Lib.hid HSh
  have hE0 : wrap64 (E - 53) = E - 53 := wr64 _ (by omega)
  have HEr := Lib.hid hEr
  have HLo := Lib.hid hlo
  have HHi := Lib.hid hhi
  have HV := Lib.hid hV
  clear hG hC HMul HSh HF0 HL0 hEr hlo hhi hV
  obtain ⟨E', hE'⟩ : ∃ q, E - 53 = q := ⟨_, rfl⟩
  rw [hE'] at hE0 HSh' HLo ⊢
  have HEr' : Hid (-5053 ≤ E' ∧ E' ≤ 4947) := Lib.hid (by have := HEr.out; omega)
  clear HEr
  unfold tkV
  by_cases c1 : 0 ≤ E'
  · rw [if_pos c1]
    rcases Int.lt_or_le 10 E' with c2 | c2
    · go_enter Tryz.func131, Tryz.ntmps131
      go_wp2_with fail
      refine HG.out.mono ?_
      rintro e w1 ⟨rfl, rfl⟩
      go_wp2_with fail
      refine HF.out.mono ?_
      rintro e w2 ⟨rfl, rfl⟩
      go_wp2_with fail
      refine HL.out.mono ?_
      rintro e w3 ⟨rfl, rfl⟩
      go_wp2_with fail
      (try rw [hE0])
      refine (HMu.out _).mono ?_
      rintro e w4 ⟨rfl, rfl⟩
      go_wp2_with fail
      go_ret2
      exact ⟨rfl, rfl⟩
    · have c2' : ¬ 10 < E' := by omega
      rcases HLo.out c1 with c3 | ⟨c3, c4⟩
      · go_enter Tryz.func131, Tryz.ntmps131
        go_wp2_with fail
        refine HG.out.mono ?_
        rintro e w1 ⟨rfl, rfl⟩
        go_wp2_with fail
        refine HF.out.mono ?_
        rintro e w2 ⟨rfl, rfl⟩
        go_wp2_with fail
        refine HL.out.mono ?_
        rintro e w3 ⟨rfl, rfl⟩
        go_wp2_with fail
        (try rw [hE0])
        refine (HMu.out _).mono ?_
        rintro e w4 ⟨rfl, rfl⟩
        go_wp2_with fail
        go_ret2
        exact ⟨rfl, rfl⟩
      · subst c3
        have c5 : (10000000000000 : Int) / 2 ^ E'.toNat < lo := by
          have : (10000000000000 : Int) / 2 ^ E'.toNat ≤ 10000000000000 := Int.ediv_le_self _ (by decide)
          omega
        have c6 : ¬ E' < 0 := by omega
        go_enter Tryz.func131, Tryz.ntmps131
        go_wp2_with fail
        refine HG.out.mono ?_
        rintro e w1 ⟨rfl, rfl⟩
        go_wp2_with fail
        refine HF.out.mono ?_
        rintro e w2 ⟨rfl, rfl⟩
        go_wp2_with fail
        refine HL.out.mono ?_
        rintro e w3 ⟨rfl, rfl⟩
        go_wp2_with fail
        (try rw [hE0])
        refine (HMu.out _).mono ?_
        rintro e w4 ⟨rfl, rfl⟩
        go_wp2_with fail
        go_ret2
        exact ⟨rfl, rfl⟩
  · rw [if_neg c1]
    by_cases c2 : E' < -74
    · rw [if_pos c2]
      go_enter Tryz.func131, Tryz.ntmps131
      go_wp2_with fail
      refine HG.out.mono ?_
      rintro e w1 ⟨rfl, rfl⟩
      go_wp2_with fail
      refine HF.out.mono ?_
      rintro e w2 ⟨rfl, rfl⟩
      go_wp2_with fail
      refine HL.out.mono ?_
      rintro e w3 ⟨rfl, rfl⟩
      go_wp2_with fail
      (try rw [hE0])
      refine (HMu.out _).mono ?_
      rintro e w4 ⟨rfl, rfl⟩
      go_wp2_with fail
      go_ret2
      exact ⟨rfl, rfl⟩
    · rw [if_neg c2]
      have HS2 := Lib.hid (HSh'.out (by omega) (by omega))
      obtain ⟨k, hk⟩ : ∃ k, -E' = k := ⟨_, rfl⟩
      rw [hk] at HS2
      have hk1 : wrap64 k = k := wr64 k (by omega)
      have hk2 : IntKind.u64.wrap k = k := by simp [IntKind.wrap, IntKind.signed, IntKind.bits]; omega
      have hk3 : k % 18446744073709551616 = k := by omega
      have hk4 : wrap64 (-E') = k := by rw [hk]; exact hk1
      clear HSh'
      cases ok with
      | false =>
        go_enter Tryz.func131, Tryz.ntmps131
        go_wp2_with fail
        refine HG.out.mono ?_
        rintro e w1 ⟨rfl, rfl⟩
        go_wp2_with fail
        refine HF.out.mono ?_
        rintro e w2 ⟨rfl, rfl⟩
        go_wp2_with fail
        refine HL.out.mono ?_
        rintro e w3 ⟨rfl, rfl⟩
        go_wp2_with fail
        (try rw [hE0])
        refine (HMu.out _).mono ?_
        rintro e w4 ⟨rfl, rfl⟩
        go_wp2_with fail
        refine (HS2.out _).mono ?_
        rintro e w5 ⟨rfl, rfl⟩
        go_wp2_with fail
        go_ret2
        exact ⟨rfl, rfl⟩
      | true =>
        rw [if_pos rfl]
        by_cases c3 : 10000000000000 < V
        · rw [if_pos c3]
          go_enter Tryz.func131, Tryz.ntmps131
          go_wp2_with fail
          refine HG.out.mono ?_
          rintro e w1 ⟨rfl, rfl⟩
          go_wp2_with fail
          refine HF.out.mono ?_
          rintro e w2 ⟨rfl, rfl⟩
          go_wp2_with fail
          refine HL.out.mono ?_
          rintro e w3 ⟨rfl, rfl⟩
          go_wp2_with fail
          (try rw [hE0])
          refine (HMu.out _).mono ?_
          rintro e w4 ⟨rfl, rfl⟩
          go_wp2_with fail
          refine (HS2.out _).mono ?_
          rintro e w5 ⟨rfl, rfl⟩
          go_wp2_with fail
          go_ret2
          exact ⟨rfl, rfl⟩
        · rw [if_neg c3]
          have hV1 : wrap64 V = V := wr64 V (by have := HV.out; omega)
          go_enter Tryz.func131, Tryz.ntmps131
          go_wp2_with fail
          refine HG.out.mono ?_
          rintro e w1 ⟨rfl, rfl⟩
          go_wp2_with fail
          refine HF.out.mono ?_
          rintro e w2 ⟨rfl, rfl⟩
          go_wp2_with fail
          refine HL.out.mono ?_
          rintro e w3 ⟨rfl, rfl⟩
          go_wp2_with fail
          (try rw [hE0])
          refine (HMu.out _).mono ?_
          rintro e w4 ⟨rfl, rfl⟩
          go_wp2_with fail
          refine (HS2.out _).mono ?_
          rintro e w5 ⟨rfl, rfl⟩
          go_wp2_with fail
          go_ret2
          refine ⟨?_, rfl⟩
          show Ending.returned (.tuple #[.int .i64 (wrap64 V), .int .i64 0]) = _
          rw [hV1]
end Go.Proofs.YtkcjgmicoifhcaaGreatDoor.Re

/- G7: What Take comes to, of any word: the program's. -/
namespace Go.Proofs.YtkcjgmicoifhcaaGreatDoor.Re
open Go.RowKit

def mant (x : Nat) : Nat := if x / 4503599627370496 % 2048 = 0 then x % 4503599627370496 else 4503599627370496 + x % 4503599627370496
def expo (x : Nat) : Nat := max (x / 4503599627370496 % 2048) 1
def tkN (x s : Nat) : Int × Int := if 1075 ≤ expo x then (0, 14) else if 10000000000000 < rnd (mant x * s) (1075 - expo x) then (0, 14) else ((rnd (mant x * s) (1075 - expo x) : Int), 0)
def tk (x : Nat) (S : Int) : Int × Int := if goodR x = false then (0, 13) else if S < 1 ∨ 1000000 < S then (0, 1) else tkN x S.toNat
theorem rnd_ge (W k : Nat) : W / 2 ^ k ≤ rnd W k := by unfold rnd; split <;> omega
theorem rnd_nil (W k : Nat) (hk : 0 < k) (h : W < 2 ^ (k - 1)) : rnd W k = 0 := by
  have hp : 2 ^ k = 2 * 2 ^ (k - 1) := by
    obtain ⟨j, rfl⟩ : ∃ j, k = j + 1 := ⟨k - 1, by omega⟩
    rw [Nat.pow_succ, Nat.mul_comm]; rfl
  unfold rnd
  rw [Nat.mod_eq_of_lt (by omega), Nat.div_eq_of_lt (by omega), if_neg (by omega)]
theorem mant_lt (x : Nat) : mant x < 9007199254740992 := by unfold mant; split <;> omega
theorem prod_lt (m s : Nat) (h : m < 9007199254740992) (hs : s ≤ 1000000) : m * s < 2 ^ 73 := by
  have : m * s ≤ 9007199254740992 * 1000000 := Nat.mul_le_mul (by omega) hs
  have : (9007199254740992 * 1000000 : Nat) < 2 ^ 73 := by decide
  omega
theorem shift_all (W k : Nat) (w : World) (h0 : 0 < k) (hk : k < 128) (hW : W < 2 ^ 128) :
    Calls Tryz.prog 151 #[.int .u64 ((W / 18446744073709551616 : Nat) : Int), .int .u64 ((W % 18446744073709551616 : Nat) : Int), .int .u64 (k : Int)] w fun e w' =>
      e = .returned (.tuple #[.int .u64 (if 10000000000000 < W / 2 ^ k then 0 else (rnd W k : Int)), .bool (!decide (10000000000000 < W / 2 ^ k))]) ∧ w' = w := by
  have hW' : W < 18446744073709551616 * 18446744073709551616 := by
    have : (2 : Nat) ^ 128 = 18446744073709551616 * 18446744073709551616 := by decide
    omega
  have hh : W / 18446744073709551616 < 18446744073709551616 := by rw [Nat.div_lt_iff_lt_mul (by decide)]; exact hW'
  have hl : W % 18446744073709551616 < 18446744073709551616 := Nat.mod_lt _ (by decide)
  have hj : W / 18446744073709551616 * 2 ^ 64 + W % 18446744073709551616 = W := by
    have : (2 : Nat) ^ 64 = 18446744073709551616 := by decide
    rw [this]; omega
  rcases Nat.lt_trichotomy k 64 with h | h | h
  · refine (shift_lo _ _ k w h0 h hh hl).mono ?_
    rintro e w' ⟨rfl, rfl⟩
    refine ⟨?_, rfl⟩
    rw [hj]
    by_cases h1 : 2 ^ k ≤ W / 18446744073709551616
    · have h2 : 10000000000000 < W / 2 ^ k := by
        have h3 : 18446744073709551616 ≤ W / 2 ^ k := by
          rw [Nat.le_div_iff_mul_le (Nat.two_pow_pos k)]
          have := Nat.mul_le_mul_left 18446744073709551616 h1
          omega
        omega
      rw [if_pos h1, if_pos h2]
      simp [h2]
    · rw [if_neg h1]
      by_cases h2 : 10000000000000 < W / 2 ^ k
      · rw [if_pos h2, if_pos h2]; simp [h2]
      · rw [if_neg h2, if_neg h2]; simp [h2]
  · subst h
    refine (shift_64 _ _ w hh hl).mono ?_
    rintro e w' ⟨rfl, rfl⟩
    refine ⟨?_, rfl⟩
    have e1 := rnd_hi (W / 18446744073709551616) (W % 18446744073709551616) 0 hl
    rw [hj] at e1
    have e2 : W / 2 ^ 64 = W / 18446744073709551616 := rfl
    rw [e2]
    by_cases h2 : 10000000000000 < W / 18446744073709551616
    · rw [if_pos h2, if_pos h2]; simp [h2]
    · rw [if_neg h2, if_neg h2, ← e1]; simp [h2]
  · obtain ⟨j, rfl⟩ : ∃ j, k = 64 + j := ⟨k - 64, by omega⟩
    refine (shift_hi _ _ j w (by omega) (by omega) hh hl).mono ?_
    rintro e w' ⟨rfl, rfl⟩
    refine ⟨?_, rfl⟩
    have e1 := rnd_hi (W / 18446744073709551616) (W % 18446744073709551616) j hl
    have e2 := (whole_hi (W / 18446744073709551616) (W % 18446744073709551616) j hl).1
    rw [hj] at e1 e2
    rw [e2, ← e1]
    by_cases h2 : 10000000000000 < W / 18446744073709551616 / 2 ^ j
    · rw [if_pos h2, if_pos h2]; simp [h2]
    · rw [if_neg h2, if_neg h2]; simp [h2]
theorem take_norm (e f s : Nat) (w : World) (h1 : 1 ≤ e) (h2 : e ≤ 2046) (hf : f < 4503599627370496) (hs1 : 1 ≤ s) (hs2 : s ≤ 1000000) :
    Calls Tryz.prog 131 #[.float .f64 (e * 4503599627370496 + f), .int .i64 (s : Int)] w fun e' w' => e' = .returned (.tuple #[.int .i64 (tkN (e * 4503599627370496 + f) s).1, .int .i64 (tkN (e * 4503599627370496 + f) s).2]) ∧ w' = w := by
  obtain ⟨hN, hG⟩ := nrm_word e f h1 h2 hf
  have hA : Nrm (1022 * 4503599627370496 + f) := (nrm_word 1022 f (by decide) (by decide) hf).1
  have hx := frA_word e f (by omega) hf
  have hE := frE_word e f (by omega) hf
  have hm : mant (e * 4503599627370496 + f) = 4503599627370496 + f := by unfold mant; rw [if_neg (by omega)]; omega
  have he : expo (e * 4503599627370496 + f) = e := by unfold expo; omega
  have hml : 4503599627370496 + f < 9007199254740992 := by omega
  have hW := prod_lt (4503599627370496 + f) s hml hs2
  have hmul := fun W => mul_calls (4503599627370496 + f) s W (by omega) (by omega)
  have hWm : 4503599627370496 ≤ (4503599627370496 + f) * s := by
    have := Nat.mul_le_mul (show 4503599627370496 ≤ 4503599627370496 + f by omega) hs1
    omega
  obtain ⟨P, hP⟩ : ∃ P, (4503599627370496 + f) * s = P := ⟨_, rfl⟩
  unfold tkN
  rw [hm, he]
  rw [hP] at hmul hW hWm ⊢
  have hlY := ldY_word 1022 f (by decide) hf
  have hbE : bits .and .i64 (wrap64 (((1022 * 4503599627370496 + f : Nat) : Int) / 4503599627370496)) 2047 = 1022 := by
    rw [show ((1022 * 4503599627370496 + f : Nat) : Int) / 4503599627370496 = 1022 by omega]
    kernel_rfl
  have hFr := fun w => Frexp_calls (e * 4503599627370496 + f) w hN
  have hLd := fun w => Ldexp_calls (1022 * 4503599627370496 + f) (1075 * 4503599627370496 + f) w hA hbE (by rw [hlY]; exact mul_one f hf)
  rw [hx, hE] at hFr
  have hVr : (0 : Int) ≤ (if 10000000000000 < P / 2 ^ (1075 - e) then 0 else (rnd P (1075 - e) : Int)) ∧ (if 10000000000000 < P / 2 ^ (1075 - e) then 0 else (rnd P (1075 - e) : Int)) ≤ 18446744073709551615 := by
    by_cases c : 10000000000000 < P / 2 ^ (1075 - e)
    · rw [if_pos c]; decide
    · rw [if_neg c]
      have : rnd P (1075 - e) ≤ P / 2 ^ (1075 - e) + 1 := by unfold rnd; split <;> omega
      omega
  have hSh : (e : Int) - 1022 - 53 < 0 → -74 ≤ (e : Int) - 1022 - 53 → ∀ W, Calls Tryz.prog 151 #[.int .u64 ((P / 18446744073709551616 : Nat) : Int), .int .u64 ((P % 18446744073709551616 : Nat) : Int), .int .u64 (-((e : Int) - 1022 - 53))] W fun e' w' =>
      e' = .returned (.tuple #[.int .u64 (if 10000000000000 < P / 2 ^ (1075 - e) then 0 else (rnd P (1075 - e) : Int)), .bool (!decide (10000000000000 < P / 2 ^ (1075 - e)))]) ∧ w' = W := by
    intro c1 c2 W
    have := shift_all P (1075 - e) W (by omega) (by omega) (by omega)
    rw [show ((1075 - e : Nat) : Int) = -((e : Int) - 1022 - 53) by omega] at this
    exact this
  have key := take_gen (e * 4503599627370496 + f) (1022 * 4503599627370496 + f) (1075 * 4503599627370496 + f) (s : Int)
    (if 10000000000000 < P / 2 ^ (1075 - e) then 0 else (rnd P (1075 - e) : Int)) ((e : Int) - 1022) ((4503599627370496 + f : Nat) : Int)
    ((P / 18446744073709551616 : Nat) : Int) ((P % 18446744073709551616 : Nat) : Int) (!decide (10000000000000 < P / 2 ^ (1075 - e))) w hG hN.z (by omega) (by omega) hFr hLd (to_int f hf) (by rw [IntKind.wrap_u64]; omega) (by omega) hmul
    (by intro _; omega) (by omega) hSh hVr
  refine key.mono ?_
  rintro e' w' ⟨rfl, rfl⟩
  refine ⟨?_, rfl⟩
  clear key hSh hFr hLd hmul hVr hbE
  unfold tkV
  by_cases c1 : 1075 ≤ e
  · rw [if_pos c1, if_pos (by omega)]
  · rw [if_neg c1, if_neg (by omega)]
    by_cases c2 : (e : Int) - 1022 - 53 < -74
    · rw [if_pos c2]
      have hz : rnd P (1075 - e) = 0 := rnd_nil P _ (by omega) (by
        have : 2 ^ 74 ≤ 2 ^ (1075 - e - 1) := Nat.pow_le_pow_right (by decide) (by omega)
        omega)
      rw [hz, if_neg (by decide)]
      rfl
    · rw [if_neg c2]
      have hr := rnd_ge P (1075 - e)
      by_cases c3 : 10000000000000 < P / 2 ^ (1075 - e)
      · have c4 : (!decide (10000000000000 < P / 2 ^ (1075 - e))) = false := by simp [c3]
        rw [c4, if_neg (by decide), if_pos (show 10000000000000 < rnd P (1075 - e) by omega)]
      · have c4 : (!decide (10000000000000 < P / 2 ^ (1075 - e))) = true := by simp [c3]
        rw [c4, if_pos rfl, if_neg c3]
        by_cases c5 : 10000000000000 < rnd P (1075 - e)
        · rw [if_pos c5, if_pos (by omega)]
        · rw [if_neg c5, if_neg (by omega)]
theorem take_low (f s : Nat) (w : World) (h0 : 0 < f) (hf : f < 4503599627370496) (hs1 : 1 ≤ s) (hs2 : s ≤ 1000000) :
    Calls Tryz.prog 131 #[.float .f64 f, .int .i64 (s : Int)] w fun e' w' => e' = .returned (.tuple #[.int .i64 (tkN f s).1, .int .i64 (tkN f s).2]) ∧ w' = w := by
  obtain ⟨hG, hz, hi, hn, hsm⟩ := good_low f h0 hf
  obtain ⟨e, g, h1, h2, hg, hM⟩ := mul_low f h0 hf
  have hA : Nrm (1022 * 4503599627370496 + g) := (nrm_word 1022 g (by decide) (by decide) hg).1
  have hx := frA_word e g (by omega) hg
  have hE : wrap64 (-52 + wrap64 (wrap64 (wrap64 (bits .and .u64 (((e * 4503599627370496 + g : Nat) : Int) / 4503599627370496) 2047) - 1023) + 1)) = (e : Int) - 1074 := by
    rw [exp_word e g (by omega) hg, wr64 (e : Int) (by omega), wr64 ((e : Int) - 1023) (by omega), wr64 ((e : Int) - 1023 + 1) (by omega), wr64 _ (by omega)]
    omega
  have hFr := fun w => Frexp_of f _ _ w (frexp_low f _ _ w hz hi hn hsm hM hE)
  rw [hx] at hFr
  have hlY := ldY_word 1022 g (by decide) hg
  have hbE : bits .and .i64 (wrap64 (((1022 * 4503599627370496 + g : Nat) : Int) / 4503599627370496)) 2047 = 1022 := by
    rw [show ((1022 * 4503599627370496 + g : Nat) : Int) / 4503599627370496 = 1022 by omega]
    kernel_rfl
  have hLd := fun w => Ldexp_calls (1022 * 4503599627370496 + g) (1075 * 4503599627370496 + g) w hA hbE (by rw [hlY]; exact mul_one g hg)
  have hmul := fun W => mul_calls (4503599627370496 + g) s W (by omega) (by omega)
  have key := take_gen f (1022 * 4503599627370496 + g) (1075 * 4503599627370496 + g) (s : Int) 0 ((e : Int) - 1074) ((4503599627370496 + g : Nat) : Int) _ _ true w hG hz (by omega) (by omega) hFr hLd (to_int g hg) (by rw [IntKind.wrap_u64]; omega) (by omega) hmul
    (by intro _; omega) (by omega) (by intro _ _; omega) (by omega)
  refine key.mono ?_
  rintro e' w' ⟨rfl, rfl⟩
  refine ⟨?_, rfl⟩
  clear key hFr hLd hmul hbE hE hM
  have hm : mant f = f := by unfold mant; rw [if_pos (by omega)]; omega
  have he : expo f = 1 := by unfold expo; omega
  have hW := prod_lt f s (by omega) hs2
  unfold tkV tkN
  rw [hm, he, if_neg (by omega), if_pos (by omega), if_neg (by omega)]
  have hz : ∀ K, K = 1075 - 1 → rnd (f * s) K = 0 := by
    intro K hK
    refine rnd_nil _ _ (by omega) ?_
    have : 2 ^ 74 ≤ 2 ^ (K - 1) := Nat.pow_le_pow_right (by decide) (by omega)
    omega
  rw [hz _ rfl, if_neg (by decide)]
  rfl
theorem tk_nil (x s : Nat) (h : x = 0 ∨ x = 9223372036854775808) : tkN x s = (0, 0) := by
  have hm : mant x = 0 := by rcases h with rfl | rfl <;> rfl
  have he : expo x = 1 := by rcases h with rfl | rfl <;> rfl
  unfold tkN
  rw [hm, he, Nat.zero_mul, rnd_nil 0 (1075 - 1) (by decide) (Nat.two_pow_pos _), if_neg (by decide), if_neg (by decide)]
  rfl
/-- Take, of any word and any scale. -/
theorem take_all (x : Nat) (S : Int) (w : World) (hx : x < 18446744073709551616) :
    Calls Tryz.prog 131 #[.float .f64 x, .int .i64 S] w fun e' w' => e' = .returned (.tuple #[.int .i64 (tk x S).1, .int .i64 (tk x S).2]) ∧ w' = w := by
  unfold tk
  rcases Bool.eq_false_or_eq_true (goodR x) with hg | hg
  · rw [if_neg (by rw [hg]; decide)]
    by_cases hS : S < 1 ∨ 1000000 < S
    · rw [if_pos hS]
      exact take_arg x S w hg hS
    · rw [if_neg hS]
      obtain ⟨s, rfl⟩ : ∃ s : Nat, S = (s : Int) := ⟨S.toNat, by omega⟩
      rw [show ((s : Int)).toNat = s by omega]
      rcases good_cases x hx hg with h | ⟨e, f, h1, h2, rfl⟩
      · rw [tk_nil x s (.inr h)]
        subst h
        exact take_nil _ _ w hg good_nil2.2 (by omega) (by omega)
      · rcases Nat.eq_zero_or_pos e with rfl | he
        · rw [show 0 * 4503599627370496 + f = f by omega] at hg ⊢
          rcases Nat.eq_zero_or_pos f with rfl | hf
          · rw [tk_nil 0 s (.inl rfl)]
            exact take_nil _ _ w hg good_nil.2 (by omega) (by omega)
          · exact take_low f s w hf h2 (by omega) (by omega)
        · exact take_norm e f s w he h1 h2 (by omega) (by omega)
  · rw [if_pos hg]
    exact take_bad x S w hg
end Go.Proofs.YtkcjgmicoifhcaaGreatDoor.Re

/- G8: The product by halves: the reference's. -/
namespace Go.Proofs.YtkcjgmicoifhcaaGreatDoor.Re
open Go.RowKit

theorem mul_lo (x y : Nat) (_hx : x < 18446744073709551616) (_hy : y < 18446744073709551616) :
    IntKind.u64.wrap (IntKind.u64.wrap (IntKind.u64.wrap (IntKind.u64.wrap ((x : Int) % 4294967296 * ((y : Int) / 4294967296)) + bits .and .u64 (IntKind.u64.wrap (IntKind.u64.wrap ((x : Int) / 4294967296 * ((y : Int) % 4294967296)) + IntKind.u64.wrap ((x : Int) % 4294967296 * ((y : Int) % 4294967296)) / 4294967296)) 4294967295) * 4294967296) +
      bits .and .u64 (IntKind.u64.wrap ((x : Int) % 4294967296 * ((y : Int) % 4294967296))) 4294967295) = ((x * y % 18446744073709551616 : Nat) : Int) := by
  rw [and32 _ (by rw [IntKind.wrap_u64]; omega) (by rw [IntKind.wrap_u64]; omega), and32 _ (by rw [IntKind.wrap_u64]; omega) (by rw [IntKind.wrap_u64]; omega)]
  simp only [IntKind.wrap_u64]
  obtain ⟨a1, h1⟩ : ∃ a1, (x : Int) / 4294967296 = a1 := ⟨_, rfl⟩
  obtain ⟨a0, h2⟩ : ∃ a1, (x : Int) % 4294967296 = a1 := ⟨_, rfl⟩
  obtain ⟨b1, h3⟩ : ∃ a1, (y : Int) / 4294967296 = a1 := ⟨_, rfl⟩
  obtain ⟨b0, h4⟩ : ∃ a1, (y : Int) % 4294967296 = a1 := ⟨_, rfl⟩
  have ex : (x : Int) = a1 * 4294967296 + a0 := by omega
  have ey : (y : Int) = b1 * 4294967296 + b0 := by omega
  have exy : (x : Int) * y = (a1 * b1) * 18446744073709551616 + (a1 * b0) * 4294967296 + (a0 * b1) * 4294967296 + a0 * b0 := by
    rw [ex, ey, Int.add_mul, Int.mul_add, Int.mul_add]
    have e1 : a1 * 4294967296 * (b1 * 4294967296) = (a1 * b1) * 18446744073709551616 := by
      rw [Int.mul_assoc, ← Int.mul_assoc 4294967296, Int.mul_comm 4294967296 b1, Int.mul_assoc, ← Int.mul_assoc]; rfl
    have e2 : a1 * 4294967296 * b0 = (a1 * b0) * 4294967296 := by rw [Int.mul_assoc, Int.mul_comm 4294967296, ← Int.mul_assoc]
    have e3 : a0 * (b1 * 4294967296) = (a0 * b1) * 4294967296 := by rw [Int.mul_assoc]
    omega
  rw [h1, h2, h3, h4]
  have hc : ((x * y % 18446744073709551616 : Nat) : Int) = (x : Int) * y % 18446744073709551616 := by simp
  rw [hc, exy]
  generalize a1 * b1 = C
  generalize a1 * b0 = B
  generalize a0 * b1 = A
  generalize a0 * b0 = p
  clear exy ex ey h1 h2 h3 h4 hc _hx _hy
  omega
set_option maxRecDepth 20000 in
set_option maxHeartbeats 4000000 in
theorem rmul_calls (x y : Nat) (w : World) (hx : x < 18446744073709551616) (hy : y < 18446744073709551616) :
    Calls Tryz.prog 146 #[.int .u64 (x : Int), .int .u64 (y : Int)] w fun e w' => e = .returned (.agg #[.int .u64 ((x * y / 18446744073709551616 : Nat) : Int), .int .u64 ((x * y % 18446744073709551616 : Nat) : Int)]) ∧ Below w.heap.size w w' := by
  have b1 : bits .and .u64 (x : Int) 4294967295 = (x : Int) % 4294967296 := and32 _ (by omega) (by omega)
  have b2 : bits .and .u64 (y : Int) 4294967295 = (y : Int) % 4294967296 := and32 _ (by omega) (by omega)
  have HH := mul_hi x y hx hy
  rw [Int.add_comm (bits .and .u64 _ _)] at HH
  have HL := mul_lo x y hx hy
  have c1 : ((x * y / 18446744073709551616 : Nat) : Int) = (x : Int) * y / 18446744073709551616 := by simp
  have c2 : ((x * y % 18446744073709551616 : Nat) : Int) = (x : Int) * y % 18446744073709551616 := by simp
  rw [c1, c2]
  rw [c1] at HH
  rw [c2] at HL
  clear c1 c2
  go_enter Tryz.func146, Tryz.ntmps146
  go_wp2_with fail
  have hnew := heap_alloc_new w (.cells #[.int .u64 ((x : Int) * y / 18446744073709551616), .int .u64 ((x : Int) * y % 18446744073709551616)] 180)
  have hbl : Below w.heap.size w (w.alloc (.cells #[.int .u64 ((x : Int) * y / 18446744073709551616), .int .u64 ((x : Int) * y % 18446744073709551616)] 180)) := (Below.refl _ _).alloc (Nat.le_refl _) _
  (try simp only [Exit.inBlock, Exit.then])
  refine bodyPost_ret (results_cell_row (p := 4) (ty := 180) rfl _ _ w.heap.size 180 _ _ _ rfl hnew Tryz.underlying180 rfl (by kernel_rfl)) rfl ?_
  exact ⟨rfl, hbl⟩
end Go.Proofs.YtkcjgmicoifhcaaGreatDoor.Re

/- G9: The reference's Take: its laws. -/
namespace Go.Proofs.YtkcjgmicoifhcaaGreatDoor.Re
open Go.RowKit

def hfB (W k : Nat) : Bool := decide (0 < k) && decide (W / 2 ^ (k - 1) % 2 = 1)
def rsB (W k : Nat) : Bool := decide (0 < k) && decide (W % 2 ^ (k - 1) ≠ 0)
theorem half_nat (W k : Nat) : W / 2 ^ (k + 1) = W / 2 ^ k / 2 := by rw [Nat.pow_succ, Nat.div_div_eq_div_mul]
theorem half_hi (V : Nat) : V / 2 / 18446744073709551616 = V / 18446744073709551616 / 2 := by omega
theorem half_lo (V : Nat) : V / 2 % 18446744073709551616 = V % 18446744073709551616 / 2 + V / 18446744073709551616 % 2 * 9223372036854775808 := by omega
theorem hf_next (W k : Nat) : hfB W (k + 1) = decide (W / 2 ^ k % 18446744073709551616 % 2 = 1) := by
  unfold hfB
  rw [show k + 1 - 1 = k by omega]
  have : W / 2 ^ k % 18446744073709551616 % 2 = W / 2 ^ k % 2 := by omega
  rw [this]
  simp
theorem rs_next (W k : Nat) : rsB W (k + 1) = (rsB W k || hfB W k) := by
  unfold rsB hfB
  cases k with
  | zero => simp [Nat.mod_one]
  | succ j =>
    rw [show j + 1 + 1 - 1 = j + 1 by omega, show j + 1 - 1 = j by omega]
    have e : W % 2 ^ (j + 1) = W % 2 ^ j + 2 ^ j * (W / 2 ^ j % 2) := Nat.mod_pow_succ
    have hp := Nat.two_pow_pos j
    rw [e]
    rcases Nat.mod_two_eq_zero_or_one (W / 2 ^ j) with h | h
    · rw [h]; simp
    · rw [h]
      simp
theorem rnd_bits (W k : Nat) (hk : 0 < k) : rnd W k = if hfB W k = true ∧ (rsB W k = true ∨ W / 2 ^ k % 2 = 1) then W / 2 ^ k + 1 else W / 2 ^ k := by
  obtain ⟨j, rfl⟩ : ∃ j, k = j + 1 := ⟨k - 1, by omega⟩
  unfold rnd hfB rsB
  rw [show j + 1 - 1 = j by omega]
  have e : W % 2 ^ (j + 1) = W % 2 ^ j + 2 ^ j * (W / 2 ^ j % 2) := Nat.mod_pow_succ
  have hp := Nat.two_pow_pos j
  have hl := Nat.mod_lt W hp
  rw [e]
  have hb := Nat.mod_two_eq_zero_or_one (W / 2 ^ j)
  generalize W / 2 ^ (j + 1) = q at *
  generalize W / 2 ^ j % 2 = b at *
  generalize W % 2 ^ j = r at *
  generalize 2 ^ j = P at *
  simp only [decide_eq_true_eq, Bool.and_eq_true]
  rcases hb with rfl | rfl
  · rw [if_neg, if_neg] <;> omega
  · by_cases c : r = 0
    · by_cases d : q % 2 = 1
      · rw [if_pos, if_pos] <;> omega
      · rw [if_neg, if_neg] <;> omega
    · rw [if_pos, if_pos] <;> omega
theorem and11 (T : Nat) (h1 : T < 18446744073709551616) : bits .and .u64 (T : Int) 2047 = ((T % 2048 : Nat) : Int) := by
  have := bits_and_u64_nat T 2047 (by omega) (by decide)
  rw [show (2047 : Nat) = 2 ^ 11 - 1 by decide, Nat.and_two_pow_sub_one_eq_mod] at this
  simpa using this
theorem and52 (T : Nat) (h1 : T < 18446744073709551616) : bits .and .u64 (T : Int) 4503599627370495 = ((T % 4503599627370496 : Nat) : Int) := by
  have := bits_and_u64_nat T 4503599627370495 (by omega) (by decide)
  rw [show (4503599627370495 : Nat) = 2 ^ 52 - 1 by decide, Nat.and_two_pow_sub_one_eq_mod] at this
  simpa using this
end Go.Proofs.YtkcjgmicoifhcaaGreatDoor.Re

/- H0: The reference's Take: the walk. -/
namespace Go.Proofs.YtkcjgmicoifhcaaGreatDoor.Re
open Go.RowKit

set_option maxRecDepth 20000 in
theorem rtake_bad (x : Nat) (S : Int) (w : World) (hg : goodR x = false) :
    Calls Tryz.prog 127 #[.float .f64 x, .int .i64 S] w fun e' w' => e' = .returned (.tuple #[.int .i64 0, .int .i64 13]) ∧ Below w.heap.size w w' := by
  have HG := Lib.hid (rgood_calls x w)
  rw [hg] at HG
  go_enter Tryz.func127, Tryz.ntmps127
  go_wp2_with fail
  refine HG.out.mono ?_
  rintro e w1 ⟨rfl, rfl⟩
  go_wp2_with fail
  go_ret2
  exact ⟨rfl, Below.refl _ _⟩
set_option maxRecDepth 20000 in
theorem rtake_arg (x : Nat) (S : Int) (w : World) (hg : goodR x = true) (hS : S < 1 ∨ 1000000 < S) :
    Calls Tryz.prog 127 #[.float .f64 x, .int .i64 S] w fun e' w' => e' = .returned (.tuple #[.int .i64 0, .int .i64 1]) ∧ Below w.heap.size w w' := by
  have HG := Lib.hid (rgood_calls x w)
  rw [hg] at HG
  by_cases h1 : S < 1
  · go_enter Tryz.func127, Tryz.ntmps127
    go_wp2_with fail
    refine HG.out.mono ?_
    rintro e w1 ⟨rfl, rfl⟩
    go_wp2_with fail
    go_ret2
    exact ⟨rfl, Below.refl _ _⟩
  · have h2 : 1000000 < S := by omega
    go_enter Tryz.func127, Tryz.ntmps127
    go_wp2_with fail
    refine HG.out.mono ?_
    rintro e w1 ⟨rfl, rfl⟩
    go_wp2_with fail
    go_ret2
    exact ⟨rfl, Below.refl _ _⟩
theorem beq_one (l : Nat) : ((l : Int) % 2 == 1) = decide (l % 2 = 1) := by
  have : ((l : Int) % 2 = 1) ↔ (l % 2 = 1) := by omega
  simp only [BEq.beq, decide_eq_decide]
  exact this
theorem plus_small (V : Nat) (h : V < 10000000000000) : decide ((10000000000000 : Int) < (V : Int) + 1) = false := by
  rw [decide_eq_false_iff_not]; omega
theorem small_too (V : Nat) (h : V < 10000000000000) : decide ((10000000000000 : Int) < (V : Int)) = false := by
  rw [decide_eq_false_iff_not]; omega
set_option maxRecDepth 20000 in
set_option maxHeartbeats 4000000 in
theorem rtake_gen (x s : Nat) (w : World) (hx : x < 18446744073709551616) (hg : goodR x = true) (hS1 : 1 ≤ s) (hS2 : s ≤ 1000000) (he2 : expo x ≤ 2046) :
    Calls Tryz.prog 127 #[.float .f64 x, .int .i64 (s : Int)] w fun e' w' => e' = .returned (.tuple #[.int .i64 (tkN x s).1, .int .i64 (tkN x s).2]) ∧ Below w.heap.size w w' := by
  have HG := Lib.hid (rgood_calls x w)
  rw [hg] at HG
  have hbr := bits_run x
  have hb1 : bits .and .u64 ((x : Int) / 4503599627370496) 2047 = ((x / 4503599627370496 % 2048 : Nat) : Int) := and11 (x / 4503599627370496) (by omega)
  have hb2 := and52 x hx
  have hE : expo x = if x / 4503599627370496 % 2048 = 0 then 1 else x / 4503599627370496 % 2048 := by unfold expo; split <;> omega
  have hM : mant x = if x / 4503599627370496 % 2048 = 0 then x % 4503599627370496 else 4503599627370496 + x % 4503599627370496 := rfl
  obtain ⟨E, hEE⟩ : ∃ E, x / 4503599627370496 % 2048 = E := ⟨_, rfl⟩
  obtain ⟨F, hFF⟩ : ∃ E, x % 4503599627370496 = E := ⟨_, rfl⟩
  have hF : F < 4503599627370496 := by omega
  have hEb : E < 2048 := by omega
  rw [hEE] at hb1 hE hM
  rw [hFF] at hb2 hM
  have HT := Lib.hid (show tkN x s = if 1075 ≤ expo x then ((0, 14) : Int × Int) else if 10000000000000 < rnd (mant x * s) (1075 - expo x) then (0, 14) else ((rnd (mant x * s) (1075 - expo x) : Int), 0) from rfl)
  have hml := mant_lt x
  generalize tkN x s = tr at *
  generalize expo x = ex at *
  generalize mant x = m at *
  have HM := Lib.hid hM
  have HE := Lib.hid hE
  clear hM hE hEE hFF
  go_enter Tryz.func127, Tryz.ntmps127
  go_wp2_with fail
  refine HG.out.mono ?_
  rintro e w1 ⟨rfl, rfl⟩
  go_upto_if 34 with fail
  go_cut [7, 8] from 33 to 36 (fun a b W => a = .int .i64 (ex : Int) ∧ b = .int .u64 (m : Int) ∧ W = w1)
  case first =>
    by_cases h0 : E = 0
    · subst h0
      have h1 := HE.out
      have h2 := HM.out
      rw [if_pos rfl] at h1 h2
      subst h1
      subst h2
      go_wp2_with fail
      go_meet
      case rel => exact ⟨rfl, rfl, rfl⟩
    · have h1 := HE.out
      have h2 := HM.out
      rw [if_neg h0] at h1 h2
      subst h1
      subst h2
      go_wp2_with fail
      go_meet
      case rel => exact ⟨rfl, by rw [Int.natCast_add, Int.add_comm]; rfl, rfl⟩
  case rest =>
    obtain ⟨rfl, rfl, rfl⟩ := hcut
    have HR := Lib.hid (fun W => rmul_calls m s W (by omega) (by omega))
    go_wp2_with fail
    refine (HR.out _).mono ?_
    rintro e w2 ⟨rfl, b2⟩
    have hmh : m * s / 18446744073709551616 < 18446744073709551616 := by
      have := prod_lt m s hml hS2
      omega
    have hll : m * s % 18446744073709551616 < 18446744073709551616 := Nat.mod_lt _ (by decide)
    have hbig : 1075 ≤ ex → 0 < m * s / 18446744073709551616 ∨ 10000000000000 < m * s % 18446744073709551616 := by
      intro c
      have h1 := HE.out
      have h2 := HM.out
      have h0 : E ≠ 0 := by
        intro h0
        rw [if_pos h0] at h1
        omega
      rw [if_neg h0] at h2
      have := Nat.mul_le_mul (show 4503599627370496 ≤ m by omega) hS1
      omega
    have hP := Lib.hid (prod_lt m s hml hS2)
    generalize m * s = P at *
    obtain ⟨H, hH⟩ : ∃ H, P / 18446744073709551616 = H := ⟨_, rfl⟩
    obtain ⟨L, hL⟩ : ∃ H, P % 18446744073709551616 = H := ⟨_, rfl⟩
    rw [hH] at hbig hmh ⊢
    rw [hL] at hbig hll ⊢
    have hn := heap_alloc_new w2 (.cells #[.int .u64 (H : Int), .int .u64 (L : Int)] 180)
    have HN := Lib.hid hn
    have c0 : (w2.alloc (.cells #[.int .u64 (H : Int), .int .u64 (L : Int)] 180)).cell? ⟨w2.heap.size, 0, none⟩ = some (.int .u64 (H : Int)) := cell_of_row _ _ 0 _ _ _ hn
    have c1 : (w2.alloc (.cells #[.int .u64 (H : Int), .int .u64 (L : Int)] 180)).cell? ⟨w2.heap.size, 1, none⟩ = some (.int .u64 (L : Int)) := cell_of_row _ _ 1 _ _ _ hn
    have HB2 := Lib.hid b2
    have HBL := Lib.hid (b2.alloc b2.size (.cells #[.int .u64 (H : Int), .int .u64 (L : Int)] 180))
    clear b2 HM HE hb1 hb2 hF hEb hn
    by_cases hbg : 1075 ≤ ex
    · have hbig := hbig hbg
      have ht := HT.out
      rw [if_pos hbg] at ht
      subst ht
      clear HT
      rcases Nat.eq_or_lt_of_le hbg with he | he
      · subst he
        rcases Nat.eq_zero_or_pos H with h0 | h0
        · subst h0
          go_wp2_with fail
          go_loopw [11] (fun i wr => i = .int .i64 0 ∧ wr = w2.alloc (.cells #[.int .u64 0, .int .u64 (L : Int)] 180)) (fun _ _ => 0)
          case atStart => exact ⟨rfl, rfl⟩
          case round =>
            obtain ⟨rfl, rfl⟩ := hrel
            go_wp2_with fail
            go_ret2
            exact ⟨rfl, HBL.out⟩
        · go_wp2_with fail
          go_loopw [11] (fun i wr => i = .int .i64 0 ∧ wr = w2.alloc (.cells #[.int .u64 (H : Int), .int .u64 (L : Int)] 180)) (fun _ _ => 0)
          case atStart => exact ⟨rfl, rfl⟩
          case round =>
            obtain ⟨rfl, rfl⟩ := hrel
            go_wp2_with fail
            go_ret2
            exact ⟨rfl, HBL.out⟩
      · rcases Nat.eq_zero_or_pos H with h0 | h0
        · subst h0
          go_wp2_with fail
          go_loopw [11] (fun i wr => i = .int .i64 0 ∧ wr = w2.alloc (.cells #[.int .u64 0, .int .u64 (L : Int)] 180)) (fun _ _ => 0)
          case atStart => exact ⟨rfl, rfl⟩
          case round =>
            obtain ⟨rfl, rfl⟩ := hrel
            go_wp2_with fail
            go_ret2
            exact ⟨rfl, HBL.out⟩
        · go_wp2_with fail
          go_loopw [11] (fun i wr => i = .int .i64 0 ∧ wr = w2.alloc (.cells #[.int .u64 (H : Int), .int .u64 (L : Int)] 180)) (fun _ _ => 0)
          case atStart => exact ⟨rfl, rfl⟩
          case round =>
            obtain ⟨rfl, rfl⟩ := hrel
            go_wp2_with fail
            go_ret2
            exact ⟨rfl, HBL.out⟩
    · have ht := HT.out
      rw [if_neg hbg] at ht
      have HT2 := Lib.hid ht
      clear ht HT hbig
      go_wp2_with fail
      go_loopw [14, 12, 13] (fun i h r wr => ∃ k : Nat, k ≤ 1075 - ex ∧ k ≤ 200 ∧ i = .int .i64 (k : Int) ∧ h = .bool (hfB P k) ∧ r = .bool (rsB P k) ∧ wr.heap[w2.heap.size]? = some (.cells #[.int .u64 ((P / 2 ^ k / 18446744073709551616 : Nat) : Int), .int .u64 ((P / 2 ^ k % 18446744073709551616 : Nat) : Int)] 180 (0, 0)) ∧ Below wc.heap.size wc wr) (fun i _ _ _ => 200 - (intOf i).toNat)
      case atStart =>
        refine ⟨0, by omega, by omega, rfl, rfl, rfl, ?_, HBL.out⟩
        simp only [Nat.pow_zero, Nat.div_one]
        rw [hH, hL]
        exact HN.out
      case round =>
        obtain ⟨k, hk1, hk2, rfl, rfl, rfl, hn, hb⟩ := hrel
        have hi1 := half_nat P k
        have hi2 := half_hi (P / 2 ^ k)
        have hi3 := half_lo (P / 2 ^ k)
        have hi4 := hf_next P k
        have hi5 := rs_next P k
        have hh : P / 2 ^ k / 18446744073709551616 < 18446744073709551616 := by
          have h1 := Nat.div_le_self P (2 ^ k)
          have h2 := hP.out
          omega
        have hl : P / 2 ^ k % 18446744073709551616 < 18446744073709551616 := Nat.mod_lt _ (by decide)
        clear c0 c1
        by_cases d1 : k < 1075 - ex
        · by_cases d2 : k < 200
          · obtain ⟨h, ehh⟩ : ∃ h, P / 2 ^ k / 18446744073709551616 = h := ⟨_, rfl⟩
            obtain ⟨l, ell⟩ : ∃ h, P / 2 ^ k % 18446744073709551616 = h := ⟨_, rfl⟩
            rw [ehh] at hi2 hi3 hh hn
            rw [ell] at hi3 hi4 hl hn
            rw [← hi1] at hi2 hi3
            obtain ⟨b1, eb1⟩ : ∃ b, hfB P k = b := ⟨_, rfl⟩
            obtain ⟨b2, eb2⟩ : ∃ b, rsB P k = b := ⟨_, rfl⟩
            rw [eb1, eb2] at hi5 ⊢
            have Hi2 := Lib.hid hi2
            have Hi3 := Lib.hid hi3
            have Hi4 := Lib.hid hi4
            have Hi5 := Lib.hid hi5
            have Hb := Lib.hid hb
            have Hn := Lib.hid hn
            have k0 : wr.cell? ⟨w2.heap.size, 0, none⟩ = some (.int .u64 (h : Int)) := cell_of_row _ _ 0 _ _ _ hn
            have k1 : wr.cell? ⟨w2.heap.size, 1, none⟩ = some (.int .u64 (l : Int)) := cell_of_row _ _ 1 _ _ _ hn
            have y0 : wr.frozen? ⟨w2.heap.size, 0, none⟩ = false := frozen_of_row _ _ 0 _ _ hn
            have y1 : wr.frozen? ⟨w2.heap.size, 1, none⟩ = false := frozen_of_row _ _ 1 _ _ hn
            clear hi1 hi2 hi3 hi4 hi5 hb hn ehh ell eb1 eb2 hH hL HR HG
            cases b2
            all_goals
              go_wp2_with fail
              refine ⟨⟨k + 1, by omega, by omega, by rw [Int.natCast_add]; rfl, ?_, ?_, ?_, ?_⟩, by simp [intOf]; omega⟩
              · rw [Hi4.out]
                congr 1
                exact beq_one l
              · rw [Hi5.out]
                simp
              · have q := heap_setCell_same _ _ 0 _ 180 (.int .u64 ((h : Int) / 2)) (heap_setCell_same _ _ 1 _ 180 (.int .u64 ((l : Int) / 2 + (h : Int) % 2 * 9223372036854775808)) Hn.out)
                rw [Hi2.out, Hi3.out]
                exact q
              · exact below_set2 Hb.out HB2.out.size 1 0 _ _
          · obtain rfl : k = 200 := by omega
            have hz : P / 2 ^ 200 = 0 := Nat.div_eq_of_lt (Nat.lt_trans hP.out (by decide))
            have hr : rnd P (1075 - ex) = 0 := rnd_nil P _ (by omega) (by
              have h1 := hP.out
              have : 2 ^ 73 ≤ 2 ^ (1075 - ex - 1) := Nat.pow_le_pow_right (by decide) (by omega)
              omega)
            have ht := HT2.out
            rw [hr, if_neg (by decide)] at ht
            subst ht
            rw [hz] at hn
            have k0 : wr.cell? ⟨w2.heap.size, 0, none⟩ = some (.int .u64 0) := cell_of_row _ _ 0 _ _ _ hn
            have k1 : wr.cell? ⟨w2.heap.size, 1, none⟩ = some (.int .u64 0) := cell_of_row _ _ 1 _ _ _ hn
            have Hb := Lib.hid hb
            clear hi1 hi2 hi3 hi4 hi5 hb hn hh hl hz hr hH hL
            go_wp2_with fail
            go_ret2
            exact ⟨rfl, Hb.out⟩
        · obtain rfl : k = 1075 - ex := by omega
          have ht := HT2.out
          rw [rnd_bits P _ (by omega)] at ht
          obtain ⟨b1, eb1⟩ : ∃ b, hfB P (1075 - ex) = b := ⟨_, rfl⟩
          obtain ⟨b2, eb2⟩ : ∃ b, rsB P (1075 - ex) = b := ⟨_, rfl⟩
          rw [eb1, eb2] at ht ⊢
          generalize P / 2 ^ (1075 - ex) = V at *
          clear hi1 hi2 hi3 hi4 hi5 hH hL eb1 eb2 HT2
          obtain ⟨h, ehh⟩ : ∃ h, V / 18446744073709551616 = h := ⟨_, rfl⟩
          obtain ⟨l, ell⟩ : ∃ h, V % 18446744073709551616 = h := ⟨_, rfl⟩
          rw [ehh, ell] at hn
          rw [ehh] at hh
          rw [ell] at hl
          have k0 : wr.cell? ⟨w2.heap.size, 0, none⟩ = some (.int .u64 (h : Int)) := cell_of_row _ _ 0 _ _ _ hn
          have k1 : wr.cell? ⟨w2.heap.size, 1, none⟩ = some (.int .u64 (l : Int)) := cell_of_row _ _ 1 _ _ _ hn
          have Hb := Lib.hid hb
          clear hb hn
          rcases Nat.eq_zero_or_pos h with q | q
          · subst q
            obtain rfl : V = l := by omega
            clear ehh ell hh
            by_cases q2 : 10000000000000 < V
            · have e1 : (if b1 = true ∧ (b2 = true ∨ V % 2 = 1) then V + 1 else V) > 10000000000000 := by split <;> omega
              rw [if_pos e1] at ht
              subst ht
              clear e1
              go_wp2_with fail
              go_ret2
              exact ⟨rfl, Hb.out⟩
            · have hp := beq_one V
              have hV2 := Nat.mod_two_eq_zero_or_one V
              by_cases q3 : V = 10000000000000
              · subst q3
                cases b1 <;> cases b2
                all_goals
                  simp at ht
                  subst ht
                  go_wp2_with fail
                  go_ret2
                  exact ⟨rfl, Hb.out⟩
              · rcases hV2 with q4 | q4
                · rw [q4] at hp ht
                  have hp2 : ((V : Int) % 2 == 1) = false := by rw [hp]; rfl
                  have q5 : (V : Int) % 2 = 0 := by omega
                  cases b1 <;> cases b2
                  all_goals
                    simp at ht
                    rw [if_neg (by omega)] at ht
                    subst ht
                    have q6 : V < 10000000000000 := by omega
                    have Q6 := Lib.hid q6
                    clear hp q4 q5 q3 q6
                    go_upto_if 134 with fail
                    clear hp2 q2
                    have hd : decide ((10000000000000 : Int) < (V : Int) + 1) = false := plus_small V Q6.out
                    have hd2 : decide ((10000000000000 : Int) < (V : Int)) = false := small_too V Q6.out
                    try rw [hd]
                    try rw [hd2]
                    clear hd hd2
                    go_wp2_with fail
                    go_ret2
                    exact ⟨by first | rfl | simp, Hb.out⟩
                · rw [q4] at hp ht
                  have hp2 : ((V : Int) % 2 == 1) = true := by rw [hp]; rfl
                  have q5 : (V : Int) % 2 = 1 := by omega
                  cases b1 <;> cases b2
                  all_goals
                    simp at ht
                    rw [if_neg (by omega)] at ht
                    subst ht
                    have q6 : V < 10000000000000 := by omega
                    have Q6 := Lib.hid q6
                    clear hp q4 q5 q3 q6
                    go_upto_if 134 with fail
                    clear hp2 q2
                    have hd : decide ((10000000000000 : Int) < (V : Int) + 1) = false := plus_small V Q6.out
                    have hd2 : decide ((10000000000000 : Int) < (V : Int)) = false := small_too V Q6.out
                    try rw [hd]
                    try rw [hd2]
                    clear hd hd2
                    go_wp2_with fail
                    go_ret2
                    exact ⟨by first | rfl | simp, Hb.out⟩
          · have hV : 10000000000000 < V := by omega
            have e1 : (if b1 = true ∧ (b2 = true ∨ V % 2 = 1) then V + 1 else V) > 10000000000000 := by split <;> omega
            rw [if_pos e1] at ht
            subst ht
            clear e1 ehh ell
            go_wp2_with fail
            go_ret2
            exact ⟨rfl, Hb.out⟩
/-- The reference's Take, of any word and any scale. -/
theorem rtake_all (x : Nat) (S : Int) (w : World) (hx : x < 18446744073709551616) :
    Calls Tryz.prog 127 #[.float .f64 x, .int .i64 S] w fun e' w' => e' = .returned (.tuple #[.int .i64 (tk x S).1, .int .i64 (tk x S).2]) ∧ Below w.heap.size w w' := by
  unfold tk
  rcases Bool.eq_false_or_eq_true (goodR x) with hg | hg
  · rw [if_neg (by rw [hg]; decide)]
    by_cases hS : S < 1 ∨ 1000000 < S
    · rw [if_pos hS]
      exact rtake_arg x S w hg hS
    · rw [if_neg hS]
      obtain ⟨s, rfl⟩ : ∃ s : Nat, S = (s : Int) := ⟨S.toNat, by omega⟩
      rw [show ((s : Int)).toNat = s by omega]
      refine rtake_gen x s w hx hg (by omega) (by omega) ?_
      rcases good_cases x hx hg with rfl | ⟨e, f, h1, h2, rfl⟩
      · unfold expo; omega
      · unfold expo; omega
  · rw [if_pos hg]
    exact rtake_bad x S w hg
end Go.Proofs.YtkcjgmicoifhcaaGreatDoor.Re
