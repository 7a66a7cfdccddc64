/- The float of a whole number of 53 digits. -/
import Derived.Test.YtadcpdpcpecooaaG2
namespace Go.Proofs.Ytadcpdpcpecooaa.Re
open Go.RowKit

theorem fmt : FloatKind.f64.format = Ieee.double := rfl
theorem sw : Ieee.double.signWeight = 9223372036854775808 := by decide
theorem bn : Ieee.double.binade = 4503599627370496 := by decide
theorem ir : Ieee.double.infRung = 9218868437227405312 := by decide
theorem lp : Ieee.double.leastPlace = -1074 := by decide
/-- What a normal positive word stands for. -/
theorem read_nrm (e f : Nat) (h1 : 1 ≤ e) (h2 : e ≤ 2046) (hf : f < 4503599627370496) : Ieee.double.read (e * 4503599627370496 + f) = .number false (4503599627370496 + f) (-1074 + ((e - 1 : Nat) : Int)) := by
  unfold Ieee.Format.read
  rw [sw, bn, ir, lp]
  have d1 : (e * 4503599627370496 + f) / 9223372036854775808 = 0 := by omega
  have d2 : (e * 4503599627370496 + f) % 9223372036854775808 = e * 4503599627370496 + f := by omega
  have d3 : (e * 4503599627370496 + f) % 4503599627370496 = f := by omega
  have d4 : (e * 4503599627370496 + f) / 4503599627370496 = e := by omega
  rw [d1, d2]
  simp only [d3, d4]
  rw [if_neg (by omega), if_pos (by omega)]
  rfl
theorem log_53 (m : Nat) (h1 : 4503599627370496 ≤ m) (h2 : m < 9007199254740992) : m.log2 = 52 := by
  rw [Nat.log2_eq_iff (by omega)]
  exact ⟨by omega, by omega⟩
theorem mul_one (f : Nat) (hf : f < 4503599627370496) : floatBits .mul .f64 4607182418800017408 (1075 * 4503599627370496 + f) = some (1075 * 4503599627370496 + f) := by
  unfold floatBits
  simp only
  unfold Ieee.Format.mul
  rw [fmt, read_nrm 1075 f (by decide) (by decide) hf, show (4607182418800017408 : Nat) = 1023 * 4503599627370496 + 0 by decide, read_nrm 1023 0 (by decide) (by decide) (by decide)]
  simp only [Ieee.Datum.product, Option.map_some, Option.some.injEq, Ieee.Format.write]
  unfold Ieee.Format.nearest
  rw [if_neg (by omega)]
  have hl : ((4503599627370496 + 0) * (4503599627370496 + f)).log2 = 104 := by
    rw [Nat.log2_eq_iff (by omega)]
    exact ⟨by omega, by omega⟩
  rw [hl, lp, bn, ir]
  have hfb : Ieee.double.fractionBits = 52 := rfl
  rw [hfb]
  have hp : -1074 + ((1023 - 1 : Nat) : Int) + (-1074 + ((1075 - 1 : Nat) : Int)) = -52 := by decide
  rw [hp, show max ((-52 : Int) + ((104 : Nat) : Int) - ((52 : Nat) : Int)) (-1074) = 0 by decide]
  show Ieee.double.word (false ^^ false) (min (((0 : Int) - -1074).toNat * 4503599627370496 + Ieee.Toward.even.cut (false ^^ false) (((4503599627370496 + 0) * (4503599627370496 + f)) <<< ((-52 : Int) - 0).toNat) ((0 : Int) - -52).toNat) 9218868437227405312) = _
  rw [show ((-52 : Int) - 0).toNat = 0 by decide, show ((0 : Int) - -52).toNat = 52 by decide, show ((0 : Int) - -1074).toNat = 1074 by decide, Nat.shiftLeft_zero]
  have hc : Ieee.Toward.even.cut (false ^^ false) ((4503599627370496 + 0) * (4503599627370496 + f)) 52 = 4503599627370496 + f := by
    unfold Ieee.Toward.cut
    rw [hl, show (1 : Nat) <<< min 52 (104 + 2) = 4503599627370496 by decide]
    have q1 : (4503599627370496 + 0) * (4503599627370496 + f) / 4503599627370496 = 4503599627370496 + f := by omega
    have q2 : (4503599627370496 + 0) * (4503599627370496 + f) % 4503599627370496 = 0 := by omega
    simp only [q1, q2]
    simp
  rw [hc]
  show min (1074 * 4503599627370496 + (4503599627370496 + f)) 9218868437227405312 = _
  omega
theorem to_int (f : Nat) (hf : f < 4503599627370496) : floatToIntVal .f64 (1075 * 4503599627370496 + f) .u64 = some ((4503599627370496 + f : Nat) : Int) := by
  unfold floatToIntVal
  have hd : FloatKind.f64.decode (1075 * 4503599627370496 + f) = .number false (4503599627370496 + f) 0 := by
    show Ieee.double.read _ = _
    rw [read_nrm 1075 f (by decide) (by decide) hf]
    rfl
  rw [hd]
  have hl : (4503599627370496 + f).log2 = 52 := log_53 _ (by omega) (by omega)
  have ht : Ieee.Datum.toInt .zero (.number false (4503599627370496 + f) 0) = some ((4503599627370496 + f : Nat) : Int) := by
    unfold Ieee.Datum.toInt Ieee.Datum.integral
    simp only [Int.toNat_zero, Int.neg_zero, Nat.shiftLeft_zero]
    unfold Ieee.Toward.cut
    simp [Ieee.signed]
  rw [ht]
  simp only
  rw [if_pos]
  simp only [IntKind.min, IntKind.max, IntKind.signed, IntKind.bits]
  constructor
  · simp; omega
  · simp; omega
end Go.Proofs.Ytadcpdpcpecooaa.Re
