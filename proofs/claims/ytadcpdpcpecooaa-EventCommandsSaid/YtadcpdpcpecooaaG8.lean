/- The product by halves: the reference's. -/
import Derived.Test.YtadcpdpcpecooaaG7
namespace Go.Proofs.Ytadcpdpcpecooaa.Re
open Go.RowKit

theorem mul_lo (x y : Nat) (_hx : x < 18446744073709551616) (_hy : y < 18446744073709551616) :
    IntKind.u64.wrap (IntKind.u64.wrap (IntKind.u64.wrap (IntKind.u64.wrap ((x : Int) % 4294967296 * ((y : Int) / 4294967296)) + bits .and .u64 (IntKind.u64.wrap (IntKind.u64.wrap ((x : Int) / 4294967296 * ((y : Int) % 4294967296)) + IntKind.u64.wrap ((x : Int) % 4294967296 * ((y : Int) % 4294967296)) / 4294967296)) 4294967295) * 4294967296) +
      bits .and .u64 (IntKind.u64.wrap ((x : Int) % 4294967296 * ((y : Int) % 4294967296))) 4294967295) = ((x * y % 18446744073709551616 : Nat) : Int) := by
  rw [and32 _ (by rw [IntKind.wrap_u64]; omega) (by rw [IntKind.wrap_u64]; omega), and32 _ (by rw [IntKind.wrap_u64]; omega) (by rw [IntKind.wrap_u64]; omega)]
  simp only [IntKind.wrap_u64]
  obtain ⟨a1, h1⟩ : ∃ a1, (x : Int) / 4294967296 = a1 := ⟨_, rfl⟩
  obtain ⟨a0, h2⟩ : ∃ a1, (x : Int) % 4294967296 = a1 := ⟨_, rfl⟩
  obtain ⟨b1, h3⟩ : ∃ a1, (y : Int) / 4294967296 = a1 := ⟨_, rfl⟩
  obtain ⟨b0, h4⟩ : ∃ a1, (y : Int) % 4294967296 = a1 := ⟨_, rfl⟩
  have ex : (x : Int) = a1 * 4294967296 + a0 := by omega
  have ey : (y : Int) = b1 * 4294967296 + b0 := by omega
  have exy : (x : Int) * y = (a1 * b1) * 18446744073709551616 + (a1 * b0) * 4294967296 + (a0 * b1) * 4294967296 + a0 * b0 := by
    rw [ex, ey, Int.add_mul, Int.mul_add, Int.mul_add]
    have e1 : a1 * 4294967296 * (b1 * 4294967296) = (a1 * b1) * 18446744073709551616 := by
      rw [Int.mul_assoc, ← Int.mul_assoc 4294967296, Int.mul_comm 4294967296 b1, Int.mul_assoc, ← Int.mul_assoc]; rfl
    have e2 : a1 * 4294967296 * b0 = (a1 * b0) * 4294967296 := by rw [Int.mul_assoc, Int.mul_comm 4294967296, ← Int.mul_assoc]
    have e3 : a0 * (b1 * 4294967296) = (a0 * b1) * 4294967296 := by rw [Int.mul_assoc]
    omega
  rw [h1, h2, h3, h4]
  have hc : ((x * y % 18446744073709551616 : Nat) : Int) = (x : Int) * y % 18446744073709551616 := by simp
  rw [hc, exy]
  generalize a1 * b1 = C
  generalize a1 * b0 = B
  generalize a0 * b1 = A
  generalize a0 * b0 = p
  clear exy ex ey h1 h2 h3 h4 hc _hx _hy
  omega
set_option maxRecDepth 20000 in
set_option maxHeartbeats 4000000 in
theorem rmul_calls (x y : Nat) (w : World) (hx : x < 18446744073709551616) (hy : y < 18446744073709551616) :
    Calls Try.prog 79 #[.int .u64 (x : Int), .int .u64 (y : Int)] w fun e w' => e = .returned (.agg #[.int .u64 ((x * y / 18446744073709551616 : Nat) : Int), .int .u64 ((x * y % 18446744073709551616 : Nat) : Int)]) ∧ Below w.heap.size w w' := by
  have b1 : bits .and .u64 (x : Int) 4294967295 = (x : Int) % 4294967296 := and32 _ (by omega) (by omega)
  have b2 : bits .and .u64 (y : Int) 4294967295 = (y : Int) % 4294967296 := and32 _ (by omega) (by omega)
  have HH := mul_hi x y hx hy
  rw [Int.add_comm (bits .and .u64 _ _)] at HH
  have HL := mul_lo x y hx hy
  have c1 : ((x * y / 18446744073709551616 : Nat) : Int) = (x : Int) * y / 18446744073709551616 := by simp
  have c2 : ((x * y % 18446744073709551616 : Nat) : Int) = (x : Int) * y % 18446744073709551616 := by simp
  rw [c1, c2]
  rw [c1] at HH
  rw [c2] at HL
  clear c1 c2
  go_enter Try.func79, Try.ntmps79
  go_wp2_with fail
  have hnew := heap_alloc_new w (.cells #[.int .u64 ((x : Int) * y / 18446744073709551616), .int .u64 ((x : Int) * y % 18446744073709551616)] 106)
  have hbl : Below w.heap.size w (w.alloc (.cells #[.int .u64 ((x : Int) * y / 18446744073709551616), .int .u64 ((x : Int) * y % 18446744073709551616)] 106)) := (Below.refl _ _).alloc (Nat.le_refl _) _
  (try simp only [Exit.inBlock, Exit.then])
  refine bodyPost_ret (results_cell_row (p := 4) (ty := 106) rfl _ _ w.heap.size 106 _ _ _ rfl hnew Try.underlying106 rfl (by kernel_rfl)) rfl ?_
  exact ⟨rfl, hbl⟩
end Go.Proofs.Ytadcpdpcpecooaa.Re
