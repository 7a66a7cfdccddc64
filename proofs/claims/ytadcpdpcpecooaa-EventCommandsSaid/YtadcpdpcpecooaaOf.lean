/- The reference's Of: its one new block, told whole. -/
import Derived.Test.YtadcpdpcpecooaaF1
namespace Go.Proofs.Ytadcpdpcpecooaa.Re
open Go.RowKit

set_option maxRecDepth 20000 in
set_option maxHeartbeats 1000000 in
theorem rof_exact (u : Int) (w : World) : Calls Try.prog 35 #[.int .u64 u] w fun e w' => e = .returned (.agg #[.float .f64 (ofN u), .bool (ofB u)]) ∧ w' = w.alloc (.cells #[.float .f64 (ofN u), .bool (ofB u)] 73) := by
  have HG := Lib.hid (fun W => rgood_calls u.toNat W)
  have HB := Lib.hid (fun W => rbits_calls u.toNat W)
  have h2 := frombits_run
  have hn0 : (w.alloc (.cells #[.float .f64 0, .bool false] 73)).heap[w.heap.size]? = some (.cells #[.float .f64 0, .bool false] 73 (0, 0)) := heap_alloc_new w _
  have hnew : ∀ x y, (w.alloc (.cells #[.float .f64 x, .bool y] 73)).heap[w.heap.size]? = some (.cells #[.float .f64 x, .bool y] 73 (0, 0)) := fun x y => heap_alloc_new w _
  have HN := Lib.hid hnew
  have hset : ∀ x y, ((w.alloc (.cells #[.float .f64 0, .bool false] 73)).setCell ⟨w.heap.size, 0, none⟩ (.float .f64 x)).setCell ⟨w.heap.size, 1, none⟩ (.bool y) = w.alloc (.cells #[.float .f64 x, .bool y] 73) := fun x y => by
    rw [World.setCell_alloc_at _ _ _ _ _ rfl, World.setCell_alloc_at _ _ _ _ _ rfl]
    rfl
  have HSet := Lib.hid hset
  generalize hwa : w.alloc (.cells #[.float .f64 0, .bool false] 73) = wa at hn0 HSet
  have c0 : wa.cell? ⟨w.heap.size, 0, none⟩ = some (.float .f64 0) := cell_of_row wa _ 0 _ _ _ hn0
  have c1 : wa.cell? ⟨w.heap.size, 1, none⟩ = some (.bool false) := cell_of_row wa _ 1 _ _ _ hn0
  have hst := fun (a : Addr) (n : Nat) (W : World) => run_store Try.prog W a (.float .f64 n) .plain rfl
  have f0 : wa.frozen? ⟨w.heap.size, 0, none⟩ = false := frozen_of_row wa _ 0 _ _ hn0
  have f1 : wa.frozen? ⟨w.heap.size, 1, none⟩ = false := frozen_of_row wa _ 1 _ _ hn0
  clear hset hnew hn0
  go_enter Try.func35, Try.ntmps35
  go_wp2_with fail
  refine (HG.out _).mono ?_
  rintro e w1 ⟨rfl, rfl⟩
  clear hwa
  rcases Bool.eq_false_or_eq_true (goodR u.toNat) with e1 | e1
  · rw [e1]
    go_wp2_with fail
    refine (HB.out _).mono ?_
    rintro e w2 ⟨rfl, rfl⟩
    by_cases hu : bitsN u.toNat = u
    · obtain ⟨h3, h4⟩ := of_yes e1 hu
      have hb : (bitsN u.toNat != u) = false := by simpa using hu
      go_wp2_with fail
      rw [HSet.out]
      (try simp only [Exit.inBlock, Exit.then])
      refine bodyPost_ret (results_cell_row (p := 2) (ty := 73) rfl _ _ w.heap.size 73 _ _ _ rfl (HN.out _ _) Try.underlying73 rfl (by kernel_rfl)) rfl ?_
      exact ⟨by rw [h3, h4], by rw [h3, h4]⟩
    · obtain ⟨h3, h4⟩ := of_no (.inr hu)
      have hb : (bitsN u.toNat != u) = true := by simpa using hu
      go_wp2_with fail
      rw [HSet.out]
      (try simp only [Exit.inBlock, Exit.then])
      refine bodyPost_ret (results_cell_row (p := 2) (ty := 73) rfl _ _ w.heap.size 73 _ _ _ rfl (HN.out _ _) Try.underlying73 rfl (by kernel_rfl)) rfl ?_
      exact ⟨by rw [h3, h4], by rw [h3, h4]⟩
  · rw [e1]
    obtain ⟨h3, h4⟩ := of_no (.inl e1)
    go_wp2_with fail
    rw [HSet.out]
    (try simp only [Exit.inBlock, Exit.then])
    refine bodyPost_ret (results_cell_row (p := 2) (ty := 73) rfl _ _ w.heap.size 73 _ _ _ rfl (HN.out _ _) Try.underlying73 rfl (by kernel_rfl)) rfl ?_
    exact ⟨by rw [h3, h4], by rw [h3, h4]⟩
end Go.Proofs.Ytadcpdpcpecooaa.Re
