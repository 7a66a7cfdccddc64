/- annuitykeep.Event, event.Same: are two events alike? -/
import Derived.Test.YtadcpdpcpecooaaE0
namespace Go.Proofs.Ytadcpdpcpecooaa.Ev
open Go.RowKit Go.Proofs.Ytadcpdpcpecooaa.Pk Go.Proofs.Ytadcpdpcpecooaa.Re

theorem two_boxes (a b : E) (w : World) : Bx ((w.alloc (.cells a.cells 25)).alloc (.cells b.cells 25)) w.heap.size a ∧ Bx ((w.alloc (.cells a.cells 25)).alloc (.cells b.cells 25)) (w.heap.size + 1) b ∧ Below w.heap.size w ((w.alloc (.cells a.cells 25)).alloc (.cells b.cells 25)) := by
  have h1 := Blk.new w 25 a.cells
  have h2 := Blk.new (w.alloc (.cells a.cells 25)) 25 b.cells
  have hs : (w.alloc (.cells a.cells 25)).heap.size = w.heap.size + 1 := by simp
  rw [hs] at h2
  refine ⟨bx_of (h1.below ((Below.refl _ _).alloc (Nat.le_refl _) _)), bx_of h2, ?_⟩
  have hb := (Below.refl w.heap.size w).alloc (Nat.le_refl _) (.cells a.cells 25)
  exact hb.alloc hb.size _
theorem two_below (X Y : Obj) (w : World) : Below w.heap.size w ((w.alloc X).alloc Y) := by
  have hb := (Below.refl w.heap.size w).alloc (Nat.le_refl _) X
  exact hb.alloc hb.size _
set_option maxRecDepth 20000 in
set_option maxHeartbeats 4000000 in
theorem kev_calls (a b : E) (w : World) : Calls Try.prog 17 #[a.v, b.v] w fun r w' => r = .returned (.bool (decide (a = b))) ∧ Below w.heap.size w w' := by
  obtain ⟨B1, B2, HB⟩ := two_boxes a b w
  have HB := Lib.hid HB
  obtain ⟨k0, k1, k2, k3, k4, k5, k6, k7, k8, k9, k10⟩ := B1
  obtain ⟨j0, j1, j2, j3, j4, j5, j6, j7, j8, j9, j10⟩ := B2
  have HF := Lib.hid (fun x y W => float_calls x y W)
  go_enter Try.func17, Try.ntmps17
  go_wp2_with (go_at_call 45; refine (HF.out _ _ _).mono ?_; rintro r w1 ⟨rfl, rfl⟩)
  all_goals clear k0 k1 k2 k3 k4 k5 k6 k7 k8 k9 k10 j0 j1 j2 j3 j4 j5 j6 j7 j8 j9 j10 HB HF
  all_goals go_ret
  all_goals refine ⟨ret_bool ?_, two_below _ _ _⟩
  all_goals (cases a; cases b)
  all_goals simp only [Int.natCast_inj] at *
  all_goals first | (simp_all; done) | (rw [Bool.eq_iff_iff]; simp_all; done)
end Go.Proofs.Ytadcpdpcpecooaa.Ev
