/- annuitykeep.Command: are two commands one? -/
import Derived.Test.YtadcpdpcpecooaaE16
import Derived.Test.YtadcpdpcpecooaaE3
namespace Go.Proofs.Ytadcpdpcpecooaa.Ev
open Go.RowKit Go.Proofs.Ytadcpdpcpecooaa.Pk Go.Proofs.Ytadcpdpcpecooaa.Re

theorem two_cboxes (a b : C) (w : World) : Blk ((w.alloc (.cells a.cells 27)).alloc (.cells b.cells 27)) w.heap.size 27 a.cells ∧ Blk ((w.alloc (.cells a.cells 27)).alloc (.cells b.cells 27)) (w.heap.size + 1) 27 b.cells ∧ Below w.heap.size w ((w.alloc (.cells a.cells 27)).alloc (.cells b.cells 27)) := by
  have h1 := Blk.new w 27 a.cells
  have h2 := Blk.new (w.alloc (.cells a.cells 27)) 27 b.cells
  have hs : (w.alloc (.cells a.cells 27)).heap.size = w.heap.size + 1 := by simp
  rw [hs] at h2
  refine ⟨h1.below ((Below.refl _ _).alloc (Nat.le_refl _) _), h2, ?_⟩
  have hb := (Below.refl w.heap.size w).alloc (Nat.le_refl _) (.cells a.cells 27)
  exact hb.alloc hb.size _
/-- Two commands are one where their parts are. -/
theorem cmd_one (a b : C) : decide (a = b) = ((a.undo == b.undo) && ((a.key == b.key) && (decide (a.e = b.e) && (a.of == b.of)))) := by
  cases a; cases b
  rw [Bool.eq_iff_iff]
  simp
set_option maxRecDepth 20000 in
set_option maxHeartbeats 4000000 in
theorem kcmd_calls (a b : C) (w : World) : Calls Try.prog 10 #[a.v, b.v] w fun r w' => r = .returned (.bool (decide (a = b))) ∧ Below w.heap.size w w' := by
  obtain ⟨B1, B2, HB⟩ := two_cboxes a b w
  have HB := Lib.hid HB
  have HK1 := Lib.hid B1
  have HK2 := Lib.hid B2
  obtain ⟨k0, k1, k2, k3, k4, k5, k6, k7, k8, k9, k10, k11, k12, k13⟩ := cx_of B1
  obtain ⟨j0, j1, j2, j3, j4, j5, j6, j7, j8, j9, j10, j11, j12, j13⟩ := cx_of B2
  clear B1 B2
  have HE := Lib.hid (fun W => kev_calls a.e b.e W)
  rw [cmd_one]
  obtain ⟨p0, h0⟩ : ∃ p, (a.undo == b.undo) = p := ⟨_, rfl⟩
  obtain ⟨p1, h1⟩ : ∃ p, (a.key == b.key) = p := ⟨_, rfl⟩
  obtain ⟨p2, h2⟩ : ∃ p, decide (a.e = b.e) = p := ⟨_, rfl⟩
  obtain ⟨p3, h3⟩ : ∃ p, (a.of == b.of) = p := ⟨_, rfl⟩
  rw [h2] at HE
  rw [h0, h1, h2, h3]
  have H0 := Lib.hid h0
  have H1 := Lib.hid h1
  have H3 := Lib.hid h3
  clear h0 h1 h2 h3
  go_enter Try.func10, Try.ntmps10
  go_upto_region 1 with fail
  generalize (w.alloc (.cells a.cells 27)).alloc (.cells b.cells 27) = W1 at *
  have q0 := H0.out
  have q1 := H1.out
  have q3 := H3.out
  cases p0 with
  | false =>
    go_wp2_with fail
    go_ret
    exact ⟨rfl, HB.out⟩
  | true =>
    cases p1 with
    | false =>
      go_wp2_with fail
      go_ret
      exact ⟨rfl, HB.out⟩
    | true =>
      go_wp2_with fail
      refine (HE.out _).mono ?_
      rintro r w2 ⟨rfl, b2⟩
      have HB2 := Lib.hid (HB.out.trans (b2.mono HB.out.size))
      have HK3 := Lib.hid (HK1.out.below b2)
      have HK4 := Lib.hid (HK2.out.below b2)
      clear b2 k0 k1 k2 k3 k4 k5 k6 k7 k8 k9 k10 k11 k12 k13 j0 j1 j2 j3 j4 j5 j6 j7 j8 j9 j10 j11 j12 j13
      obtain ⟨k0, k1, k2, k3, k4, k5, k6, k7, k8, k9, k10, k11, k12, k13⟩ := cx_of HK3.out
      obtain ⟨j0, j1, j2, j3, j4, j5, j6, j7, j8, j9, j10, j11, j12, j13⟩ := cx_of HK4.out
      cases p2 with
      | false =>
        go_wp2_with fail
        go_ret
        exact ⟨rfl, HB2.out⟩
      | true =>
        go_wp2_with fail
        go_ret
        exact ⟨ret_bool (by simp), HB2.out⟩
end Go.Proofs.Ytadcpdpcpecooaa.Ev
