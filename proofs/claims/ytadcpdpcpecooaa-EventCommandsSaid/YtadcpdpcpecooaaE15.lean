/- event.Same: are two events alike? -/
import Derived.Test.YtadcpdpcpecooaaE3
namespace Go.Proofs.Ytadcpdpcpecooaa.Ev
open Go.RowKit Go.Proofs.Ytadcpdpcpecooaa.Pk Go.Proofs.Ytadcpdpcpecooaa.Re

theorem pw_below_drewN2 {B : Nat} {w W : World} (h : Below B w W) : ∀ n, Below B w (W.drewN n)
  | 0 => h
  | n + 1 => by
    have := (pw_below_drewN2 h n).drew
    exact this
theorem same_iff (a b : E) : ((a.kind == b.kind) && ((a.day == b.day) && ((a.key == b.key) && ((a.loan == b.loan) && ((a.amount == b.amount) && (((a.rate : Int) == (b.rate : Int)) && (((a.income : Int) == (b.income : Int)) && ((a.sub == b.sub) && ((a.status == b.status) && ((a.plan == b.plan) && (a.family == b.family))))))))))) = decide (a = b) := by
  rw [Bool.eq_iff_iff]
  cases a
  cases b
  simp [Int.natCast_inj]
theorem bx_drewN {w : World} {g : Nat} {e : E} (h : Bx w g e) : ∀ n, Bx (w.drewN n) g e
  | 0 => h
  | n + 1 => by
    have := bx_drewN h n
    exact ⟨this.c0, this.c1, this.c2, this.c3, this.c4, this.c5, this.c6, this.c7, this.c8, this.c9, this.c10⟩
set_option maxRecDepth 20000 in
set_option maxHeartbeats 8000000 in
theorem same_calls (a b : E) (w : World) : Calls Try.prog 18 #[a.v, b.v] w fun r w' => r = .returned (.bool (decide (a = b))) ∧ Below w.heap.size w w' := by
  rw [← same_iff]
  obtain ⟨B1, B2, HB⟩ := two_boxes a b w
  have HB := Lib.hid HB
  have h1 := bits_run
  obtain ⟨k0, k1, k2, k3, k4, k5, k6, k7, k8, k9, k10⟩ := B1
  obtain ⟨j0, j1, j2, j3, j4, j5, j6, j7, j8, j9, j10⟩ := B2
  obtain ⟨x0, e0⟩ : ∃ x, (a.kind == b.kind) = x := ⟨_, rfl⟩
  obtain ⟨x1, e1⟩ : ∃ x, (a.day == b.day) = x := ⟨_, rfl⟩
  obtain ⟨x2, e2⟩ : ∃ x, (a.key == b.key) = x := ⟨_, rfl⟩
  obtain ⟨x3, e3⟩ : ∃ x, (a.loan == b.loan) = x := ⟨_, rfl⟩
  obtain ⟨x4, e4⟩ : ∃ x, (a.amount == b.amount) = x := ⟨_, rfl⟩
  obtain ⟨x5, e5⟩ : ∃ x, ((a.rate : Int) == (b.rate : Int)) = x := ⟨_, rfl⟩
  obtain ⟨x6, e6⟩ : ∃ x, ((a.income : Int) == (b.income : Int)) = x := ⟨_, rfl⟩
  obtain ⟨x7, e7⟩ : ∃ x, (a.sub == b.sub) = x := ⟨_, rfl⟩
  obtain ⟨x8, e8⟩ : ∃ x, (a.status == b.status) = x := ⟨_, rfl⟩
  obtain ⟨x9, e9⟩ : ∃ x, (a.plan == b.plan) = x := ⟨_, rfl⟩
  obtain ⟨x10, e10⟩ : ∃ x, (a.family == b.family) = x := ⟨_, rfl⟩
  rw [e0, e1, e2, e3, e4, e5, e6, e7, e8, e9, e10]
  go_enter Try.func18, Try.ntmps18
  go_upto_region 1 with fail
  generalize (w.alloc (.cells a.cells 25)).alloc (.cells b.cells 25) = W1 at *
  go_quiet (fail)
  generalize hW : World.drewN _ _ = w2
  have HB2 : Hid (Below w.heap.size w w2) := Lib.hid (by rw [← hW]; exact pw_below_drewN2 HB.out _)
  have K : Bx w2 w.heap.size a := by rw [← hW]; exact bx_drewN ⟨k0, k1, k2, k3, k4, k5, k6, k7, k8, k9, k10⟩ _
  have J : Bx w2 (w.heap.size + 1) b := by rw [← hW]; exact bx_drewN ⟨j0, j1, j2, j3, j4, j5, j6, j7, j8, j9, j10⟩ _
  clear hW k0 k1 k2 k3 k4 k5 k6 k7 k8 k9 k10 j0 j1 j2 j3 j4 j5 j6 j7 j8 j9 j10
  obtain ⟨k0, k1, k2, k3, k4, k5, k6, k7, k8, k9, k10⟩ := K
  obtain ⟨j0, j1, j2, j3, j4, j5, j6, j7, j8, j9, j10⟩ := J
  go_wp2_with fail
  cases x0
  · go_quiet (fail)
    go_wp2_with fail
    go_ret
    exact ⟨ret_bool (by simp), pw_below_drewN2 HB2.out _⟩
  · skip
    cases x1
    · go_quiet (fail)
      go_wp2_with fail
      go_ret
      exact ⟨ret_bool (by simp), pw_below_drewN2 HB2.out _⟩
    · skip
      cases x2
      · go_quiet (fail)
        go_wp2_with fail
        go_ret
        exact ⟨ret_bool (by simp), pw_below_drewN2 HB2.out _⟩
      · skip
        cases x3
        · go_quiet (fail)
          go_wp2_with fail
          go_ret
          exact ⟨ret_bool (by simp), pw_below_drewN2 HB2.out _⟩
        · skip
          cases x4
          · go_quiet (fail)
            go_wp2_with fail
            go_ret
            exact ⟨ret_bool (by simp), pw_below_drewN2 HB2.out _⟩
          · skip
            cases x5
            · go_quiet (fail)
              go_wp2_with fail
              go_ret
              exact ⟨ret_bool (by simp), pw_below_drewN2 HB2.out _⟩
            · skip
              cases x6
              · go_quiet (fail)
                go_wp2_with fail
                go_ret
                exact ⟨ret_bool (by simp), pw_below_drewN2 HB2.out _⟩
              · skip
                cases x7
                · go_quiet (fail)
                  go_wp2_with fail
                  go_ret
                  exact ⟨ret_bool (by simp), pw_below_drewN2 HB2.out _⟩
                · skip
                  cases x8
                  · go_quiet (fail)
                    go_wp2_with fail
                    go_ret
                    exact ⟨ret_bool (by simp), pw_below_drewN2 HB2.out _⟩
                  · skip
                    cases x9
                    · go_quiet (fail)
                      go_wp2_with fail
                      go_ret
                      exact ⟨ret_bool (by simp), pw_below_drewN2 HB2.out _⟩
                    · skip
                      cases x10
                      · go_quiet (fail)
                        go_wp2_with fail
                        go_ret
                        exact ⟨ret_bool (by simp), pw_below_drewN2 HB2.out _⟩
                      · go_quiet (fail)
                        go_wp2_with fail
                        go_ret
                        exact ⟨ret_bool (by simp), pw_below_drewN2 HB2.out _⟩
end Go.Proofs.Ytadcpdpcpecooaa.Ev
