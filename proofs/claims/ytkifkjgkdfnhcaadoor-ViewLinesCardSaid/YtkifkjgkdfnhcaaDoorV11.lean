/- loan.Good, whole. (Printed by gen_v11.py.) -/
import Derived.Test.YtkifkjgkdfnhcaaDoorV10
namespace Go.Proofs.YtkifkjgkdfnhcaaDoor.Vw
open Go.RowKit Go.Sort Go.Lib Go.Shelf

def B1 (l : Ln) : Bool := decide (l.id < 1 ∨ 1000 < l.id) || !centsB [l.principal, l.fees, l.level, l.far]
def B2 (l : Ln) : Bool := decide (l.interest < 0 ∨ 1000000000000000000 < l.interest ∨ l.subsidy < 0 ∨ 1000000000000000000 < l.subsidy)
def B3 (l : Ln) : Bool := decide (l.ppm < 0 ∨ 1000000 < l.ppm ∨ l.status < 1 ∨ 5 < l.status ∨ l.closed < 0 ∨ 4 < l.closed)
def B4 (l : Ln) : Bool := decide (l.entered < -1 ∨ 87658 < l.entered ∨ l.count < 0)
def finB (l : Ln) : Bool := (l.closed == 0) || ((l.principal == 0) && ((l.interest == 0) && (l.fees == 0)))
/-- Is a loan good? -/
def goodLn (l : Ln) : Bool := !B1 l && (!B2 l && (!B3 l && (!B4 l && finB l)))
set_option maxRecDepth 20000 in
set_option maxHeartbeats 16000000 in
theorem lgood_calls (l : Ln) (w : World) : Calls Tryd.prog 68 #[l.v] w fun e w' => e = .returned (.bool (goodLn l)) ∧ Below w.heap.size w w' := by
  have HK0 := Lib.hid (Blk.new w 23 l.cells)
  have HB0 := Lib.hid ((Below.refl w.heap.size w).alloc (Nat.le_refl _) (.cells l.cells 23))
  have HGd : Hid (goodLn l = (!B1 l && goodLn l)) := Lib.hid (by rw [goodLn]; cases B1 l <;> rfl)
  go_enter Tryd.func68, Tryd.ntmps68
  go_upto_region 1 with fail
  generalize w.alloc (.cells l.cells 23) = w1 at *
  generalize hg : w.heap.size = g at *
  have HG := Lib.hid hg
  clear hg
  have k0 : w1.cell? ⟨g, 0, none⟩ = some (.int .i64 l.id) := HK0.out.cell 0
  have k1 : w1.cell? ⟨g, 1, none⟩ = some (.int .i64 l.principal) := HK0.out.cell 1
  have k4 : w1.cell? ⟨g, 4, none⟩ = some (.int .i64 l.fees) := HK0.out.cell 4
  have k10 : w1.cell? ⟨g, 10, none⟩ = some (.int .i64 l.level) := HK0.out.cell 10
  have k11 : w1.cell? ⟨g, 11, none⟩ = some (.int .i64 l.far) := HK0.out.cell 11
  go_cut [3] from 4 to 24 (fun v W => v = .bool (B1 l) ∧ Below g w W ∧ Blk W g 23 l.cells)
  case first =>
    by_cases q0 : l.id < 1
    · have d0 : decide (l.id < 1) = true := decide_eq_true q0
      have HBv : Hid (B1 l = true) := Lib.hid (by unfold B1; rw [decide_eq_true (by omega)]; rfl)
      clear q0
      go_wp2_with fail
      go_meet
      exact ⟨by rw [HBv.out], HB0.out, HK0.out⟩
    · have d0 : decide (l.id < 1) = false := decide_eq_false q0
      by_cases q1 : 1000 < l.id
      · have d1 : decide (1000 < l.id) = true := decide_eq_true q1
        have HBv : Hid (B1 l = true) := Lib.hid (by unfold B1; rw [decide_eq_true (by omega)]; rfl)
        clear q0 q1
        go_wp2_with fail
        go_meet
        exact ⟨by rw [HBv.out], HB0.out, HK0.out⟩
      · have d1 : decide (1000 < l.id) = false := decide_eq_false q1
        have HBv : Hid (B1 l = !centsB [l.principal, l.fees, l.level, l.far]) := Lib.hid (by unfold B1; rw [decide_eq_false (by omega)]; rfl)
        have HN := Lib.hid (Blk.new w1 2 #[.int .i64 l.principal, .int .i64 l.fees, .int .i64 l.level, .int .i64 l.far])
        have hal := (Below.refl w1.heap.size w1).alloc (Nat.le_refl _) (.cells #[.int .i64 l.principal, .int .i64 l.fees, .int .i64 l.level, .int .i64 l.far] 2)
        have HK1 := Lib.hid (HK0.out.below hal)
        have HB1 := Lib.hid (HB0.out.trans (hal.mono (HG.out ▸ HB0.out.size)))
        have HCe := Lib.hid (cents_calls [l.principal, l.fees, l.level, l.far] w1.heap.size 0 4 (w1.alloc (.cells #[.int .i64 l.principal, .int .i64 l.fees, .int .i64 l.level, .int .i64 l.far] 2)) (by
          intro j x hx
          rw [Nat.zero_add, HN.out.cell j]
          match j, hx with
          | 0, hx => simp at hx; subst hx; rfl
          | 1, hx => simp at hx; subst hx; rfl
          | 2, hx => simp at hx; subst hx; rfl
          | 3, hx => simp at hx; subst hx; rfl
          | j + 4, hx => simp at hx) (by simp) (by simp))
        clear q0 q1 hal
        generalize centsB [l.principal, l.fees, l.level, l.far] = C at *
        go_wp2_with fail
        refine HCe.out.mono ?_
        rintro e w2 ⟨rfl, rfl⟩
        go_wp2_with fail
        go_meet
        exact ⟨by rw [HBv.out], HB1.out, HK1.out⟩
  case rest =>
    obtain ⟨rfl, hbel, hk⟩ := hcut
    have HK := Lib.hid hk
    have HBel0 : Hid (Below w.heap.size w wc) := Lib.hid (by rw [HG.out]; exact hbel)
    have HBel : Hid (Below g w wc) := Lib.hid hbel
    clear hk hbel k0 k1 k4 k10 k11 HK0 HB0
    rw [← HG.out] at HBel
    cases hB1 : B1 l with
    | true =>
      have HN : Hid (goodLn l = false) := Lib.hid (by rw [HGd.out, hB1]; rfl)
      clear hB1
      go_wp2_with fail
      go_ret
      exact ⟨by rw [HN.out]; rfl, HBel.out⟩
    | false =>
      have hB1' := Lib.hid hB1
      clear hB1
      go_upto_region 3 with fail
      have k2 : wc.cell? ⟨g, 2, none⟩ = some (.int .i64 l.interest) := HK.out.cell 2
      have k3 : wc.cell? ⟨g, 3, none⟩ = some (.int .i64 l.subsidy) := HK.out.cell 3
      go_cut [25] from 26 to 43 (fun v W => v = .bool (B2 l) ∧ wc = W)
      case first =>
        by_cases q0 : l.interest < 0
        · have d0 : decide (l.interest < 0) = true := decide_eq_true q0
          have HBv : Hid (B2 l = true) := Lib.hid (decide_eq_true (by omega))
          clear q0
          go_wp2_with fail
          go_meet
          exact ⟨by rw [HBv.out], rfl⟩
        · have d0 : decide (l.interest < 0) = false := decide_eq_false q0
          by_cases q1 : 1000000000000000000 < l.interest
          · have d1 : decide (1000000000000000000 < l.interest) = true := decide_eq_true q1
            have HBv : Hid (B2 l = true) := Lib.hid (decide_eq_true (by omega))
            clear q0 q1
            go_wp2_with fail
            go_meet
            exact ⟨by rw [HBv.out], rfl⟩
          · have d1 : decide (1000000000000000000 < l.interest) = false := decide_eq_false q1
            by_cases q2 : l.subsidy < 0
            · have d2 : decide (l.subsidy < 0) = true := decide_eq_true q2
              have HBv : Hid (B2 l = true) := Lib.hid (decide_eq_true (by omega))
              clear q0 q1 q2
              go_wp2_with fail
              go_meet
              exact ⟨by rw [HBv.out], rfl⟩
            · have d2 : decide (l.subsidy < 0) = false := decide_eq_false q2
              by_cases q3 : 1000000000000000000 < l.subsidy
              · have d3 : decide (1000000000000000000 < l.subsidy) = true := decide_eq_true q3
                have HBv : Hid (B2 l = true) := Lib.hid (decide_eq_true (by omega))
                clear q0 q1 q2 q3
                go_wp2_with fail
                go_meet
                exact ⟨by rw [HBv.out], rfl⟩
              · have d3 : decide (1000000000000000000 < l.subsidy) = false := decide_eq_false q3
                have HBv : Hid (B2 l = false) := Lib.hid (decide_eq_false (by omega))
                clear q0 q1 q2 q3
                go_wp2_with fail
                go_meet
                exact ⟨by rw [HBv.out], rfl⟩
      case rest =>
        obtain ⟨rfl, rfl⟩ := hcut
        clear k2 k3
        have HB2 : Hid (goodLn l = (!B2 l && goodLn l)) := Lib.hid (by rw [goodLn]; cases B1 l <;> cases B2 l <;> cases B3 l <;> cases B4 l <;> rfl)
        cases hB2 : B2 l with
        | true =>
          have HN : Hid (goodLn l = false) := Lib.hid (by rw [HB2.out, hB2]; rfl)
          clear hB2
          go_wp2_with fail
          go_ret
          exact ⟨by rw [HN.out]; rfl, HBel.out⟩
        | false =>
          have hB2' := Lib.hid hB2
          clear hB2 HB2
          go_upto_region 5 with fail
          have k5 : wc.cell? ⟨g, 5, none⟩ = some (.int .i64 l.ppm) := HK.out.cell 5
          have k7 : wc.cell? ⟨g, 7, none⟩ = some (.int .i64 l.status) := HK.out.cell 7
          have k8 : wc.cell? ⟨g, 8, none⟩ = some (.int .i64 l.closed) := HK.out.cell 8
          go_cut [44] from 45 to 72 (fun v W => v = .bool (B3 l) ∧ wc = W)
          case first =>
            by_cases q0 : l.ppm < 0
            · have d0 : decide (l.ppm < 0) = true := decide_eq_true q0
              have HBv : Hid (B3 l = true) := Lib.hid (decide_eq_true (by omega))
              clear q0
              go_wp2_with fail
              go_meet
              exact ⟨by rw [HBv.out], rfl⟩
            · have d0 : decide (l.ppm < 0) = false := decide_eq_false q0
              by_cases q1 : 1000000 < l.ppm
              · have d1 : decide (1000000 < l.ppm) = true := decide_eq_true q1
                have HBv : Hid (B3 l = true) := Lib.hid (decide_eq_true (by omega))
                clear q0 q1
                go_wp2_with fail
                go_meet
                exact ⟨by rw [HBv.out], rfl⟩
              · have d1 : decide (1000000 < l.ppm) = false := decide_eq_false q1
                by_cases q2 : l.status < 1
                · have d2 : decide (l.status < 1) = true := decide_eq_true q2
                  have HBv : Hid (B3 l = true) := Lib.hid (decide_eq_true (by omega))
                  clear q0 q1 q2
                  go_wp2_with fail
                  go_meet
                  exact ⟨by rw [HBv.out], rfl⟩
                · have d2 : decide (l.status < 1) = false := decide_eq_false q2
                  by_cases q3 : 5 < l.status
                  · have d3 : decide (5 < l.status) = true := decide_eq_true q3
                    have HBv : Hid (B3 l = true) := Lib.hid (decide_eq_true (by omega))
                    clear q0 q1 q2 q3
                    go_wp2_with fail
                    go_meet
                    exact ⟨by rw [HBv.out], rfl⟩
                  · have d3 : decide (5 < l.status) = false := decide_eq_false q3
                    by_cases q4 : l.closed < 0
                    · have d4 : decide (l.closed < 0) = true := decide_eq_true q4
                      have HBv : Hid (B3 l = true) := Lib.hid (decide_eq_true (by omega))
                      clear q0 q1 q2 q3 q4
                      go_wp2_with fail
                      go_meet
                      exact ⟨by rw [HBv.out], rfl⟩
                    · have d4 : decide (l.closed < 0) = false := decide_eq_false q4
                      by_cases q5 : 4 < l.closed
                      · have d5 : decide (4 < l.closed) = true := decide_eq_true q5
                        have HBv : Hid (B3 l = true) := Lib.hid (decide_eq_true (by omega))
                        clear q0 q1 q2 q3 q4 q5
                        go_wp2_with fail
                        go_meet
                        exact ⟨by rw [HBv.out], rfl⟩
                      · have d5 : decide (4 < l.closed) = false := decide_eq_false q5
                        have HBv : Hid (B3 l = false) := Lib.hid (decide_eq_false (by omega))
                        clear q0 q1 q2 q3 q4 q5
                        go_wp2_with fail
                        go_meet
                        exact ⟨by rw [HBv.out], rfl⟩
          case rest =>
            obtain ⟨rfl, rfl⟩ := hcut
            clear k5 k7 k8
            have HB3 : Hid (goodLn l = (!B3 l && goodLn l)) := Lib.hid (by rw [goodLn]; cases B1 l <;> cases B2 l <;> cases B3 l <;> cases B4 l <;> rfl)
            cases hB3 : B3 l with
            | true =>
              have HN : Hid (goodLn l = false) := Lib.hid (by rw [HB3.out, hB3]; rfl)
              clear hB3
              go_wp2_with fail
              go_ret
              exact ⟨by rw [HN.out]; rfl, HBel.out⟩
            | false =>
              have hB3' := Lib.hid hB3
              clear hB3 HB3
              go_upto_region 7 with fail
              have k9 : wc.cell? ⟨g, 9, none⟩ = some (.int .i64 l.entered) := HK.out.cell 9
              have k12 : wc.cell? ⟨g, 12, none⟩ = some (.int .i64 l.count) := HK.out.cell 12
              go_cut [73] from 74 to 86 (fun v W => v = .bool (B4 l) ∧ wc = W)
              case first =>
                by_cases q0 : l.entered < -1
                · have d0 : decide (l.entered < -1) = true := decide_eq_true q0
                  have HBv : Hid (B4 l = true) := Lib.hid (decide_eq_true (by omega))
                  clear q0
                  go_wp2_with fail
                  go_meet
                  exact ⟨by rw [HBv.out], rfl⟩
                · have d0 : decide (l.entered < -1) = false := decide_eq_false q0
                  by_cases q1 : 87658 < l.entered
                  · have d1 : decide (87658 < l.entered) = true := decide_eq_true q1
                    have HBv : Hid (B4 l = true) := Lib.hid (decide_eq_true (by omega))
                    clear q0 q1
                    go_wp2_with fail
                    go_meet
                    exact ⟨by rw [HBv.out], rfl⟩
                  · have d1 : decide (87658 < l.entered) = false := decide_eq_false q1
                    by_cases q2 : l.count < 0
                    · have d2 : decide (l.count < 0) = true := decide_eq_true q2
                      have HBv : Hid (B4 l = true) := Lib.hid (decide_eq_true (by omega))
                      clear q0 q1 q2
                      go_wp2_with fail
                      go_meet
                      exact ⟨by rw [HBv.out], rfl⟩
                    · have d2 : decide (l.count < 0) = false := decide_eq_false q2
                      have HBv : Hid (B4 l = false) := Lib.hid (decide_eq_false (by omega))
                      clear q0 q1 q2
                      go_wp2_with fail
                      go_meet
                      exact ⟨by rw [HBv.out], rfl⟩
              case rest =>
                obtain ⟨rfl, rfl⟩ := hcut
                clear k9 k12
                have HB4 : Hid (goodLn l = (!B4 l && goodLn l)) := Lib.hid (by rw [goodLn]; cases B1 l <;> cases B2 l <;> cases B3 l <;> cases B4 l <;> rfl)
                cases hB4 : B4 l with
                | true =>
                  have HN : Hid (goodLn l = false) := Lib.hid (by rw [HB4.out, hB4]; rfl)
                  clear hB4
                  go_wp2_with fail
                  go_ret
                  exact ⟨by rw [HN.out]; rfl, HBel.out⟩
                | false =>
                  have hB4' := Lib.hid hB4
                  clear hB4 HB4
                  have HF : Hid (goodLn l = finB l) := Lib.hid (by rw [goodLn, hB1'.out, hB2'.out, hB3'.out, hB4'.out]; rfl)
                  have k8 : wc.cell? ⟨g, 8, none⟩ = some (.int .i64 l.closed) := HK.out.cell 8
                  have k1 : wc.cell? ⟨g, 1, none⟩ = some (.int .i64 l.principal) := HK.out.cell 1
                  have k2 : wc.cell? ⟨g, 2, none⟩ = some (.int .i64 l.interest) := HK.out.cell 2
                  have k4 : wc.cell? ⟨g, 4, none⟩ = some (.int .i64 l.fees) := HK.out.cell 4
                  unfold finB at HF
                  obtain ⟨a0, e0⟩ : ∃ x, (l.closed == 0) = x := ⟨_, rfl⟩
                  obtain ⟨a1, e1⟩ : ∃ x, (l.principal == 0) = x := ⟨_, rfl⟩
                  obtain ⟨a2, e2⟩ : ∃ x, (l.interest == 0) = x := ⟨_, rfl⟩
                  obtain ⟨a3, e3⟩ : ∃ x, (l.fees == 0) = x := ⟨_, rfl⟩
                  rw [e0, e1, e2, e3] at HF
                  cases a0 with
                  | true =>
                    go_wp2_with fail
                    go_ret
                    exact ⟨by rw [HF.out]; rfl, HBel.out⟩
                  | false =>
                    cases a1 with
                    | false =>
                      go_wp2_with fail
                      go_ret
                      exact ⟨by rw [HF.out]; rfl, HBel.out⟩
                    | true =>
                      cases a2 with
                      | false =>
                        go_wp2_with fail
                        go_ret
                        exact ⟨by rw [HF.out]; rfl, HBel.out⟩
                      | true =>
                        go_wp2_with fail
                        go_ret
                        exact ⟨by rw [HF.out]; rfl, HBel.out⟩
end Go.Proofs.YtkifkjgkdfnhcaaDoor.Vw
