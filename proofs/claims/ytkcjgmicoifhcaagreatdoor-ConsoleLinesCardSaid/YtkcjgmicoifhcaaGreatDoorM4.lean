/- Texts joined: E6 E27 V0 V1 V2. -/
import Derived.Test.YtkcjgmicoifhcaaGreatDoorM2
import Derived.Test.YtkcjgmicoifhcaaGreatDoorM3
import Derived.Deep.RegionHeld3
import Derived.Test.YtkcjgmicoifhcaaGreatDoorShelf
import Derived.Lib.AppendIntMem
import Derived.Lib.Hide
import Derived.Lib.QuietBelow
import Derived.RegionTactic
import Derived.WalkLawsBesides
import Derived.WalkSpells
import Derived.Deep.DrawnRows
import Derived.Deep.Cut
import Derived.Deep.CutBlock
import Derived.Deep.QuietTactic
import Derived.BigQuiet
import Derived.LoopTactic
import Derived.Outline

/- E6: The reference's Good. -/
namespace Go.Proofs.YtkcjgmicoifhcaaGreatDoor.Ev
open Go.RowKit Go.Proofs.YtkcjgmicoifhcaaGreatDoor.Pk Go.Proofs.YtkcjgmicoifhcaaGreatDoor.Re

theorem bx_list {w : World} {g : Nat} {e : E} (h : Blk w g 25 e.cells) : w.cell? ⟨g, 0, none⟩ = some (.int .i64 e.kind) ∧ w.cell? ⟨g, 1, none⟩ = some (.int .i64 e.day) ∧ w.cell? ⟨g, 2, none⟩ = some (.int .u32 e.key) ∧ w.cell? ⟨g, 3, none⟩ = some (.int .i64 e.loan) ∧ w.cell? ⟨g, 4, none⟩ = some (.int .i64 e.amount) ∧ w.cell? ⟨g, 5, none⟩ = some (.float .f64 e.rate) ∧ w.cell? ⟨g, 6, none⟩ = some (.float .f64 e.income) ∧ w.cell? ⟨g, 7, none⟩ = some (.bool e.sub) ∧ w.cell? ⟨g, 8, none⟩ = some (.int .i64 e.status) ∧ w.cell? ⟨g, 9, none⟩ = some (.int .i64 e.plan) ∧ w.cell? ⟨g, 10, none⟩ = some (.int .i64 e.family) :=
  ⟨h.cell 0, h.cell 1, h.cell 2, h.cell 3, h.cell 4, h.cell 5, h.cell 6, h.cell 7, h.cell 8, h.cell 9, h.cell 10⟩
theorem pw_below_drewN' {B : Nat} {w W : World} (h : Below B w W) : ∀ n, Below B w (W.drewN n)
  | 0 => h
  | n + 1 => by
    have := (pw_below_drewN' h n).drew
    exact this
theorem all_upto (e : E) (l : ByteArray) (h : ∀ j (hj : j < l.size), okR e (l[j].toNat : Int) = true) : (ints l).all (okR e) = true := by
  rw [List.all_eq_true]
  intro x hx
  obtain ⟨j, hj, rfl⟩ := List.getElem_of_mem hx
  have hj2 : j < l.size := by rw [ints_length] at hj; exact hj
  have e1 : (ints l)[j] = (l[j].toNat : Int) := by simp [ints, ByteArray.getElem_eq_getElem_data]
  rw [e1]
  exact h j hj2
theorem all_not (e : E) (l : ByteArray) (j : Nat) (hj : j < l.size) (h : okR e (l[j].toNat : Int) = false) : (ints l).all (okR e) = false := by
  rw [List.all_eq_false]
  have hlen : j < (ints l).length := by rw [ints_length]; exact hj
  have e1 : (ints l)[j] = (l[j].toNat : Int) := by simp [ints, ByteArray.getElem_eq_getElem_data]
  exact ⟨_, List.getElem_mem hlen, by rw [e1, h]; decide⟩
theorem next_ok {e : E} {l : ByteArray} {k : Nat} (h : ∀ j (hj : j < l.size), j < k → okR e (l[j].toNat : Int) = true) (hk : k < l.size) (hc : okR e (l[k].toNat : Int) = true) : ∀ j (hj : j < l.size), j < k + 1 → okR e (l[j].toNat : Int) = true := by
  intro j hj hlt
  by_cases c : j = k
  · subst c; exact hc
  · exact h j hj (by omega)
set_option maxRecDepth 20000 in
set_option maxHeartbeats 4000000 in
theorem rgoodE_calls (e : E) (w : World) (hr : e.rate < 18446744073709551616) (hi : e.income < 18446744073709551616) :
    Calls Tryz.prog 56 #[e.v] w fun r w' => r = .returned (.bool (goodR' e)) ∧ Below w.heap.size w w' := by
  have hb := Blk.new w 25 e.cells
  have HB := Lib.hid ((Below.refl w.heap.size w).alloc (Nat.le_refl _) (.cells e.cells 25))
  have HD := Lib.hid (fun W => rday_calls e.day W)
  go_enter Tryz.func56, Tryz.ntmps56
  go_upto_region 1 with fail
  generalize w.alloc (.cells e.cells 25) = W1 at *
  obtain ⟨k0, k1, k2, k3, k4, k5, k6, k7, k8, k9, k10⟩ := bx_of hb
  have HBk := Lib.hid hb
  clear hb
  have hkb : kindB e.kind = true ∨ e.kind < 1 ∨ (1 ≤ e.kind ∧ 8 < e.kind) := by
    unfold kindB
    simp only [Bool.and_eq_true, decide_eq_true_eq]
    omega
  have hkn : e.kind < 1 ∨ 8 < e.kind → goodR' e = false := by
    intro h
    have : kindB e.kind = false := by
      unfold kindB
      simp only [Bool.and_eq_false_iff, decide_eq_false_iff_not]
      omega
    unfold goodR'
    rw [this]
    rfl
  rcases hkb with hk | hk | hk
  · have hk2 : 1 ≤ e.kind ∧ e.kind ≤ 8 := by
      unfold kindB at hk
      simp only [Bool.and_eq_true, decide_eq_true_eq] at hk
      exact hk
    clear hkn
    obtain ⟨h1, h2⟩ := hk2
    cases hd : dayB e.day with
    | false =>
      have hg : goodR' e = false := by unfold goodR'; rw [hk, hd]; rfl
      rw [hd] at HD
      go_quiet ((go_at_call 88; exact Calls.quiet_of_same (HD.out _)))
      go_wp2_with fail
      go_ret
      exact ⟨ret_bool hg.symm, pw_below_drewN' HB.out _⟩
    | true =>
      rw [hd] at HD
      obtain ⟨q, hq⟩ : ∃ q, decide (e = onlyE e) = q := ⟨_, rfl⟩
      have HV := Lib.hid (fun W => kev_calls e (onlyE e) W)
      rw [hq] at HV
      go_cut [30] from 10 to 30 (fun v W => v = .bool (!q) ∧ Below W1.heap.size W1 W)
      case first =>
        have HKE := Lib.hid (fun W (hB : Below W1.heap.size W1 W) => bx_list (HBk.out.below hB))
        have HO := Lib.hid (fun W => only_calls e W)
        clear hq hk hd HB HBk
        obtain ⟨kind, day, key, loan, amount, rate, income, sub, status, plan, family⟩ := e
        have h8 : kind = 1 ∨ kind = 2 ∨ kind = 3 ∨ kind = 4 ∨ kind = 5 ∨ kind = 6 ∨ kind = 7 ∨ kind = 8 := by
          simp only at h1 h2
          omega
        clear h1 h2
        rcases h8 with rfl | rfl | rfl | rfl | rfl | rfl | rfl | rfl
        · go_region_held3 (fun w' => w'.cell? ⟨w.heap.size, 0, none⟩ = some (.int .i64 1) ∧ w'.cell? ⟨w.heap.size, 1, none⟩ = some (.int .i64 day) ∧ w'.cell? ⟨w.heap.size, 2, none⟩ = some (.int .u32 key) ∧ w'.cell? ⟨w.heap.size, 3, none⟩ = some (.int .i64 loan) ∧ w'.cell? ⟨w.heap.size, 4, none⟩ = some (.int .i64 amount) ∧ w'.cell? ⟨w.heap.size, 5, none⟩ = some (.float .f64 rate) ∧ w'.cell? ⟨w.heap.size, 6, none⟩ = some (.float .f64 income) ∧ w'.cell? ⟨w.heap.size, 7, none⟩ = some (.bool sub) ∧ w'.cell? ⟨w.heap.size, 8, none⟩ = some (.int .i64 status) ∧ w'.cell? ⟨w.heap.size, 9, none⟩ = some (.int .i64 plan) ∧ w'.cell? ⟨w.heap.size, 10, none⟩ = some (.int .i64 family)) (first | go_keep | exact HKE.out _ (by assumption))
            (first
              | ((go_at_call 25; refine (HV.out p3).mono ?_; rintro r p4 ⟨rfl, b4⟩; have e4 : Below W1.heap.size W1 p4 := e3.trans (b4.mono e3.size)))
              | ((go_at_call 89; refine (HO.out W1.drew).mono ?_; rintro r p3 ⟨rfl, b3⟩; have e3 : Below W1.heap.size W1 p3 := (Below.refl _ _).drew.trans (b3.mono (Below.refl W1.heap.size W1).drew.size)))
              | ((go_at_call 88; refine (HD.out W1.drew).mono ?_; rintro r p2 ⟨rfl, rfl⟩; have e2 : Below W1.heap.size W1 W1.drew := (Below.refl _ _).drew)))
          go_wp2_with fail
          go_meet
          exact ⟨rfl, e4⟩
        · go_region_held3 (fun w' => w'.cell? ⟨w.heap.size, 0, none⟩ = some (.int .i64 2) ∧ w'.cell? ⟨w.heap.size, 1, none⟩ = some (.int .i64 day) ∧ w'.cell? ⟨w.heap.size, 2, none⟩ = some (.int .u32 key) ∧ w'.cell? ⟨w.heap.size, 3, none⟩ = some (.int .i64 loan) ∧ w'.cell? ⟨w.heap.size, 4, none⟩ = some (.int .i64 amount) ∧ w'.cell? ⟨w.heap.size, 5, none⟩ = some (.float .f64 rate) ∧ w'.cell? ⟨w.heap.size, 6, none⟩ = some (.float .f64 income) ∧ w'.cell? ⟨w.heap.size, 7, none⟩ = some (.bool sub) ∧ w'.cell? ⟨w.heap.size, 8, none⟩ = some (.int .i64 status) ∧ w'.cell? ⟨w.heap.size, 9, none⟩ = some (.int .i64 plan) ∧ w'.cell? ⟨w.heap.size, 10, none⟩ = some (.int .i64 family)) (first | go_keep | exact HKE.out _ (by assumption))
            (first
              | ((go_at_call 25; refine (HV.out p3).mono ?_; rintro r p4 ⟨rfl, b4⟩; have e4 : Below W1.heap.size W1 p4 := e3.trans (b4.mono e3.size)))
              | ((go_at_call 89; refine (HO.out W1.drew).mono ?_; rintro r p3 ⟨rfl, b3⟩; have e3 : Below W1.heap.size W1 p3 := (Below.refl _ _).drew.trans (b3.mono (Below.refl W1.heap.size W1).drew.size)))
              | ((go_at_call 88; refine (HD.out W1.drew).mono ?_; rintro r p2 ⟨rfl, rfl⟩; have e2 : Below W1.heap.size W1 W1.drew := (Below.refl _ _).drew)))
          go_wp2_with fail
          go_meet
          exact ⟨rfl, e4⟩
        · go_region_held3 (fun w' => w'.cell? ⟨w.heap.size, 0, none⟩ = some (.int .i64 3) ∧ w'.cell? ⟨w.heap.size, 1, none⟩ = some (.int .i64 day) ∧ w'.cell? ⟨w.heap.size, 2, none⟩ = some (.int .u32 key) ∧ w'.cell? ⟨w.heap.size, 3, none⟩ = some (.int .i64 loan) ∧ w'.cell? ⟨w.heap.size, 4, none⟩ = some (.int .i64 amount) ∧ w'.cell? ⟨w.heap.size, 5, none⟩ = some (.float .f64 rate) ∧ w'.cell? ⟨w.heap.size, 6, none⟩ = some (.float .f64 income) ∧ w'.cell? ⟨w.heap.size, 7, none⟩ = some (.bool sub) ∧ w'.cell? ⟨w.heap.size, 8, none⟩ = some (.int .i64 status) ∧ w'.cell? ⟨w.heap.size, 9, none⟩ = some (.int .i64 plan) ∧ w'.cell? ⟨w.heap.size, 10, none⟩ = some (.int .i64 family)) (first | go_keep | exact HKE.out _ (by assumption))
            (first
              | ((go_at_call 25; refine (HV.out p3).mono ?_; rintro r p4 ⟨rfl, b4⟩; have e4 : Below W1.heap.size W1 p4 := e3.trans (b4.mono e3.size)))
              | ((go_at_call 89; refine (HO.out W1.drew).mono ?_; rintro r p3 ⟨rfl, b3⟩; have e3 : Below W1.heap.size W1 p3 := (Below.refl _ _).drew.trans (b3.mono (Below.refl W1.heap.size W1).drew.size)))
              | ((go_at_call 88; refine (HD.out W1.drew).mono ?_; rintro r p2 ⟨rfl, rfl⟩; have e2 : Below W1.heap.size W1 W1.drew := (Below.refl _ _).drew)))
          go_wp2_with fail
          go_meet
          exact ⟨rfl, e4⟩
        · go_region_held3 (fun w' => w'.cell? ⟨w.heap.size, 0, none⟩ = some (.int .i64 4) ∧ w'.cell? ⟨w.heap.size, 1, none⟩ = some (.int .i64 day) ∧ w'.cell? ⟨w.heap.size, 2, none⟩ = some (.int .u32 key) ∧ w'.cell? ⟨w.heap.size, 3, none⟩ = some (.int .i64 loan) ∧ w'.cell? ⟨w.heap.size, 4, none⟩ = some (.int .i64 amount) ∧ w'.cell? ⟨w.heap.size, 5, none⟩ = some (.float .f64 rate) ∧ w'.cell? ⟨w.heap.size, 6, none⟩ = some (.float .f64 income) ∧ w'.cell? ⟨w.heap.size, 7, none⟩ = some (.bool sub) ∧ w'.cell? ⟨w.heap.size, 8, none⟩ = some (.int .i64 status) ∧ w'.cell? ⟨w.heap.size, 9, none⟩ = some (.int .i64 plan) ∧ w'.cell? ⟨w.heap.size, 10, none⟩ = some (.int .i64 family)) (first | go_keep | exact HKE.out _ (by assumption))
            (first
              | ((go_at_call 25; refine (HV.out p3).mono ?_; rintro r p4 ⟨rfl, b4⟩; have e4 : Below W1.heap.size W1 p4 := e3.trans (b4.mono e3.size)))
              | ((go_at_call 89; refine (HO.out W1.drew).mono ?_; rintro r p3 ⟨rfl, b3⟩; have e3 : Below W1.heap.size W1 p3 := (Below.refl _ _).drew.trans (b3.mono (Below.refl W1.heap.size W1).drew.size)))
              | ((go_at_call 88; refine (HD.out W1.drew).mono ?_; rintro r p2 ⟨rfl, rfl⟩; have e2 : Below W1.heap.size W1 W1.drew := (Below.refl _ _).drew)))
          go_wp2_with fail
          go_meet
          exact ⟨rfl, e4⟩
        · go_region_held3 (fun w' => w'.cell? ⟨w.heap.size, 0, none⟩ = some (.int .i64 5) ∧ w'.cell? ⟨w.heap.size, 1, none⟩ = some (.int .i64 day) ∧ w'.cell? ⟨w.heap.size, 2, none⟩ = some (.int .u32 key) ∧ w'.cell? ⟨w.heap.size, 3, none⟩ = some (.int .i64 loan) ∧ w'.cell? ⟨w.heap.size, 4, none⟩ = some (.int .i64 amount) ∧ w'.cell? ⟨w.heap.size, 5, none⟩ = some (.float .f64 rate) ∧ w'.cell? ⟨w.heap.size, 6, none⟩ = some (.float .f64 income) ∧ w'.cell? ⟨w.heap.size, 7, none⟩ = some (.bool sub) ∧ w'.cell? ⟨w.heap.size, 8, none⟩ = some (.int .i64 status) ∧ w'.cell? ⟨w.heap.size, 9, none⟩ = some (.int .i64 plan) ∧ w'.cell? ⟨w.heap.size, 10, none⟩ = some (.int .i64 family)) (first | go_keep | exact HKE.out _ (by assumption))
            (first
              | ((go_at_call 25; refine (HV.out p3).mono ?_; rintro r p4 ⟨rfl, b4⟩; have e4 : Below W1.heap.size W1 p4 := e3.trans (b4.mono e3.size)))
              | ((go_at_call 89; refine (HO.out W1.drew).mono ?_; rintro r p3 ⟨rfl, b3⟩; have e3 : Below W1.heap.size W1 p3 := (Below.refl _ _).drew.trans (b3.mono (Below.refl W1.heap.size W1).drew.size)))
              | ((go_at_call 88; refine (HD.out W1.drew).mono ?_; rintro r p2 ⟨rfl, rfl⟩; have e2 : Below W1.heap.size W1 W1.drew := (Below.refl _ _).drew)))
          go_wp2_with fail
          go_meet
          exact ⟨rfl, e4⟩
        · go_region_held3 (fun w' => w'.cell? ⟨w.heap.size, 0, none⟩ = some (.int .i64 6) ∧ w'.cell? ⟨w.heap.size, 1, none⟩ = some (.int .i64 day) ∧ w'.cell? ⟨w.heap.size, 2, none⟩ = some (.int .u32 key) ∧ w'.cell? ⟨w.heap.size, 3, none⟩ = some (.int .i64 loan) ∧ w'.cell? ⟨w.heap.size, 4, none⟩ = some (.int .i64 amount) ∧ w'.cell? ⟨w.heap.size, 5, none⟩ = some (.float .f64 rate) ∧ w'.cell? ⟨w.heap.size, 6, none⟩ = some (.float .f64 income) ∧ w'.cell? ⟨w.heap.size, 7, none⟩ = some (.bool sub) ∧ w'.cell? ⟨w.heap.size, 8, none⟩ = some (.int .i64 status) ∧ w'.cell? ⟨w.heap.size, 9, none⟩ = some (.int .i64 plan) ∧ w'.cell? ⟨w.heap.size, 10, none⟩ = some (.int .i64 family)) (first | go_keep | exact HKE.out _ (by assumption))
            (first
              | ((go_at_call 25; refine (HV.out p3).mono ?_; rintro r p4 ⟨rfl, b4⟩; have e4 : Below W1.heap.size W1 p4 := e3.trans (b4.mono e3.size)))
              | ((go_at_call 89; refine (HO.out W1.drew).mono ?_; rintro r p3 ⟨rfl, b3⟩; have e3 : Below W1.heap.size W1 p3 := (Below.refl _ _).drew.trans (b3.mono (Below.refl W1.heap.size W1).drew.size)))
              | ((go_at_call 88; refine (HD.out W1.drew).mono ?_; rintro r p2 ⟨rfl, rfl⟩; have e2 : Below W1.heap.size W1 W1.drew := (Below.refl _ _).drew)))
          go_wp2_with fail
          go_meet
          exact ⟨rfl, e4⟩
        · go_region_held3 (fun w' => w'.cell? ⟨w.heap.size, 0, none⟩ = some (.int .i64 7) ∧ w'.cell? ⟨w.heap.size, 1, none⟩ = some (.int .i64 day) ∧ w'.cell? ⟨w.heap.size, 2, none⟩ = some (.int .u32 key) ∧ w'.cell? ⟨w.heap.size, 3, none⟩ = some (.int .i64 loan) ∧ w'.cell? ⟨w.heap.size, 4, none⟩ = some (.int .i64 amount) ∧ w'.cell? ⟨w.heap.size, 5, none⟩ = some (.float .f64 rate) ∧ w'.cell? ⟨w.heap.size, 6, none⟩ = some (.float .f64 income) ∧ w'.cell? ⟨w.heap.size, 7, none⟩ = some (.bool sub) ∧ w'.cell? ⟨w.heap.size, 8, none⟩ = some (.int .i64 status) ∧ w'.cell? ⟨w.heap.size, 9, none⟩ = some (.int .i64 plan) ∧ w'.cell? ⟨w.heap.size, 10, none⟩ = some (.int .i64 family)) (first | go_keep | exact HKE.out _ (by assumption))
            (first
              | ((go_at_call 25; refine (HV.out p3).mono ?_; rintro r p4 ⟨rfl, b4⟩; have e4 : Below W1.heap.size W1 p4 := e3.trans (b4.mono e3.size)))
              | ((go_at_call 89; refine (HO.out W1.drew).mono ?_; rintro r p3 ⟨rfl, b3⟩; have e3 : Below W1.heap.size W1 p3 := (Below.refl _ _).drew.trans (b3.mono (Below.refl W1.heap.size W1).drew.size)))
              | ((go_at_call 88; refine (HD.out W1.drew).mono ?_; rintro r p2 ⟨rfl, rfl⟩; have e2 : Below W1.heap.size W1 W1.drew := (Below.refl _ _).drew)))
          go_wp2_with fail
          go_meet
          exact ⟨rfl, e4⟩
        · go_region_held3 (fun w' => w'.cell? ⟨w.heap.size, 0, none⟩ = some (.int .i64 8) ∧ w'.cell? ⟨w.heap.size, 1, none⟩ = some (.int .i64 day) ∧ w'.cell? ⟨w.heap.size, 2, none⟩ = some (.int .u32 key) ∧ w'.cell? ⟨w.heap.size, 3, none⟩ = some (.int .i64 loan) ∧ w'.cell? ⟨w.heap.size, 4, none⟩ = some (.int .i64 amount) ∧ w'.cell? ⟨w.heap.size, 5, none⟩ = some (.float .f64 rate) ∧ w'.cell? ⟨w.heap.size, 6, none⟩ = some (.float .f64 income) ∧ w'.cell? ⟨w.heap.size, 7, none⟩ = some (.bool sub) ∧ w'.cell? ⟨w.heap.size, 8, none⟩ = some (.int .i64 status) ∧ w'.cell? ⟨w.heap.size, 9, none⟩ = some (.int .i64 plan) ∧ w'.cell? ⟨w.heap.size, 10, none⟩ = some (.int .i64 family)) (first | go_keep | exact HKE.out _ (by assumption))
            (first
              | ((go_at_call 25; refine (HV.out p3).mono ?_; rintro r p4 ⟨rfl, b4⟩; have e4 : Below W1.heap.size W1 p4 := e3.trans (b4.mono e3.size)))
              | ((go_at_call 89; refine (HO.out W1.drew).mono ?_; rintro r p3 ⟨rfl, b3⟩; have e3 : Below W1.heap.size W1 p3 := (Below.refl _ _).drew.trans (b3.mono (Below.refl W1.heap.size W1).drew.size)))
              | ((go_at_call 88; refine (HD.out W1.drew).mono ?_; rintro r p2 ⟨rfl, rfl⟩; have e2 : Below W1.heap.size W1 W1.drew := (Below.refl _ _).drew)))
          go_wp2_with fail
          go_meet
          exact ⟨rfl, e4⟩
      case rest =>
        obtain ⟨rfl, hbl⟩ := hcut
        have Hbl := Lib.hid hbl
        have HKr := Lib.hid (HBk.out.below hbl)
        clear hbl
        cases q with
        | false =>
          have hg : goodR' e = false := by unfold goodR'; rw [hk, hd, hq]; rfl
          go_wp2_with fail
          go_ret
          exact ⟨ret_bool hg.symm, HB.out.trans (Hbl.out.mono HB.out.size)⟩
        | true =>
          have HH := Lib.hid (fun W => has_calls e.kind W)
          clear k0 k1 k2 k3 k4 k5 k6 k7 k8 k9 k10
          obtain ⟨k0, k1, k2, k3, k4, k5, k6, k7, k8, k9, k10⟩ := bx_of HKr.out
          have hgE : goodR' e = (ints (hasR e.kind)).all (okR e) := by unfold goodR'; rw [hk, hd, hq]; rfl
          have hin := hasR_in e.kind
          obtain ⟨l, hl⟩ : ∃ l, hasR e.kind = l := ⟨_, rfl⟩
          rw [hl] at HH hin hgE
          have HgE := Lib.hid hgE
          clear hgE
          go_wp2_with fail
          refine (HH.out _).mono ?_
          rintro r w3 ⟨rfl, rfl⟩
          clear k0 k1 k2 k3 k4 k5 k6 k7 k8 k9 k10
          go_wp2_with fail
          go_loopw [4] (fun i wr => ∃ k : Nat, k ≤ l.size ∧ i = .int .i64 (k : Int) ∧ (∀ j (hj : j < l.size), j < k → okR e (l[j].toNat : Int) = true) ∧ Below W1.heap.size W1 wr) (fun i _ => l.size - (intOf i).toNat)
          case atStart => exact ⟨0, Nat.zero_le _, rfl, fun j _ hj => absurd hj (Nat.not_lt_zero j), Hbl.out⟩
          case round =>
            obtain ⟨k, hk, rfl, hj, hw⟩ := hrel
            have Hj := Lib.hid hj
            have Hw := Lib.hid hw
            have hs4 := hin.1
            have HKw := Lib.hid (HBk.out.below hw)
            clear hj hw
            by_cases hk2 : k < l.size
            · have hc := hin.2 k hk2
              obtain ⟨k0, k1, k2, k3, k4, k5, k6, k7, k8, k9, k10⟩ := bx_of HKw.out
              rcases hc with hc | hc | hc | hc | hc | hc
              · have HC : okR e (((76 : Nat)) : Int) = (decide (1 ≤ e.loan) && decide (e.loan ≤ 1000)) := rfl
                rw [← hc] at HC
                have HC := Lib.hid HC
                by_cases ha : 1 ≤ e.loan
                · by_cases hb : e.loan ≤ 1000
                  · have hok := HC.out
                    rw [decide_eq_true ha, decide_eq_true hb] at hok
                    have Hok := Lib.hid hok
                    clear hok
                    go_wp2_with fail
                    exact ⟨⟨k + 1, by omega, by go_num, next_ok Hj.out hk2 Hok.out, Hw.out⟩, by simp [intOf]; omega⟩
                  · have hok := HC.out
                    rw [decide_eq_true ha, decide_eq_false hb] at hok
                    have Hok := Lib.hid (all_not e l k hk2 hok)
                    clear hok
                    go_wp2_with fail
                    go_ret
                    exact ⟨ret_bool (by rw [HgE.out, Hok.out]), HB.out.trans (Hw.out.mono HB.out.size)⟩
                · have hok := HC.out
                  rw [decide_eq_false ha] at hok
                  have Hok := Lib.hid (all_not e l k hk2 hok)
                  clear hok
                  go_wp2_with fail
                  go_ret
                  exact ⟨ret_bool (by rw [HgE.out, Hok.out]), HB.out.trans (Hw.out.mono HB.out.size)⟩
              · have HC : okR e (((65 : Nat)) : Int) = (decide (1 ≤ e.amount) && decide (e.amount ≤ 1000000000)) := rfl
                rw [← hc] at HC
                have HC := Lib.hid HC
                by_cases ha : 1 ≤ e.amount
                · by_cases hb : e.amount ≤ 1000000000
                  · have hok := HC.out
                    rw [decide_eq_true ha, decide_eq_true hb] at hok
                    have Hok := Lib.hid hok
                    clear hok
                    go_wp2_with fail
                    exact ⟨⟨k + 1, by omega, by go_num, next_ok Hj.out hk2 Hok.out, Hw.out⟩, by simp [intOf]; omega⟩
                  · have hok := HC.out
                    rw [decide_eq_true ha, decide_eq_false hb] at hok
                    have Hok := Lib.hid (all_not e l k hk2 hok)
                    clear hok
                    go_wp2_with fail
                    go_ret
                    exact ⟨ret_bool (by rw [HgE.out, Hok.out]), HB.out.trans (Hw.out.mono HB.out.size)⟩
                · have hok := HC.out
                  rw [decide_eq_false ha] at hok
                  have Hok := Lib.hid (all_not e l k hk2 hok)
                  clear hok
                  go_wp2_with fail
                  go_ret
                  exact ⟨ret_bool (by rw [HgE.out, Hok.out]), HB.out.trans (Hw.out.mono HB.out.size)⟩
              · have HC : okR e (((82 : Nat)) : Int) = ((pm e.rate).2 == 0 && (decide ((pm e.rate).1 ≤ 250000) && !minusB e.rate)) := rfl
                rw [← hc] at HC
                have HP := Lib.hid (fun W => rppm_calls e.rate W hr)
                have HN := Lib.hid (fun W => minus_calls e.rate W hr)
                change Hid (∀ W, Calls Tryz.prog 92 #[.float .f64 e.rate] W fun r w' => r = .returned (.bool (minusB e.rate)) ∧ w' = W) at HN
                generalize pm e.rate = t at HC HP
                generalize minusB e.rate = mb at HC HN
                have HC := Lib.hid HC
                go_wp2_with fail
                refine (HP.out _).mono ?_
                rintro r w4 ⟨rfl, b4⟩
                have Hw4 := Lib.hid (Hw.out.trans (b4.mono Hw.out.size))
                have HK4 := Lib.hid (HKw.out.below b4)
                clear b4 k0 k1 k2 k3 k4 k5 k6 k7 k8 k9 k10
                obtain ⟨k0, k1, k2, k3, k4, k5, k6, k7, k8, k9, k10⟩ := bx_of HK4.out
                by_cases ha : t.2 = 0
                · have ha2 : (t.2 == 0) = true := by simpa using ha
                  by_cases hb : t.1 ≤ 250000
                  · cases mb with
                    | false =>
                      have hok := HC.out
                      rw [ha2, decide_eq_true hb] at hok
                      have Hok := Lib.hid hok
                      clear hok
                      go_wp2_with fail
                      refine (HN.out _).mono ?_
                      rintro r w5 ⟨rfl, rfl⟩
                      go_wp2_with fail
                      exact ⟨⟨k + 1, by omega, by go_num, next_ok Hj.out hk2 Hok.out, Hw4.out⟩, by simp [intOf]; omega⟩
                    | true =>
                      have hok := HC.out
                      rw [ha2, decide_eq_true hb] at hok
                      have Hok := Lib.hid (all_not e l k hk2 hok)
                      clear hok
                      go_wp2_with fail
                      refine (HN.out _).mono ?_
                      rintro r w5 ⟨rfl, rfl⟩
                      go_wp2_with fail
                      go_ret
                      exact ⟨ret_bool (by rw [HgE.out, Hok.out]), HB.out.trans (Hw4.out.mono HB.out.size)⟩
                  · have hok := HC.out
                    rw [ha2, decide_eq_false hb] at hok
                    have Hok := Lib.hid (all_not e l k hk2 hok)
                    clear hok
                    go_wp2_with fail
                    go_ret
                    exact ⟨ret_bool (by rw [HgE.out, Hok.out]), HB.out.trans (Hw4.out.mono HB.out.size)⟩
                · have ha2 : (t.2 == 0) = false := by simpa using ha
                  have hok := HC.out
                  rw [ha2] at hok
                  have Hok := Lib.hid (all_not e l k hk2 hok)
                  clear hok ha
                  go_wp2_with fail
                  go_ret
                  exact ⟨ret_bool (by rw [HgE.out, Hok.out]), HB.out.trans (Hw4.out.mono HB.out.size)⟩
              · have HC : okR e (((83 : Nat)) : Int) = true := rfl
                rw [← hc] at HC
                have HC := Lib.hid HC
                go_wp2_with fail
                exact ⟨⟨k + 1, by omega, by go_num, next_ok Hj.out hk2 HC.out, Hw.out⟩, by simp [intOf]; omega⟩
              · have HC : okR e (((84 : Nat)) : Int) = (decide (1 ≤ e.status) && decide (e.status ≤ 5)) := rfl
                rw [← hc] at HC
                have HC := Lib.hid HC
                by_cases ha : 1 ≤ e.status
                · by_cases hb : e.status ≤ 5
                  · have hok := HC.out
                    rw [decide_eq_true ha, decide_eq_true hb] at hok
                    have Hok := Lib.hid hok
                    clear hok
                    go_wp2_with fail
                    exact ⟨⟨k + 1, by omega, by go_num, next_ok Hj.out hk2 Hok.out, Hw.out⟩, by simp [intOf]; omega⟩
                  · have hok := HC.out
                    rw [decide_eq_true ha, decide_eq_false hb] at hok
                    have Hok := Lib.hid (all_not e l k hk2 hok)
                    clear hok
                    go_wp2_with fail
                    go_ret
                    exact ⟨ret_bool (by rw [HgE.out, Hok.out]), HB.out.trans (Hw.out.mono HB.out.size)⟩
                · have hok := HC.out
                  rw [decide_eq_false ha] at hok
                  have Hok := Lib.hid (all_not e l k hk2 hok)
                  clear hok
                  go_wp2_with fail
                  go_ret
                  exact ⟨ret_bool (by rw [HgE.out, Hok.out]), HB.out.trans (Hw.out.mono HB.out.size)⟩
              · by_cases hp : e.plan = 4
                · have HC : okR e (((80 : Nat)) : Int) = ((tk e.income 100).2 == 0 && (decide ((tk e.income 100).1 ≤ 1000000000) && (!minusB e.income && (decide (1 ≤ e.family) && decide (e.family ≤ 30))))) := if_pos hp
                  rw [← hc] at HC
                  have HP := Lib.hid (fun W => rcents_calls e.income W hi)
                  have HN := Lib.hid (fun W => minus_calls e.income W hi)
                  change Hid (∀ W, Calls Tryz.prog 92 #[.float .f64 e.income] W fun r w' => r = .returned (.bool (minusB e.income)) ∧ w' = W) at HN
                  generalize tk e.income 100 = t at HC HP
                  generalize minusB e.income = mb at HC HN
                  have HC := Lib.hid HC
                  rw [hp] at k9
                  go_wp2_with fail
                  refine (HP.out _).mono ?_
                  rintro r w4 ⟨rfl, b4⟩
                  have Hw4 := Lib.hid (Hw.out.trans (b4.mono Hw.out.size))
                  have HK4 := Lib.hid (HKw.out.below b4)
                  clear b4 k0 k1 k2 k3 k4 k5 k6 k7 k8 k9 k10
                  obtain ⟨k0, k1, k2, k3, k4, k5, k6, k7, k8, k9, k10⟩ := bx_of HK4.out
                  by_cases ha : t.2 = 0
                  · have ha2 : (t.2 == 0) = true := by simpa using ha
                    by_cases hb : t.1 ≤ 1000000000
                    · cases mb with
                      | false =>
                        by_cases hf1 : 1 ≤ e.family
                        · by_cases hf2 : e.family ≤ 30
                          · have hok := HC.out
                            rw [ha2, decide_eq_true hb, decide_eq_true hf1, decide_eq_true hf2] at hok
                            have Hok := Lib.hid hok
                            clear hok hp
                            go_wp2_with fail
                            refine (HN.out _).mono ?_
                            rintro r w5 ⟨rfl, rfl⟩
                            go_wp2_with fail
                            exact ⟨⟨k + 1, by omega, by go_num, next_ok Hj.out hk2 Hok.out, Hw4.out⟩, by simp [intOf]; omega⟩
                          · have hok := HC.out
                            rw [ha2, decide_eq_true hb, decide_eq_true hf1, decide_eq_false hf2] at hok
                            have Hok := Lib.hid (all_not e l k hk2 hok)
                            have hfd : decide (e.family ≤ 30) = false := decide_eq_false hf2
                            clear hok hp
                            go_wp2_with fail
                            refine (HN.out _).mono ?_
                            rintro r w5 ⟨rfl, rfl⟩
                            go_wp2_with fail
                            go_ret
                            exact ⟨ret_bool (by rw [HgE.out, Hok.out]), HB.out.trans (Hw4.out.mono HB.out.size)⟩
                        · have hok := HC.out
                          rw [ha2, decide_eq_true hb, decide_eq_false hf1] at hok
                          have Hok := Lib.hid (all_not e l k hk2 hok)
                          clear hok hp
                          go_wp2_with fail
                          refine (HN.out _).mono ?_
                          rintro r w5 ⟨rfl, rfl⟩
                          go_wp2_with fail
                          go_ret
                          exact ⟨ret_bool (by rw [HgE.out, Hok.out]), HB.out.trans (Hw4.out.mono HB.out.size)⟩
                      | true =>
                        have hok := HC.out
                        rw [ha2, decide_eq_true hb] at hok
                        have Hok := Lib.hid (all_not e l k hk2 hok)
                        clear hok hp
                        go_wp2_with fail
                        refine (HN.out _).mono ?_
                        rintro r w5 ⟨rfl, rfl⟩
                        go_wp2_with fail
                        go_ret
                        exact ⟨ret_bool (by rw [HgE.out, Hok.out]), HB.out.trans (Hw4.out.mono HB.out.size)⟩
                    · have hok := HC.out
                      rw [ha2, decide_eq_false hb] at hok
                      have Hok := Lib.hid (all_not e l k hk2 hok)
                      clear hok hp
                      go_wp2_with fail
                      go_ret
                      exact ⟨ret_bool (by rw [HgE.out, Hok.out]), HB.out.trans (Hw4.out.mono HB.out.size)⟩
                  · have ha2 : (t.2 == 0) = false := by simpa using ha
                    have hok := HC.out
                    rw [ha2] at hok
                    have Hok := Lib.hid (all_not e l k hk2 hok)
                    clear hok ha hp
                    go_wp2_with fail
                    go_ret
                    exact ⟨ret_bool (by rw [HgE.out, Hok.out]), HB.out.trans (Hw4.out.mono HB.out.size)⟩
                · have HC : okR e (((80 : Nat)) : Int) = (decide (1 ≤ e.plan) && decide (e.plan ≤ 4)) := if_neg hp
                  rw [← hc] at HC
                  have HC := Lib.hid HC
                  have hp4 : (e.plan == 4) = false := by simpa using hp
                  by_cases ha : 1 ≤ e.plan
                  · by_cases hb : e.plan ≤ 4
                    · have hok := HC.out
                      rw [decide_eq_true ha, decide_eq_true hb] at hok
                      have Hok := Lib.hid hok
                      clear hok hp
                      go_wp2_with fail
                      exact ⟨⟨k + 1, by omega, by go_num, next_ok Hj.out hk2 Hok.out, Hw.out⟩, by simp [intOf]; omega⟩
                    · have hok := HC.out
                      rw [decide_eq_true ha, decide_eq_false hb] at hok
                      have Hok := Lib.hid (all_not e l k hk2 hok)
                      clear hok hp
                      go_wp2_with fail
                      go_ret
                      exact ⟨ret_bool (by rw [HgE.out, Hok.out]), HB.out.trans (Hw.out.mono HB.out.size)⟩
                  · have hok := HC.out
                    rw [decide_eq_false ha] at hok
                    have Hok := Lib.hid (all_not e l k hk2 hok)
                    clear hok hp
                    go_wp2_with fail
                    go_ret
                    exact ⟨ret_bool (by rw [HgE.out, Hok.out]), HB.out.trans (Hw.out.mono HB.out.size)⟩
            · obtain rfl : k = l.size := by omega
              have hall := all_upto e l (fun j hj => Hj.out j hj hj)
              have Hall := Lib.hid hall
              clear hall
              go_wp2_with fail
              go_ret
              exact ⟨ret_bool (by rw [HgE.out, Hall.out]), HB.out.trans (Hw.out.mono HB.out.size)⟩
  · have hg := hkn (.inl hk)
    clear hkn
    go_quiet (fail)
    go_wp2_with fail
    go_ret
    exact ⟨ret_bool hg.symm, pw_below_drewN' HB.out _⟩
  · have hg := hkn (.inr hk.2)
    clear hkn
    obtain ⟨hk1, hk2⟩ := hk
    go_quiet (fail)
    go_wp2_with fail
    go_ret
    exact ⟨ret_bool hg.symm, pw_below_drewN' HB.out _⟩
end Go.Proofs.YtkcjgmicoifhcaaGreatDoor.Ev

/- E27: The reference's Fine, Pack and Open; EventCommands walked. (Printed by gen27.py, gen28.py, gen29.py, join27.py.) -/
namespace Go.Proofs.YtkcjgmicoifhcaaGreatDoor.Ev
open Go.RowKit Go.Proofs.YtkcjgmicoifhcaaGreatDoor.Pk Go.Proofs.YtkcjgmicoifhcaaGreatDoor.Re

set_option maxRecDepth 20000 in
set_option maxHeartbeats 4000000 in
theorem rfine_calls (c : C) (w : World) (hr : c.e.rate < 18446744073709551616) (hi : c.e.income < 18446744073709551616) :
    Calls Tryz.prog 28 #[c.v] w fun r w' => r = .returned (.bool (fineC c)) ∧ Below w.heap.size w w' := by
  have hb := Blk.new w 27 c.cells
  have HB := Lib.hid ((Below.refl w.heap.size w).alloc (Nat.le_refl _) (.cells c.cells 27))
  have HBk := Lib.hid hb
  have HG := Lib.hid (fun W => rgoodE_calls c.e W hr hi)
  rw [← good_same c.e hr hi] at HG
  have HS := Lib.hid (fun W => kev_calls c.e zeroE W)
  obtain ⟨k0, k1, k2, k3, k4, k5, k6, k7, k8, k9, k10, k11, k12, k13⟩ := cx_of hb
  clear hb
  unfold fineC
  obtain ⟨u, hu⟩ : ∃ u, c.undo = u := ⟨_, rfl⟩
  obtain ⟨g1, hg1⟩ : ∃ u, goodE c.e = u := ⟨_, rfl⟩
  obtain ⟨g2, hg2⟩ : ∃ u, decide (c.e = zeroE) = u := ⟨_, rfl⟩
  rw [hg1] at HG ⊢
  rw [hg2] at HS ⊢
  obtain ⟨q, hq⟩ : ∃ q, (c.of == 0) = q := ⟨_, rfl⟩
  obtain ⟨q2, hq2⟩ : ∃ q, (c.e.key == c.key) = q := ⟨_, rfl⟩
  rw [hu, hq, hq2]
  have HU := Lib.hid hu
  have HQ := Lib.hid hq
  have HQ2 := Lib.hid hq2
  clear hg1 hg2 hu hq hq2
  go_enter Tryz.func28, Tryz.ntmps28
  go_upto_region 1 with fail
  generalize w.alloc (.cells c.cells 27) = W1 at *
  rw [HU.out] at k0
  have hq := HQ.out
  have hq2 := HQ2.out
  cases u with
  | true =>
    go_wp2_with fail
    refine (HS.out _).mono ?_
    rintro r w2 ⟨rfl, b2⟩
    have HB2 := Lib.hid (HB.out.trans (b2.mono HB.out.size))
    clear b2
    go_wp2_with fail
    go_ret
    exact ⟨rfl, HB2.out⟩
  | false =>
    cases q with
    | false =>
      go_wp2_with fail
      go_ret
      exact ⟨rfl, HB.out⟩
    | true =>
      go_wp2_with fail
      refine (HG.out _).mono ?_
      rintro r w2 ⟨rfl, b2⟩
      have HB2 := Lib.hid (HB.out.trans (b2.mono HB.out.size))
      have HK2 := Lib.hid (HBk.out.below b2)
      clear b2 k0 k1 k2 k3 k4 k5 k6 k7 k8 k9 k10 k11 k12 k13
      obtain ⟨k0, k1, k2, k3, k4, k5, k6, k7, k8, k9, k10, k11, k12, k13⟩ := cx_of HK2.out
      cases g1 with
      | false =>
        go_wp2_with fail
        go_ret
        exact ⟨rfl, HB2.out⟩
      | true =>
        go_wp2_with fail
        go_ret
        exact ⟨ret_bool (by simp), HB2.out⟩
end Go.Proofs.YtkcjgmicoifhcaaGreatDoor.Ev

/- V0: strconv.FormatUint at base 10 (the shelf's FormatInt text turned to it); texts as lists. -/
namespace Go.Proofs.YtkcjgmicoifhcaaGreatDoor.Vw
open Go.RowKit Go.Sort Go.Lib Go.Shelf

/-- The table of the library's that a numeral reads. -/
abbrev Tab (w : World) : Prop := Lib.TabIs Tryz.prog w "internal/strconv.uint64pow10" .u64 Lib.pow10Tab
theorem Tab.below {w w1 : World} (h : Tab w) (hb : Below w.heap.size w w1) : Tab w1 := Lib.tabBelow_of_tabIs h w1 hb
/-- A text out of letters. -/
abbrev str (l : List UInt8) : ByteArray := ⟨l.toArray⟩
theorem below_drewN {n : Nat} {w w1 : World} (h : Below n w w1) : ∀ m, Below n w (w1.drewN m)
  | 0 => h
  | m + 1 => by
    have := (below_drewN h m).drew
    exact this
theorem below_grow (w : World) (os : Array Obj) : Below w.heap.size w (grow w os) :=
  ⟨rfl, rfl, rfl, by simp [grow], fun k hk => by simp [grow, Array.getElem?_append, hk]⟩
theorem below_fmt (w : World) (o : Obj) (dk : Array UInt8) (k : Nat) : Below w.heap.size w ((putRow (fun (b : UInt8) => Value.int .u8 (b.toNat : Int)) (w.alloc o) w.heap.size 0 dk).drewN k) := by
  rw [alloc_eq_grow]
  obtain ⟨os', _, e⟩ := putRow_grow_new (fun (b : UInt8) => Value.int .u8 (b.toNat : Int)) w #[o] w.heap.size 0 dk (Nat.le_refl _)
  rw [e]
  exact below_drewN (below_grow w os') k
set_option maxHeartbeats 6400000 in
set_option maxRecDepth 100000 in
theorem fmtU (u : Nat) (hu64 : u < 18446744073709551616) (w : World) (htab : Tab w) :
    Calls Tryz.prog 37 #[.int .u64 u, .int .i64 10] w fun e w' => e = .returned (.string (str (Lib.decDigits u))) ∧ Below w.heap.size w w' := by
  by_cases hs : u < 100
  · have HS := Lib.hid (fun W => Tryz.internal_strconv_small u hs W)
    have h1 : (u : Int) < 100 := by omega
    go_enter Tryz.func37, Tryz.ntmps37
    go_wp2_with (go_at_call 66; refine (HS.out _).mono ?_; rintro e w' ⟨rfl, rfl⟩)
    go_ret
    exact ⟨rfl, Below.refl _ _⟩
  · have hu1 : 1 ≤ u := by omega
    have h1 : ¬ (u : Int) < 100 := by omega
    have hnd20 : Lib.nDigits u ≤ 20 := by have := Lib.numDigits_eq u hu1 hu64; split at this <;> omega
    have hb3 : Lib.nDigits u ≤ 24 := by omega
    have hal : Tryz.prog.arrayLen 109 = 24 := by kernel_rfl
    have hsl1 : ∀ W, (Instr.sliceAt 109 (.pointer (some ⟨w.heap.size, 0, none⟩)) none (some (.int .i64 (Lib.nDigits u : Int))) none).run Tryz.prog W = .ok (.slice (some ⟨w.heap.size, 0, none⟩) (Lib.nDigits u) 24) W := fun W => by
      rw [run_sliceAt_array_h W 109 ⟨w.heap.size, 0, none⟩ (by kernel_rfl) .i64 (Lib.nDigits u : Int) (by omega) (by rw [hal]; omega)]
      go_simp
    have hH0 := Lib.holds_zero0 w 109 (Lib.nDigits u) (by omega)
    have hfmt := Tryz.internal_strconv_formatBase10 w.heap.size 0 24 u (Array.replicate (Lib.nDigits u) 0) (w.alloc (.cells Lib.zeros24 109)) hH0 (by rw [Array.size_replicate]; exact Lib.lt_pow_nDigits u) hu64 (by rw [Array.size_replicate]; omega)
    rw [Array.size_replicate] at hfmt
    have HH0 := Lib.hid hH0
    have HF := Lib.hid hfmt
    have HT := Lib.hid htab
    clear hH0 hal hfmt htab
    go_enter Tryz.func37, Tryz.ntmps37
    go_wp2_with (first
      | (go_at_call 67; refine (Tryz.internal_strconv_numDigits u hu1 hu64 _ (Lib.tabIs_alloc HT.out _)).mono ?_; rintro e w' ⟨rfl, rfl⟩))
    go_at_call 68
    refine HF.out.mono ?_
    rintro e w' ⟨rfl, k, v', dk, rfl, hF⟩
    have hcv : (convert 76 9 (.slice (some ⟨w.heap.size, 0, none⟩) (Lib.nDigits u) 24)).run Tryz.prog ((putRow (fun (b : UInt8) => Value.int .u8 (b.toNat : Int)) (w.alloc (.cells Lib.zeros24 109)) w.heap.size 0 dk).drewN k) = .ok (.string ⟨(Lib.decDigits u).toArray⟩) ((putRow (fun (b : UInt8) => Value.int .u8 (b.toNat : Int)) (w.alloc (.cells Lib.zeros24 109)) w.heap.size 0 dk).drewN k) := by
      have h := run_convert_bytes_back (P := Tryz.prog) ((putRow (fun (b : UInt8) => Value.int .u8 (b.toNat : Int)) (w.alloc (.cells Lib.zeros24 109)) w.heap.size 0 dk).drewN k) 76 9 5 ⟨w.heap.size, 0, none⟩ 24 (Lib.decDigits u) Tryz.underlying76 Tryz.underlying5 Tryz.underlying9 (fun j hj => by
        rw [Lib.row_is_numeral hF j hj, Lib.add_plain, World.cell?_drewN]
        exact cell?_putRow (fun (b : UInt8) => Value.int .u8 (b.toNat : Int)) _ w.heap.size 0 _ dk HH0.out (by rw [hF.size, Array.size_replicate]) j (by rw [hF.size]; rw [Lib.decDigits_length] at hj; exact hj))
      rw [Lib.decDigits_length] at h
      exact h
    have HB := Lib.hid (below_fmt w (.cells Lib.zeros24 109) dk k)
    generalize (putRow (fun (b : UInt8) => Value.int .u8 (b.toNat : Int)) (w.alloc (.cells Lib.zeros24 109)) w.heap.size 0 dk).drewN k = W9 at *
    go_wp2_with fail
    go_ret
    exact ⟨rfl, HB.out⟩
/-- A numeral, noughts ahead: at least so many letters. -/
def pad (u k : Nat) : List UInt8 := List.replicate (k - (Lib.decDigits u).length) 48 ++ Lib.decDigits u
theorem repeat0 (c : Nat) : Lib.repeatL [48] c = List.replicate c 48 := by
  induction c with
  | zero => rfl
  | succ c ih => rw [Lib.repeatL, ih]; rfl
theorem dig_len (u : Nat) (hu64 : u < 18446744073709551616) : 1 ≤ (Lib.decDigits u).length ∧ (Lib.decDigits u).length ≤ 20 := by
  rw [Lib.decDigits_length]
  by_cases h : 1 ≤ u
  · have := Lib.numDigits_eq u h hu64
    constructor
    · by_cases h10 : u < 10
      · rw [Lib.nDigits_small h10]; exact Nat.le_refl _
      · rw [Lib.nDigits_big h10]; exact Nat.le_add_left _ _
    · split at this <;> omega
  · obtain rfl : u = 0 := by omega
    rw [Lib.nDigits_small (by omega)]
    omega
theorem pad_len (u k : Nat) (hu64 : u < 18446744073709551616) (hk : k ≤ 20) : (pad u k).length ≤ 20 := by
  have := dig_len u hu64
  unfold pad
  rw [List.length_append, List.length_replicate]
  omega
set_option maxRecDepth 20000 in
theorem fmtUint (u : Nat) (hu64 : u < 18446744073709551616) (w : World) (htab : Tab w) :
    Calls Tryz.prog 15 #[.int .u64 u, .int .i64 10] w fun e w' => e = .returned (.string (str (Lib.decDigits u))) ∧ Below w.heap.size w w' := by
  have HF := Lib.hid (fmtU u hu64 w htab)
  clear htab
  go_enter Tryz.func15, Tryz.ntmps15
  go_wp2_with fail
  refine HF.out.mono ?_
  rintro e w1 ⟨rfl, hb⟩
  have HB := Lib.hid hb
  clear hb
  go_wp2_with fail
  go_ret
  exact ⟨rfl, HB.out⟩
theorem str_size (l : List UInt8) : (str l).size = l.length := by simp [ByteArray.size]
theorem str_add (a b : List UInt8) : str a ++ str b = str (a ++ b) := by
  apply ByteArray.ext
  simp [str, ByteArray.data_append]
theorem add_run (a b : List UInt8) (h : a.length + b.length ≤ 9223372036854775807) (W : World) : (Op.stringOp .add (str a) (str b)).run Tryz.prog W = .ok (.string (str (a ++ b))) W := by
  have h1 := str_size a
  have h2 := str_size b
  rw [← str_add]
  simp [go_sem]
  omega
/-- One behind the other (a name that the walk leaves alone). -/
def cat (a b : List UInt8) : List UInt8 := a ++ b
theorem add_cat (a b : List UInt8) (h : a.length + b.length ≤ 9223372036854775807) (W : World) : (Op.stringOp .add (str a) (str b)).run Tryz.prog W = .ok (.string (str (cat a b))) W := add_run a b h W
theorem cat_len (a b : List UInt8) : (cat a b).length = a.length + b.length := List.length_append
set_option maxRecDepth 20000 in
theorem digits_calls (u k : Nat) (hu64 : u < 18446744073709551616) (hk : k ≤ 20) (w : World) (htab : Tab w) :
    Calls Tryz.prog 39 #[.int .u64 u, .int .i64 k] w fun e w' => e = .returned (.string (str (pad u k))) ∧ Below w.heap.size w w' := by
  have HF := Lib.hid (fmtUint u hu64 w htab)
  obtain ⟨d1, d2⟩ := dig_len u hu64
  have HR := Lib.hid (fun W => Tryz.strings_Repeat (str [48]) (k - (Lib.decDigits u).length) W (by omega) (by simp [ByteArray.size]; omega))
  have hadd := add_run (Lib.repeatL [48] (k - (Lib.decDigits u).length)) (Lib.decDigits u) (by rw [repeat0, List.length_replicate]; omega)
  have HP : Hid (Lib.repeatL [48] (k - (Lib.decDigits u).length) ++ Lib.decDigits u = pad u k) := Lib.hid (by rw [repeat0]; rfl)
  rw [HP.out] at hadd
  have hsz := str_size (Lib.decDigits u)
  have hmax : max ((k : Int) - ((Lib.decDigits u).length : Int)) 0 = ((k - (Lib.decDigits u).length : Nat) : Int) := by omega
  generalize Lib.decDigits u = D at *
  clear htab HP
  go_enter Tryz.func39, Tryz.ntmps39
  go_wp2_with fail
  refine HF.out.mono ?_
  rintro e w1 ⟨rfl, hb⟩
  have HB := Lib.hid hb
  clear hb
  go_wp2_with fail
  refine (HR.out _).mono ?_
  rintro e w2 ⟨rfl, hb⟩
  have HB2 := Lib.hid (HB.out.trans (hb.mono HB.out.size))
  clear hb
  go_wp2_with fail
  go_ret
  exact ⟨rfl, HB2.out⟩
end Go.Proofs.YtkcjgmicoifhcaaGreatDoor.Vw

/- V1: Money of both; the reference's numbers as texts. -/
namespace Go.Proofs.YtkcjgmicoifhcaaGreatDoor.Vw
open Go.RowKit Go.Sort Go.Lib Go.Shelf

theorem dec_one (u : Nat) (h : u < 10) : Lib.decDigits u = [UInt8.ofNat (48 + u)] := by rw [Lib.decDigits, dif_pos h]
theorem dec_more (u : Nat) (h : ¬ u < 10) : Lib.decDigits u = Lib.decDigits (u / 10) ++ Lib.decDigits (u % 10) := by
  rw [Lib.decDigits, dif_neg h, dec_one (u % 10) (by omega)]
theorem slice_one (u : Nat) (h : u < 10) (W : World) : (Instr.sliceAt 9 (.string ⟨#[48, 49, 50, 51, 52, 53, 54, 55, 56, 57]⟩) (some (.int .u64 (u : Int))) (some (.int .u64 ((u : Int) + 1))) none).run Tryz.prog W = .ok (.string (str (Lib.decDigits u))) W := by
  rw [dec_one u h]
  have : u = 0 ∨ u = 1 ∨ u = 2 ∨ u = 3 ∨ u = 4 ∨ u = 5 ∨ u = 6 ∨ u = 7 ∨ u = 8 ∨ u = 9 := by omega
  rcases this with rfl | rfl | rfl | rfl | rfl | rfl | rfl | rfl | rfl | rfl <;> (show _ = _; kernel_rfl)
set_option maxRecDepth 20000 in
theorem dec_base (u : Nat) (h : u < 10) (w : World) : Calls Tryz.prog 59 #[.int .u64 u] w fun e w' => e = .returned (.string (str (Lib.decDigits u))) ∧ w' = w := by
  have hs := slice_one u h
  have h1 : (u : Int) < 10 := by omega
  go_enter Tryz.func59, Tryz.ntmps59
  go_wp2_with fail
  go_ret
  exact ⟨rfl, rfl⟩
set_option maxRecDepth 20000 in
theorem dec_any (k : Nat) : ∀ (u : Nat) (w : World), u < 10 ^ (k + 1) → u < 18446744073709551616 → Calls Tryz.prog 59 #[.int .u64 u] w fun e w' => e = .returned (.string (str (Lib.decDigits u))) ∧ w' = w := by
  induction k with
  | zero => intro u w h _; exact dec_base u (by omega) w
  | succ k ih =>
    intro u w h h64
    by_cases h10 : u < 10
    · exact dec_base u h10 w
    · have q1 : u / 10 < 10 ^ (k + 1) := by rw [Nat.pow_succ] at h; omega
      have HA := Lib.hid (fun W => ih (u / 10) W q1 (by omega))
      have HB := Lib.hid (fun W => dec_base (u % 10) (by omega) W)
      obtain ⟨_, l1⟩ := dig_len (u / 10) (by omega)
      obtain ⟨_, l2⟩ := dig_len (u % 10) (by omega)
      have hadd := add_run (Lib.decDigits (u / 10)) (Lib.decDigits (u % 10)) (by omega)
      rw [← dec_more u h10] at hadd
      have h1 : ¬ (u : Int) < 10 := by omega
      clear l1 l2 q1 h
      go_enter Tryz.func59, Tryz.ntmps59
      go_wp2_with fail
      rw [show (u : Int) / 10 = ((u / 10 : Nat) : Int) by omega]
      refine (HA.out _).mono ?_
      rintro e w1 ⟨rfl, rfl⟩
      go_wp2_with fail
      rw [show (u : Int) % 10 = ((u % 10 : Nat) : Int) by omega]
      refine (HB.out _).mono ?_
      rintro e w1 ⟨rfl, rfl⟩
      go_wp2_with fail
      go_ret
      exact ⟨rfl, rfl⟩
theorem dec_calls (u : Nat) (w : World) (h64 : u < 18446744073709551616) : Calls Tryz.prog 59 #[.int .u64 u] w fun e w' => e = .returned (.string (str (Lib.decDigits u))) ∧ w' = w :=
  dec_any 19 u w (by omega) h64
theorem pad_two (u : Nat) (h : u < 100) : Lib.decDigits (u / 10 % 10) ++ Lib.decDigits (u % 10) = pad u 2 := by
  unfold pad
  by_cases h1 : u < 10
  · rw [dec_one u h1, dec_one (u / 10 % 10) (by omega), dec_one (u % 10) (by omega), show u / 10 % 10 = 0 by omega, show u % 10 = u by omega]
    rfl
  · rw [dec_more u h1, dec_one (u / 10) (by omega), dec_one (u / 10 % 10) (by omega), show u / 10 % 10 = u / 10 by omega, dec_one (u % 10) (by omega)]
    rfl
set_option maxRecDepth 20000 in
theorem two_calls (u : Nat) (w : World) (h : u < 100) : Calls Tryz.prog 60 #[.int .u64 u] w fun e w' => e = .returned (.string (str (pad u 2))) ∧ w' = w := by
  have HA := Lib.hid (fun W => dec_base (u / 10 % 10) (by omega) W)
  have HB := Lib.hid (fun W => dec_base (u % 10) (by omega) W)
  obtain ⟨_, l1⟩ := dig_len (u / 10 % 10) (by omega)
  obtain ⟨_, l2⟩ := dig_len (u % 10) (by omega)
  have hadd := add_run (Lib.decDigits (u / 10 % 10)) (Lib.decDigits (u % 10)) (by omega)
  rw [pad_two u h] at hadd
  clear l1 l2
  go_enter Tryz.func60, Tryz.ntmps60
  go_wp2_with fail
  rw [show (u : Int) / 10 % 10 = ((u / 10 % 10 : Nat) : Int) by omega]
  refine (HA.out _).mono ?_
  rintro e w1 ⟨rfl, rfl⟩
  go_wp2_with fail
  rw [show (u : Int) % 10 = ((u % 10 : Nat) : Int) by omega]
  refine (HB.out _).mono ?_
  rintro e w1 ⟨rfl, rfl⟩
  go_wp2_with fail
  go_ret
  exact ⟨rfl, rfl⟩
/-- Money as a text. -/
def moneyL (c : Int) : List UInt8 := if c < 0 then 45 :: (Lib.decDigits (c.natAbs / 100) ++ (46 :: pad (c.natAbs % 100) 2)) else Lib.decDigits (c.natAbs / 100) ++ (46 :: pad (c.natAbs % 100) 2)
theorem pad_one (u : Nat) : pad u 1 = Lib.decDigits u := by
  unfold pad
  by_cases h : u < 10
  · rw [dec_one u h]; rfl
  · have : 1 ≤ (Lib.decDigits u).length := by
      rw [dec_more u h, List.length_append, dec_one (u % 10) (by omega)]
      simp
    rw [show 1 - (Lib.decDigits u).length = 0 by omega]
    rfl
theorem neg_wrap (m : Nat) (h : m ≤ 9223372036854775808) : IntKind.u64.wrap (-IntKind.u64.wrap (-(m : Int))) = (m : Int) := by rw [IntKind.wrap_u64, IntKind.wrap_u64]; omega
theorem m_wraps (m : Nat) (h1 : 1 ≤ m) (h : m ≤ 9223372036854775808) : IntKind.i64.wrap (-(m : Int) + 1) = -(m : Int) + 1 ∧ IntKind.i64.wrap (-(-(m : Int) + 1)) = (m : Int) - 1 ∧ IntKind.u64.wrap ((m : Int) - 1) = (m : Int) - 1 ∧ IntKind.u64.wrap ((m : Int) - 1 + 1) = (m : Int) := by
  refine ⟨?_, ?_, ?_, ?_⟩
  · rw [IntKind.wrap_i64]; omega
  · rw [IntKind.wrap_i64]; omega
  · rw [IntKind.wrap_u64]; omega
  · rw [IntKind.wrap_u64]; omega
set_option maxRecDepth 20000 in
set_option maxHeartbeats 1000000 in
theorem rint_calls (c : Int) (h0 : -9223372036854775808 ≤ c) (h1 : c ≤ 9223372036854775807) (w : World) :
    Calls Tryz.prog 57 #[.int .i64 c] w fun e w' => e = .returned (.string (str (Lib.itoa c))) ∧ w' = w := by
  obtain ⟨m, hm⟩ : ∃ m, c.natAbs = m := ⟨_, rfl⟩
  have m1 : m < 18446744073709551616 := by omega
  have HA := Lib.hid (fun W => dec_calls m W m1)
  obtain ⟨_, l1⟩ := dig_len m m1
  have ha1 := add_cat [45] (Lib.decDigits m) (by simp; omega)
  clear l1
  by_cases hneg : c < 0
  · have hc : c = -(m : Int) := by omega
    have HM : Hid (Lib.itoa c = cat [45] (Lib.decDigits m)) := Lib.hid (by unfold Lib.itoa cat; rw [if_pos hneg, hm]; rfl)
    obtain ⟨q1, q2, q3, q4⟩ := m_wraps m (by omega) (by omega)
    subst hc
    clear hm
    generalize Lib.decDigits m = A at *
    go_enter Tryz.func57, Tryz.ntmps57
    go_wp2_with fail
    refine (HA.out _).mono ?_
    rintro e w1 ⟨rfl, rfl⟩
    go_wp2_with fail
    go_ret
    exact ⟨by rw [HM.out]; rfl, rfl⟩
  · have hc : c = (m : Int) := by omega
    have HM : Hid (Lib.itoa c = Lib.decDigits m) := Lib.hid (by unfold Lib.itoa; rw [if_neg hneg]; congr 1; omega)
    subst hc
    have hw : IntKind.u64.wrap (m : Int) = (m : Int) := by rw [IntKind.wrap_u64]; omega
    clear hm ha1
    generalize Lib.decDigits m = A at *
    go_enter Tryz.func57, Tryz.ntmps57
    go_wp2_with fail
    refine (HA.out _).mono ?_
    rintro e w1 ⟨rfl, rfl⟩
    go_wp2_with fail
    go_ret
    exact ⟨by rw [HM.out]; rfl, rfl⟩
end Go.Proofs.YtkcjgmicoifhcaaGreatDoor.Vw

/- V2: Dates, plain: months by number, their first days, years. No program in sight. -/
namespace Go.Proofs.YtkcjgmicoifhcaaGreatDoor.Vw

def longB (y : Int) : Bool := (y % 4 == 0) && ((y % 100 != 0) || (y % 400 == 0))
/-- How many days a year's month has. -/
def mdN (y m : Int) : Int :=
  if m = 2 then (if longB y then 29 else 28)
  else if m = 4 ∨ m = 6 ∨ m = 9 ∨ m = 11 then 30
  else if 1 ≤ m ∧ m ≤ 12 then 31 else 0
/-- How many days the month of a number has. -/
def md (k : Nat) : Int := mdN (1960 + (k / 12 : Nat)) (1 + (k % 12 : Nat))
/-- The first day of the month of a number. -/
def S : Nat → Int
  | 0 => 0
  | k + 1 => S k + md k
def lg (y : Int) : Int := y / 4 - y / 100 + y / 400
/-- How many days there are ahead of a year. -/
def yr (y : Int) : Int := (y - 1960) * 365 + lg (y - 1) - 474
theorem mdN_le (y m : Int) (h : 1 ≤ m ∧ m ≤ 12) : 28 ≤ mdN y m ∧ mdN y m ≤ 31 := by
  unfold mdN
  split
  · split <;> omega
  · split
    · omega
    · omega
theorem md_le (k : Nat) : 28 ≤ md k ∧ md k ≤ 31 := mdN_le _ _ (by omega)
theorem S_lt {a b : Nat} (h : a < b) : S a < S b := by
  induction b with
  | zero => omega
  | succ b ih =>
    have := md_le b
    show S a < S b + md b
    by_cases c : a = b
    · subst c; omega
    · have := ih (by omega); omega
theorem S_le {a b : Nat} (h : a ≤ b) : S a ≤ S b := by
  by_cases c : a = b
  · subst c; exact Int.le_refl _
  · exact Int.le_of_lt (S_lt (by omega))
/-- A day lies in the month k: the months ahead of it are those up to k. -/
theorem S_iff {n : Int} {k : Nat} (h : S k ≤ n ∧ n < S (k + 1)) (a : Nat) : S a ≤ n ↔ a ≤ k := by
  constructor
  · intro h1
    refine Decidable.byContradiction fun hn => ?_
    have := S_le (show k + 1 ≤ a by omega)
    omega
  · intro h1
    have := S_le h1
    omega
theorem S_one {n : Int} {k j : Nat} (h : S k ≤ n ∧ n < S (k + 1)) (g : S j ≤ n ∧ n < S (j + 1)) : k = j := by
  have h1 := (S_iff h j).1 g.1
  have h2 := (S_iff g k).1 h.1
  omega
theorem S_has (K : Nat) : ∀ n : Int, 0 ≤ n → n < S K → ∃ k, k < K ∧ S k ≤ n ∧ n < S (k + 1) := by
  induction K with
  | zero => intro n h0 h; exact absurd h (by show ¬ n < 0; omega)
  | succ K ih =>
    intro n h0 h
    by_cases c : n < S K
    · obtain ⟨k, h1, h2⟩ := ih n h0 c
      exact ⟨k, by omega, h2⟩
    · exact ⟨K, by omega, by omega, h⟩
theorem md_at (j i : Nat) (h : i < 12) : md (12 * j + i) = mdN (1960 + (j : Int)) (1 + (i : Int)) := by
  unfold md
  rw [show (12 * j + i) / 12 = j by omega, show (12 * j + i) % 12 = i by omega]
theorem S_year (j : Nat) : S (12 * j + 12) = S (12 * j) + 365 + (if longB (1960 + (j : Int)) then 1 else 0) := by
  have h0 : md (12 * j + 0) = 31 := (md_at j 0 (by decide)).trans rfl
  have e0 : S (12 * j + 1) = S (12 * j + 0) + md (12 * j + 0) := rfl
  have h1 : md (12 * j + 1) = (if longB (1960 + (j : Int)) then 29 else 28) := (md_at j 1 (by decide)).trans rfl
  have e1 : S (12 * j + 2) = S (12 * j + 1) + md (12 * j + 1) := rfl
  have h2 : md (12 * j + 2) = 31 := (md_at j 2 (by decide)).trans rfl
  have e2 : S (12 * j + 3) = S (12 * j + 2) + md (12 * j + 2) := rfl
  have h3 : md (12 * j + 3) = 30 := (md_at j 3 (by decide)).trans rfl
  have e3 : S (12 * j + 4) = S (12 * j + 3) + md (12 * j + 3) := rfl
  have h4 : md (12 * j + 4) = 31 := (md_at j 4 (by decide)).trans rfl
  have e4 : S (12 * j + 5) = S (12 * j + 4) + md (12 * j + 4) := rfl
  have h5 : md (12 * j + 5) = 30 := (md_at j 5 (by decide)).trans rfl
  have e5 : S (12 * j + 6) = S (12 * j + 5) + md (12 * j + 5) := rfl
  have h6 : md (12 * j + 6) = 31 := (md_at j 6 (by decide)).trans rfl
  have e6 : S (12 * j + 7) = S (12 * j + 6) + md (12 * j + 6) := rfl
  have h7 : md (12 * j + 7) = 31 := (md_at j 7 (by decide)).trans rfl
  have e7 : S (12 * j + 8) = S (12 * j + 7) + md (12 * j + 7) := rfl
  have h8 : md (12 * j + 8) = 30 := (md_at j 8 (by decide)).trans rfl
  have e8 : S (12 * j + 9) = S (12 * j + 8) + md (12 * j + 8) := rfl
  have h9 : md (12 * j + 9) = 31 := (md_at j 9 (by decide)).trans rfl
  have e9 : S (12 * j + 10) = S (12 * j + 9) + md (12 * j + 9) := rfl
  have h10 : md (12 * j + 10) = 30 := (md_at j 10 (by decide)).trans rfl
  have e10 : S (12 * j + 11) = S (12 * j + 10) + md (12 * j + 10) := rfl
  have h11 : md (12 * j + 11) = 31 := (md_at j 11 (by decide)).trans rfl
  have e11 : S (12 * j + 12) = S (12 * j + 11) + md (12 * j + 11) := rfl
  have ez : S (12 * j + 0) = S (12 * j) := rfl
  split at h1
  · rename_i hl
    rw [if_pos hl]
    omega
  · rename_i hl
    rw [if_neg hl]
    omega
theorem yr_step (y : Int) : yr (y + 1) = yr y + 365 + (if longB y then 1 else 0) := by
  have e : longB y = true ↔ (y % 4 = 0 ∧ (y % 100 ≠ 0 ∨ y % 400 = 0)) := by unfold longB; simp
  unfold yr lg
  rw [show y + 1 - 1 = y by omega]
  by_cases h : longB y = true
  · rw [if_pos h]
    have := e.1 h
    omega
  · rw [if_neg h]
    have h2 : ¬ (y % 4 = 0 ∧ (y % 100 ≠ 0 ∨ y % 400 = 0)) := fun c => h (e.2 c)
    omega
theorem yr_S (j : Nat) : yr (1960 + (j : Int)) = S (12 * j) := by
  induction j with
  | zero => decide
  | succ j ih =>
    rw [show 12 * (j + 1) = 12 * j + 12 by omega, S_year, ← ih, ← yr_step]
    congr 1
theorem yr_le (j : Nat) : yr (1960 + (j : Int)) ≤ 366 * (j : Int) := by
  induction j with
  | zero => decide
  | succ j ih =>
    have h := yr_step (1960 + (j : Int))
    rw [show (1960 : Int) + (j : Int) + 1 = 1960 + ((j + 1 : Nat) : Int) by omega] at h
    rw [h]
    split <;> omega
theorem S_end : S 2880 = 87659 := by
  have := yr_S 240
  rw [show 12 * 240 = 2880 by decide] at this
  rw [← this]
  decide
theorem S_all (n : Int) (h : 0 ≤ n ∧ n ≤ 87658) : ∃ k, k < 2880 ∧ S k ≤ n ∧ n < S (k + 1) := S_has 2880 n h.1 (by rw [S_end]; omega)
end Go.Proofs.YtkcjgmicoifhcaaGreatDoor.Vw
