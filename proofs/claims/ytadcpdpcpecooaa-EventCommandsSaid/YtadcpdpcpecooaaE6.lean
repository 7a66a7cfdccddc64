/- The reference's Good. -/
import Derived.Test.YtadcpdpcpecooaaE3
import Derived.Test.YtadcpdpcpecooaaE7
import Derived.Deep.RegionHeld3
namespace Go.Proofs.Ytadcpdpcpecooaa.Ev
open Go.RowKit Go.Proofs.Ytadcpdpcpecooaa.Pk Go.Proofs.Ytadcpdpcpecooaa.Re

theorem bx_list {w : World} {g : Nat} {e : E} (h : Blk w g 25 e.cells) : w.cell? ⟨g, 0, none⟩ = some (.int .i64 e.kind) ∧ w.cell? ⟨g, 1, none⟩ = some (.int .i64 e.day) ∧ w.cell? ⟨g, 2, none⟩ = some (.int .u32 e.key) ∧ w.cell? ⟨g, 3, none⟩ = some (.int .i64 e.loan) ∧ w.cell? ⟨g, 4, none⟩ = some (.int .i64 e.amount) ∧ w.cell? ⟨g, 5, none⟩ = some (.float .f64 e.rate) ∧ w.cell? ⟨g, 6, none⟩ = some (.float .f64 e.income) ∧ w.cell? ⟨g, 7, none⟩ = some (.bool e.sub) ∧ w.cell? ⟨g, 8, none⟩ = some (.int .i64 e.status) ∧ w.cell? ⟨g, 9, none⟩ = some (.int .i64 e.plan) ∧ w.cell? ⟨g, 10, none⟩ = some (.int .i64 e.family) :=
  ⟨h.cell 0, h.cell 1, h.cell 2, h.cell 3, h.cell 4, h.cell 5, h.cell 6, h.cell 7, h.cell 8, h.cell 9, h.cell 10⟩
theorem pw_below_drewN' {B : Nat} {w W : World} (h : Below B w W) : ∀ n, Below B w (W.drewN n)
  | 0 => h
  | n + 1 => by
    have := (pw_below_drewN' h n).drew
    exact this
theorem all_upto (e : E) (l : ByteArray) (h : ∀ j (hj : j < l.size), okR e (l[j].toNat : Int) = true) : (ints l).all (okR e) = true := by
  rw [List.all_eq_true]
  intro x hx
  obtain ⟨j, hj, rfl⟩ := List.getElem_of_mem hx
  have hj2 : j < l.size := by rw [ints_length] at hj; exact hj
  have e1 : (ints l)[j] = (l[j].toNat : Int) := by simp [ints, ByteArray.getElem_eq_getElem_data]
  rw [e1]
  exact h j hj2
theorem all_not (e : E) (l : ByteArray) (j : Nat) (hj : j < l.size) (h : okR e (l[j].toNat : Int) = false) : (ints l).all (okR e) = false := by
  rw [List.all_eq_false]
  have hlen : j < (ints l).length := by rw [ints_length]; exact hj
  have e1 : (ints l)[j] = (l[j].toNat : Int) := by simp [ints, ByteArray.getElem_eq_getElem_data]
  exact ⟨_, List.getElem_mem hlen, by rw [e1, h]; decide⟩
theorem next_ok {e : E} {l : ByteArray} {k : Nat} (h : ∀ j (hj : j < l.size), j < k → okR e (l[j].toNat : Int) = true) (hk : k < l.size) (hc : okR e (l[k].toNat : Int) = true) : ∀ j (hj : j < l.size), j < k + 1 → okR e (l[j].toNat : Int) = true := by
  intro j hj hlt
  by_cases c : j = k
  · subst c; exact hc
  · exact h j hj (by omega)
set_option maxRecDepth 20000 in
set_option maxHeartbeats 4000000 in
theorem rgoodE_calls (e : E) (w : World) (hr : e.rate < 18446744073709551616) (hi : e.income < 18446744073709551616) :
    Calls Try.prog 16 #[e.v] w fun r w' => r = .returned (.bool (goodR' e)) ∧ Below w.heap.size w w' := by
  have hb := Blk.new w 25 e.cells
  have HB := Lib.hid ((Below.refl w.heap.size w).alloc (Nat.le_refl _) (.cells e.cells 25))
  have HD := Lib.hid (fun W => rday_calls e.day W)
  go_enter Try.func16, Try.ntmps16
  go_upto_region 1 with fail
  generalize w.alloc (.cells e.cells 25) = W1 at *
  obtain ⟨k0, k1, k2, k3, k4, k5, k6, k7, k8, k9, k10⟩ := bx_of hb
  have HBk := Lib.hid hb
  clear hb
  have hkb : kindB e.kind = true ∨ e.kind < 1 ∨ (1 ≤ e.kind ∧ 8 < e.kind) := by
    unfold kindB
    simp only [Bool.and_eq_true, decide_eq_true_eq]
    omega
  have hkn : e.kind < 1 ∨ 8 < e.kind → goodR' e = false := by
    intro h
    have : kindB e.kind = false := by
      unfold kindB
      simp only [Bool.and_eq_false_iff, decide_eq_false_iff_not]
      omega
    unfold goodR'
    rw [this]
    rfl
  rcases hkb with hk | hk | hk
  · have hk2 : 1 ≤ e.kind ∧ e.kind ≤ 8 := by
      unfold kindB at hk
      simp only [Bool.and_eq_true, decide_eq_true_eq] at hk
      exact hk
    clear hkn
    obtain ⟨h1, h2⟩ := hk2
    cases hd : dayB e.day with
    | false =>
      have hg : goodR' e = false := by unfold goodR'; rw [hk, hd]; rfl
      rw [hd] at HD
      go_quiet ((go_at_call 40; exact Calls.quiet_of_same (HD.out _)))
      go_wp2_with fail
      go_ret
      exact ⟨ret_bool hg.symm, pw_below_drewN' HB.out _⟩
    | true =>
      rw [hd] at HD
      obtain ⟨q, hq⟩ : ∃ q, decide (e = onlyE e) = q := ⟨_, rfl⟩
      have HV := Lib.hid (fun W => kev_calls e (onlyE e) W)
      rw [hq] at HV
      go_cut [30] from 10 to 30 (fun v W => v = .bool (!q) ∧ Below W1.heap.size W1 W)
      case first =>
        have HKE := Lib.hid (fun W (hB : Below W1.heap.size W1 W) => bx_list (HBk.out.below hB))
        have HO := Lib.hid (fun W => only_calls e W)
        clear hq hk hd HB HBk
        obtain ⟨kind, day, key, loan, amount, rate, income, sub, status, plan, family⟩ := e
        have h8 : kind = 1 ∨ kind = 2 ∨ kind = 3 ∨ kind = 4 ∨ kind = 5 ∨ kind = 6 ∨ kind = 7 ∨ kind = 8 := by
          simp only at h1 h2
          omega
        clear h1 h2
        rcases h8 with rfl | rfl | rfl | rfl | rfl | rfl | rfl | rfl
        · go_region_held3 (fun w' => w'.cell? ⟨w.heap.size, 0, none⟩ = some (.int .i64 1) ∧ w'.cell? ⟨w.heap.size, 1, none⟩ = some (.int .i64 day) ∧ w'.cell? ⟨w.heap.size, 2, none⟩ = some (.int .u32 key) ∧ w'.cell? ⟨w.heap.size, 3, none⟩ = some (.int .i64 loan) ∧ w'.cell? ⟨w.heap.size, 4, none⟩ = some (.int .i64 amount) ∧ w'.cell? ⟨w.heap.size, 5, none⟩ = some (.float .f64 rate) ∧ w'.cell? ⟨w.heap.size, 6, none⟩ = some (.float .f64 income) ∧ w'.cell? ⟨w.heap.size, 7, none⟩ = some (.bool sub) ∧ w'.cell? ⟨w.heap.size, 8, none⟩ = some (.int .i64 status) ∧ w'.cell? ⟨w.heap.size, 9, none⟩ = some (.int .i64 plan) ∧ w'.cell? ⟨w.heap.size, 10, none⟩ = some (.int .i64 family)) (first | go_keep | exact HKE.out _ (by assumption))
            (first
              | ((go_at_call 17; refine (HV.out p3).mono ?_; rintro r p4 ⟨rfl, b4⟩; have e4 : Below W1.heap.size W1 p4 := e3.trans (b4.mono e3.size)))
              | ((go_at_call 19; refine (HO.out W1.drew).mono ?_; rintro r p3 ⟨rfl, b3⟩; have e3 : Below W1.heap.size W1 p3 := (Below.refl _ _).drew.trans (b3.mono (Below.refl W1.heap.size W1).drew.size)))
              | ((go_at_call 40; refine (HD.out W1.drew).mono ?_; rintro r p2 ⟨rfl, rfl⟩; have e2 : Below W1.heap.size W1 W1.drew := (Below.refl _ _).drew)))
          go_wp2_with fail
          go_meet
          exact ⟨rfl, e4⟩
        · go_region_held3 (fun w' => w'.cell? ⟨w.heap.size, 0, none⟩ = some (.int .i64 2) ∧ w'.cell? ⟨w.heap.size, 1, none⟩ = some (.int .i64 day) ∧ w'.cell? ⟨w.heap.size, 2, none⟩ = some (.int .u32 key) ∧ w'.cell? ⟨w.heap.size, 3, none⟩ = some (.int .i64 loan) ∧ w'.cell? ⟨w.heap.size, 4, none⟩ = some (.int .i64 amount) ∧ w'.cell? ⟨w.heap.size, 5, none⟩ = some (.float .f64 rate) ∧ w'.cell? ⟨w.heap.size, 6, none⟩ = some (.float .f64 income) ∧ w'.cell? ⟨w.heap.size, 7, none⟩ = some (.bool sub) ∧ w'.cell? ⟨w.heap.size, 8, none⟩ = some (.int .i64 status) ∧ w'.cell? ⟨w.heap.size, 9, none⟩ = some (.int .i64 plan) ∧ w'.cell? ⟨w.heap.size, 10, none⟩ = some (.int .i64 family)) (first | go_keep | exact HKE.out _ (by assumption))
            (first
              | ((go_at_call 17; refine (HV.out p3).mono ?_; rintro r p4 ⟨rfl, b4⟩; have e4 : Below W1.heap.size W1 p4 := e3.trans (b4.mono e3.size)))
              | ((go_at_call 19; refine (HO.out W1.drew).mono ?_; rintro r p3 ⟨rfl, b3⟩; have e3 : Below W1.heap.size W1 p3 := (Below.refl _ _).drew.trans (b3.mono (Below.refl W1.heap.size W1).drew.size)))
              | ((go_at_call 40; refine (HD.out W1.drew).mono ?_; rintro r p2 ⟨rfl, rfl⟩; have e2 : Below W1.heap.size W1 W1.drew := (Below.refl _ _).drew)))
          go_wp2_with fail
          go_meet
          exact ⟨rfl, e4⟩
        · go_region_held3 (fun w' => w'.cell? ⟨w.heap.size, 0, none⟩ = some (.int .i64 3) ∧ w'.cell? ⟨w.heap.size, 1, none⟩ = some (.int .i64 day) ∧ w'.cell? ⟨w.heap.size, 2, none⟩ = some (.int .u32 key) ∧ w'.cell? ⟨w.heap.size, 3, none⟩ = some (.int .i64 loan) ∧ w'.cell? ⟨w.heap.size, 4, none⟩ = some (.int .i64 amount) ∧ w'.cell? ⟨w.heap.size, 5, none⟩ = some (.float .f64 rate) ∧ w'.cell? ⟨w.heap.size, 6, none⟩ = some (.float .f64 income) ∧ w'.cell? ⟨w.heap.size, 7, none⟩ = some (.bool sub) ∧ w'.cell? ⟨w.heap.size, 8, none⟩ = some (.int .i64 status) ∧ w'.cell? ⟨w.heap.size, 9, none⟩ = some (.int .i64 plan) ∧ w'.cell? ⟨w.heap.size, 10, none⟩ = some (.int .i64 family)) (first | go_keep | exact HKE.out _ (by assumption))
            (first
              | ((go_at_call 17; refine (HV.out p3).mono ?_; rintro r p4 ⟨rfl, b4⟩; have e4 : Below W1.heap.size W1 p4 := e3.trans (b4.mono e3.size)))
              | ((go_at_call 19; refine (HO.out W1.drew).mono ?_; rintro r p3 ⟨rfl, b3⟩; have e3 : Below W1.heap.size W1 p3 := (Below.refl _ _).drew.trans (b3.mono (Below.refl W1.heap.size W1).drew.size)))
              | ((go_at_call 40; refine (HD.out W1.drew).mono ?_; rintro r p2 ⟨rfl, rfl⟩; have e2 : Below W1.heap.size W1 W1.drew := (Below.refl _ _).drew)))
          go_wp2_with fail
          go_meet
          exact ⟨rfl, e4⟩
        · go_region_held3 (fun w' => w'.cell? ⟨w.heap.size, 0, none⟩ = some (.int .i64 4) ∧ w'.cell? ⟨w.heap.size, 1, none⟩ = some (.int .i64 day) ∧ w'.cell? ⟨w.heap.size, 2, none⟩ = some (.int .u32 key) ∧ w'.cell? ⟨w.heap.size, 3, none⟩ = some (.int .i64 loan) ∧ w'.cell? ⟨w.heap.size, 4, none⟩ = some (.int .i64 amount) ∧ w'.cell? ⟨w.heap.size, 5, none⟩ = some (.float .f64 rate) ∧ w'.cell? ⟨w.heap.size, 6, none⟩ = some (.float .f64 income) ∧ w'.cell? ⟨w.heap.size, 7, none⟩ = some (.bool sub) ∧ w'.cell? ⟨w.heap.size, 8, none⟩ = some (.int .i64 status) ∧ w'.cell? ⟨w.heap.size, 9, none⟩ = some (.int .i64 plan) ∧ w'.cell? ⟨w.heap.size, 10, none⟩ = some (.int .i64 family)) (first | go_keep | exact HKE.out _ (by assumption))
            (first
              | ((go_at_call 17; refine (HV.out p3).mono ?_; rintro r p4 ⟨rfl, b4⟩; have e4 : Below W1.heap.size W1 p4 := e3.trans (b4.mono e3.size)))
              | ((go_at_call 19; refine (HO.out W1.drew).mono ?_; rintro r p3 ⟨rfl, b3⟩; have e3 : Below W1.heap.size W1 p3 := (Below.refl _ _).drew.trans (b3.mono (Below.refl W1.heap.size W1).drew.size)))
              | ((go_at_call 40; refine (HD.out W1.drew).mono ?_; rintro r p2 ⟨rfl, rfl⟩; have e2 : Below W1.heap.size W1 W1.drew := (Below.refl _ _).drew)))
          go_wp2_with fail
          go_meet
          exact ⟨rfl, e4⟩
        · go_region_held3 (fun w' => w'.cell? ⟨w.heap.size, 0, none⟩ = some (.int .i64 5) ∧ w'.cell? ⟨w.heap.size, 1, none⟩ = some (.int .i64 day) ∧ w'.cell? ⟨w.heap.size, 2, none⟩ = some (.int .u32 key) ∧ w'.cell? ⟨w.heap.size, 3, none⟩ = some (.int .i64 loan) ∧ w'.cell? ⟨w.heap.size, 4, none⟩ = some (.int .i64 amount) ∧ w'.cell? ⟨w.heap.size, 5, none⟩ = some (.float .f64 rate) ∧ w'.cell? ⟨w.heap.size, 6, none⟩ = some (.float .f64 income) ∧ w'.cell? ⟨w.heap.size, 7, none⟩ = some (.bool sub) ∧ w'.cell? ⟨w.heap.size, 8, none⟩ = some (.int .i64 status) ∧ w'.cell? ⟨w.heap.size, 9, none⟩ = some (.int .i64 plan) ∧ w'.cell? ⟨w.heap.size, 10, none⟩ = some (.int .i64 family)) (first | go_keep | exact HKE.out _ (by assumption))
            (first
              | ((go_at_call 17; refine (HV.out p3).mono ?_; rintro r p4 ⟨rfl, b4⟩; have e4 : Below W1.heap.size W1 p4 := e3.trans (b4.mono e3.size)))
              | ((go_at_call 19; refine (HO.out W1.drew).mono ?_; rintro r p3 ⟨rfl, b3⟩; have e3 : Below W1.heap.size W1 p3 := (Below.refl _ _).drew.trans (b3.mono (Below.refl W1.heap.size W1).drew.size)))
              | ((go_at_call 40; refine (HD.out W1.drew).mono ?_; rintro r p2 ⟨rfl, rfl⟩; have e2 : Below W1.heap.size W1 W1.drew := (Below.refl _ _).drew)))
          go_wp2_with fail
          go_meet
          exact ⟨rfl, e4⟩
        · go_region_held3 (fun w' => w'.cell? ⟨w.heap.size, 0, none⟩ = some (.int .i64 6) ∧ w'.cell? ⟨w.heap.size, 1, none⟩ = some (.int .i64 day) ∧ w'.cell? ⟨w.heap.size, 2, none⟩ = some (.int .u32 key) ∧ w'.cell? ⟨w.heap.size, 3, none⟩ = some (.int .i64 loan) ∧ w'.cell? ⟨w.heap.size, 4, none⟩ = some (.int .i64 amount) ∧ w'.cell? ⟨w.heap.size, 5, none⟩ = some (.float .f64 rate) ∧ w'.cell? ⟨w.heap.size, 6, none⟩ = some (.float .f64 income) ∧ w'.cell? ⟨w.heap.size, 7, none⟩ = some (.bool sub) ∧ w'.cell? ⟨w.heap.size, 8, none⟩ = some (.int .i64 status) ∧ w'.cell? ⟨w.heap.size, 9, none⟩ = some (.int .i64 plan) ∧ w'.cell? ⟨w.heap.size, 10, none⟩ = some (.int .i64 family)) (first | go_keep | exact HKE.out _ (by assumption))
            (first
              | ((go_at_call 17; refine (HV.out p3).mono ?_; rintro r p4 ⟨rfl, b4⟩; have e4 : Below W1.heap.size W1 p4 := e3.trans (b4.mono e3.size)))
              | ((go_at_call 19; refine (HO.out W1.drew).mono ?_; rintro r p3 ⟨rfl, b3⟩; have e3 : Below W1.heap.size W1 p3 := (Below.refl _ _).drew.trans (b3.mono (Below.refl W1.heap.size W1).drew.size)))
              | ((go_at_call 40; refine (HD.out W1.drew).mono ?_; rintro r p2 ⟨rfl, rfl⟩; have e2 : Below W1.heap.size W1 W1.drew := (Below.refl _ _).drew)))
          go_wp2_with fail
          go_meet
          exact ⟨rfl, e4⟩
        · go_region_held3 (fun w' => w'.cell? ⟨w.heap.size, 0, none⟩ = some (.int .i64 7) ∧ w'.cell? ⟨w.heap.size, 1, none⟩ = some (.int .i64 day) ∧ w'.cell? ⟨w.heap.size, 2, none⟩ = some (.int .u32 key) ∧ w'.cell? ⟨w.heap.size, 3, none⟩ = some (.int .i64 loan) ∧ w'.cell? ⟨w.heap.size, 4, none⟩ = some (.int .i64 amount) ∧ w'.cell? ⟨w.heap.size, 5, none⟩ = some (.float .f64 rate) ∧ w'.cell? ⟨w.heap.size, 6, none⟩ = some (.float .f64 income) ∧ w'.cell? ⟨w.heap.size, 7, none⟩ = some (.bool sub) ∧ w'.cell? ⟨w.heap.size, 8, none⟩ = some (.int .i64 status) ∧ w'.cell? ⟨w.heap.size, 9, none⟩ = some (.int .i64 plan) ∧ w'.cell? ⟨w.heap.size, 10, none⟩ = some (.int .i64 family)) (first | go_keep | exact HKE.out _ (by assumption))
            (first
              | ((go_at_call 17; refine (HV.out p3).mono ?_; rintro r p4 ⟨rfl, b4⟩; have e4 : Below W1.heap.size W1 p4 := e3.trans (b4.mono e3.size)))
              | ((go_at_call 19; refine (HO.out W1.drew).mono ?_; rintro r p3 ⟨rfl, b3⟩; have e3 : Below W1.heap.size W1 p3 := (Below.refl _ _).drew.trans (b3.mono (Below.refl W1.heap.size W1).drew.size)))
              | ((go_at_call 40; refine (HD.out W1.drew).mono ?_; rintro r p2 ⟨rfl, rfl⟩; have e2 : Below W1.heap.size W1 W1.drew := (Below.refl _ _).drew)))
          go_wp2_with fail
          go_meet
          exact ⟨rfl, e4⟩
        · go_region_held3 (fun w' => w'.cell? ⟨w.heap.size, 0, none⟩ = some (.int .i64 8) ∧ w'.cell? ⟨w.heap.size, 1, none⟩ = some (.int .i64 day) ∧ w'.cell? ⟨w.heap.size, 2, none⟩ = some (.int .u32 key) ∧ w'.cell? ⟨w.heap.size, 3, none⟩ = some (.int .i64 loan) ∧ w'.cell? ⟨w.heap.size, 4, none⟩ = some (.int .i64 amount) ∧ w'.cell? ⟨w.heap.size, 5, none⟩ = some (.float .f64 rate) ∧ w'.cell? ⟨w.heap.size, 6, none⟩ = some (.float .f64 income) ∧ w'.cell? ⟨w.heap.size, 7, none⟩ = some (.bool sub) ∧ w'.cell? ⟨w.heap.size, 8, none⟩ = some (.int .i64 status) ∧ w'.cell? ⟨w.heap.size, 9, none⟩ = some (.int .i64 plan) ∧ w'.cell? ⟨w.heap.size, 10, none⟩ = some (.int .i64 family)) (first | go_keep | exact HKE.out _ (by assumption))
            (first
              | ((go_at_call 17; refine (HV.out p3).mono ?_; rintro r p4 ⟨rfl, b4⟩; have e4 : Below W1.heap.size W1 p4 := e3.trans (b4.mono e3.size)))
              | ((go_at_call 19; refine (HO.out W1.drew).mono ?_; rintro r p3 ⟨rfl, b3⟩; have e3 : Below W1.heap.size W1 p3 := (Below.refl _ _).drew.trans (b3.mono (Below.refl W1.heap.size W1).drew.size)))
              | ((go_at_call 40; refine (HD.out W1.drew).mono ?_; rintro r p2 ⟨rfl, rfl⟩; have e2 : Below W1.heap.size W1 W1.drew := (Below.refl _ _).drew)))
          go_wp2_with fail
          go_meet
          exact ⟨rfl, e4⟩
      case rest =>
        obtain ⟨rfl, hbl⟩ := hcut
        have Hbl := Lib.hid hbl
        have HKr := Lib.hid (HBk.out.below hbl)
        clear hbl
        cases q with
        | false =>
          have hg : goodR' e = false := by unfold goodR'; rw [hk, hd, hq]; rfl
          go_wp2_with fail
          go_ret
          exact ⟨ret_bool hg.symm, HB.out.trans (Hbl.out.mono HB.out.size)⟩
        | true =>
          have HH := Lib.hid (fun W => has_calls e.kind W)
          clear k0 k1 k2 k3 k4 k5 k6 k7 k8 k9 k10
          obtain ⟨k0, k1, k2, k3, k4, k5, k6, k7, k8, k9, k10⟩ := bx_of HKr.out
          have hgE : goodR' e = (ints (hasR e.kind)).all (okR e) := by unfold goodR'; rw [hk, hd, hq]; rfl
          have hin := hasR_in e.kind
          obtain ⟨l, hl⟩ : ∃ l, hasR e.kind = l := ⟨_, rfl⟩
          rw [hl] at HH hin hgE
          have HgE := Lib.hid hgE
          clear hgE
          go_wp2_with fail
          refine (HH.out _).mono ?_
          rintro r w3 ⟨rfl, rfl⟩
          clear k0 k1 k2 k3 k4 k5 k6 k7 k8 k9 k10
          go_wp2_with fail
          go_loopw [4] (fun i wr => ∃ k : Nat, k ≤ l.size ∧ i = .int .i64 (k : Int) ∧ (∀ j (hj : j < l.size), j < k → okR e (l[j].toNat : Int) = true) ∧ Below W1.heap.size W1 wr) (fun i _ => l.size - (intOf i).toNat)
          case atStart => exact ⟨0, Nat.zero_le _, rfl, fun j _ hj => absurd hj (Nat.not_lt_zero j), Hbl.out⟩
          case round =>
            obtain ⟨k, hk, rfl, hj, hw⟩ := hrel
            have Hj := Lib.hid hj
            have Hw := Lib.hid hw
            have hs4 := hin.1
            have HKw := Lib.hid (HBk.out.below hw)
            clear hj hw
            by_cases hk2 : k < l.size
            · have hc := hin.2 k hk2
              obtain ⟨k0, k1, k2, k3, k4, k5, k6, k7, k8, k9, k10⟩ := bx_of HKw.out
              rcases hc with hc | hc | hc | hc | hc | hc
              · have HC : okR e (((76 : Nat)) : Int) = (decide (1 ≤ e.loan) && decide (e.loan ≤ 1000)) := rfl
                rw [← hc] at HC
                have HC := Lib.hid HC
                by_cases ha : 1 ≤ e.loan
                · by_cases hb : e.loan ≤ 1000
                  · have hok := HC.out
                    rw [decide_eq_true ha, decide_eq_true hb] at hok
                    have Hok := Lib.hid hok
                    clear hok
                    go_wp2_with fail
                    exact ⟨⟨k + 1, by omega, by go_num, next_ok Hj.out hk2 Hok.out, Hw.out⟩, by simp [intOf]; omega⟩
                  · have hok := HC.out
                    rw [decide_eq_true ha, decide_eq_false hb] at hok
                    have Hok := Lib.hid (all_not e l k hk2 hok)
                    clear hok
                    go_wp2_with fail
                    go_ret
                    exact ⟨ret_bool (by rw [HgE.out, Hok.out]), HB.out.trans (Hw.out.mono HB.out.size)⟩
                · have hok := HC.out
                  rw [decide_eq_false ha] at hok
                  have Hok := Lib.hid (all_not e l k hk2 hok)
                  clear hok
                  go_wp2_with fail
                  go_ret
                  exact ⟨ret_bool (by rw [HgE.out, Hok.out]), HB.out.trans (Hw.out.mono HB.out.size)⟩
              · have HC : okR e (((65 : Nat)) : Int) = (decide (1 ≤ e.amount) && decide (e.amount ≤ 1000000000)) := rfl
                rw [← hc] at HC
                have HC := Lib.hid HC
                by_cases ha : 1 ≤ e.amount
                · by_cases hb : e.amount ≤ 1000000000
                  · have hok := HC.out
                    rw [decide_eq_true ha, decide_eq_true hb] at hok
                    have Hok := Lib.hid hok
                    clear hok
                    go_wp2_with fail
                    exact ⟨⟨k + 1, by omega, by go_num, next_ok Hj.out hk2 Hok.out, Hw.out⟩, by simp [intOf]; omega⟩
                  · have hok := HC.out
                    rw [decide_eq_true ha, decide_eq_false hb] at hok
                    have Hok := Lib.hid (all_not e l k hk2 hok)
                    clear hok
                    go_wp2_with fail
                    go_ret
                    exact ⟨ret_bool (by rw [HgE.out, Hok.out]), HB.out.trans (Hw.out.mono HB.out.size)⟩
                · have hok := HC.out
                  rw [decide_eq_false ha] at hok
                  have Hok := Lib.hid (all_not e l k hk2 hok)
                  clear hok
                  go_wp2_with fail
                  go_ret
                  exact ⟨ret_bool (by rw [HgE.out, Hok.out]), HB.out.trans (Hw.out.mono HB.out.size)⟩
              · have HC : okR e (((82 : Nat)) : Int) = ((pm e.rate).2 == 0 && (decide ((pm e.rate).1 ≤ 250000) && !minusB e.rate)) := rfl
                rw [← hc] at HC
                have HP := Lib.hid (fun W => rppm_calls e.rate W hr)
                have HN := Lib.hid (fun W => minus_calls e.rate W hr)
                change Hid (∀ W, Calls Try.prog 43 #[.float .f64 e.rate] W fun r w' => r = .returned (.bool (minusB e.rate)) ∧ w' = W) at HN
                generalize pm e.rate = t at HC HP
                generalize minusB e.rate = mb at HC HN
                have HC := Lib.hid HC
                go_wp2_with fail
                refine (HP.out _).mono ?_
                rintro r w4 ⟨rfl, b4⟩
                have Hw4 := Lib.hid (Hw.out.trans (b4.mono Hw.out.size))
                have HK4 := Lib.hid (HKw.out.below b4)
                clear b4 k0 k1 k2 k3 k4 k5 k6 k7 k8 k9 k10
                obtain ⟨k0, k1, k2, k3, k4, k5, k6, k7, k8, k9, k10⟩ := bx_of HK4.out
                by_cases ha : t.2 = 0
                · have ha2 : (t.2 == 0) = true := by simpa using ha
                  by_cases hb : t.1 ≤ 250000
                  · cases mb with
                    | false =>
                      have hok := HC.out
                      rw [ha2, decide_eq_true hb] at hok
                      have Hok := Lib.hid hok
                      clear hok
                      go_wp2_with fail
                      refine (HN.out _).mono ?_
                      rintro r w5 ⟨rfl, rfl⟩
                      go_wp2_with fail
                      exact ⟨⟨k + 1, by omega, by go_num, next_ok Hj.out hk2 Hok.out, Hw4.out⟩, by simp [intOf]; omega⟩
                    | true =>
                      have hok := HC.out
                      rw [ha2, decide_eq_true hb] at hok
                      have Hok := Lib.hid (all_not e l k hk2 hok)
                      clear hok
                      go_wp2_with fail
                      refine (HN.out _).mono ?_
                      rintro r w5 ⟨rfl, rfl⟩
                      go_wp2_with fail
                      go_ret
                      exact ⟨ret_bool (by rw [HgE.out, Hok.out]), HB.out.trans (Hw4.out.mono HB.out.size)⟩
                  · have hok := HC.out
                    rw [ha2, decide_eq_false hb] at hok
                    have Hok := Lib.hid (all_not e l k hk2 hok)
                    clear hok
                    go_wp2_with fail
                    go_ret
                    exact ⟨ret_bool (by rw [HgE.out, Hok.out]), HB.out.trans (Hw4.out.mono HB.out.size)⟩
                · have ha2 : (t.2 == 0) = false := by simpa using ha
                  have hok := HC.out
                  rw [ha2] at hok
                  have Hok := Lib.hid (all_not e l k hk2 hok)
                  clear hok ha
                  go_wp2_with fail
                  go_ret
                  exact ⟨ret_bool (by rw [HgE.out, Hok.out]), HB.out.trans (Hw4.out.mono HB.out.size)⟩
              · have HC : okR e (((83 : Nat)) : Int) = true := rfl
                rw [← hc] at HC
                have HC := Lib.hid HC
                go_wp2_with fail
                exact ⟨⟨k + 1, by omega, by go_num, next_ok Hj.out hk2 HC.out, Hw.out⟩, by simp [intOf]; omega⟩
              · have HC : okR e (((84 : Nat)) : Int) = (decide (1 ≤ e.status) && decide (e.status ≤ 5)) := rfl
                rw [← hc] at HC
                have HC := Lib.hid HC
                by_cases ha : 1 ≤ e.status
                · by_cases hb : e.status ≤ 5
                  · have hok := HC.out
                    rw [decide_eq_true ha, decide_eq_true hb] at hok
                    have Hok := Lib.hid hok
                    clear hok
                    go_wp2_with fail
                    exact ⟨⟨k + 1, by omega, by go_num, next_ok Hj.out hk2 Hok.out, Hw.out⟩, by simp [intOf]; omega⟩
                  · have hok := HC.out
                    rw [decide_eq_true ha, decide_eq_false hb] at hok
                    have Hok := Lib.hid (all_not e l k hk2 hok)
                    clear hok
                    go_wp2_with fail
                    go_ret
                    exact ⟨ret_bool (by rw [HgE.out, Hok.out]), HB.out.trans (Hw.out.mono HB.out.size)⟩
                · have hok := HC.out
                  rw [decide_eq_false ha] at hok
                  have Hok := Lib.hid (all_not e l k hk2 hok)
                  clear hok
                  go_wp2_with fail
                  go_ret
                  exact ⟨ret_bool (by rw [HgE.out, Hok.out]), HB.out.trans (Hw.out.mono HB.out.size)⟩
              · by_cases hp : e.plan = 4
                · have HC : okR e (((80 : Nat)) : Int) = ((tk e.income 100).2 == 0 && (decide ((tk e.income 100).1 ≤ 1000000000) && (!minusB e.income && (decide (1 ≤ e.family) && decide (e.family ≤ 30))))) := if_pos hp
                  rw [← hc] at HC
                  have HP := Lib.hid (fun W => rcents_calls e.income W hi)
                  have HN := Lib.hid (fun W => minus_calls e.income W hi)
                  change Hid (∀ W, Calls Try.prog 43 #[.float .f64 e.income] W fun r w' => r = .returned (.bool (minusB e.income)) ∧ w' = W) at HN
                  generalize tk e.income 100 = t at HC HP
                  generalize minusB e.income = mb at HC HN
                  have HC := Lib.hid HC
                  rw [hp] at k9
                  go_wp2_with fail
                  refine (HP.out _).mono ?_
                  rintro r w4 ⟨rfl, b4⟩
                  have Hw4 := Lib.hid (Hw.out.trans (b4.mono Hw.out.size))
                  have HK4 := Lib.hid (HKw.out.below b4)
                  clear b4 k0 k1 k2 k3 k4 k5 k6 k7 k8 k9 k10
                  obtain ⟨k0, k1, k2, k3, k4, k5, k6, k7, k8, k9, k10⟩ := bx_of HK4.out
                  by_cases ha : t.2 = 0
                  · have ha2 : (t.2 == 0) = true := by simpa using ha
                    by_cases hb : t.1 ≤ 1000000000
                    · cases mb with
                      | false =>
                        by_cases hf1 : 1 ≤ e.family
                        · by_cases hf2 : e.family ≤ 30
                          · have hok := HC.out
                            rw [ha2, decide_eq_true hb, decide_eq_true hf1, decide_eq_true hf2] at hok
                            have Hok := Lib.hid hok
                            clear hok hp
                            go_wp2_with fail
                            refine (HN.out _).mono ?_
                            rintro r w5 ⟨rfl, rfl⟩
                            go_wp2_with fail
                            exact ⟨⟨k + 1, by omega, by go_num, next_ok Hj.out hk2 Hok.out, Hw4.out⟩, by simp [intOf]; omega⟩
                          · have hok := HC.out
                            rw [ha2, decide_eq_true hb, decide_eq_true hf1, decide_eq_false hf2] at hok
                            have Hok := Lib.hid (all_not e l k hk2 hok)
                            have hfd : decide (e.family ≤ 30) = false := decide_eq_false hf2
                            clear hok hp
                            go_wp2_with fail
                            refine (HN.out _).mono ?_
                            rintro r w5 ⟨rfl, rfl⟩
                            go_wp2_with fail
                            go_ret
                            exact ⟨ret_bool (by rw [HgE.out, Hok.out]), HB.out.trans (Hw4.out.mono HB.out.size)⟩
                        · have hok := HC.out
                          rw [ha2, decide_eq_true hb, decide_eq_false hf1] at hok
                          have Hok := Lib.hid (all_not e l k hk2 hok)
                          clear hok hp
                          go_wp2_with fail
                          refine (HN.out _).mono ?_
                          rintro r w5 ⟨rfl, rfl⟩
                          go_wp2_with fail
                          go_ret
                          exact ⟨ret_bool (by rw [HgE.out, Hok.out]), HB.out.trans (Hw4.out.mono HB.out.size)⟩
                      | true =>
                        have hok := HC.out
                        rw [ha2, decide_eq_true hb] at hok
                        have Hok := Lib.hid (all_not e l k hk2 hok)
                        clear hok hp
                        go_wp2_with fail
                        refine (HN.out _).mono ?_
                        rintro r w5 ⟨rfl, rfl⟩
                        go_wp2_with fail
                        go_ret
                        exact ⟨ret_bool (by rw [HgE.out, Hok.out]), HB.out.trans (Hw4.out.mono HB.out.size)⟩
                    · have hok := HC.out
                      rw [ha2, decide_eq_false hb] at hok
                      have Hok := Lib.hid (all_not e l k hk2 hok)
                      clear hok hp
                      go_wp2_with fail
                      go_ret
                      exact ⟨ret_bool (by rw [HgE.out, Hok.out]), HB.out.trans (Hw4.out.mono HB.out.size)⟩
                  · have ha2 : (t.2 == 0) = false := by simpa using ha
                    have hok := HC.out
                    rw [ha2] at hok
                    have Hok := Lib.hid (all_not e l k hk2 hok)
                    clear hok ha hp
                    go_wp2_with fail
                    go_ret
                    exact ⟨ret_bool (by rw [HgE.out, Hok.out]), HB.out.trans (Hw4.out.mono HB.out.size)⟩
                · have HC : okR e (((80 : Nat)) : Int) = (decide (1 ≤ e.plan) && decide (e.plan ≤ 4)) := if_neg hp
                  rw [← hc] at HC
                  have HC := Lib.hid HC
                  have hp4 : (e.plan == 4) = false := by simpa using hp
                  by_cases ha : 1 ≤ e.plan
                  · by_cases hb : e.plan ≤ 4
                    · have hok := HC.out
                      rw [decide_eq_true ha, decide_eq_true hb] at hok
                      have Hok := Lib.hid hok
                      clear hok hp
                      go_wp2_with fail
                      exact ⟨⟨k + 1, by omega, by go_num, next_ok Hj.out hk2 Hok.out, Hw.out⟩, by simp [intOf]; omega⟩
                    · have hok := HC.out
                      rw [decide_eq_true ha, decide_eq_false hb] at hok
                      have Hok := Lib.hid (all_not e l k hk2 hok)
                      clear hok hp
                      go_wp2_with fail
                      go_ret
                      exact ⟨ret_bool (by rw [HgE.out, Hok.out]), HB.out.trans (Hw.out.mono HB.out.size)⟩
                  · have hok := HC.out
                    rw [decide_eq_false ha] at hok
                    have Hok := Lib.hid (all_not e l k hk2 hok)
                    clear hok hp
                    go_wp2_with fail
                    go_ret
                    exact ⟨ret_bool (by rw [HgE.out, Hok.out]), HB.out.trans (Hw.out.mono HB.out.size)⟩
            · obtain rfl : k = l.size := by omega
              have hall := all_upto e l (fun j hj => Hj.out j hj hj)
              have Hall := Lib.hid hall
              clear hall
              go_wp2_with fail
              go_ret
              exact ⟨ret_bool (by rw [HgE.out, Hall.out]), HB.out.trans (Hw.out.mono HB.out.size)⟩
  · have hg := hkn (.inl hk)
    clear hkn
    go_quiet (fail)
    go_wp2_with fail
    go_ret
    exact ⟨ret_bool hg.symm, pw_below_drewN' HB.out _⟩
  · have hg := hkn (.inr hk.2)
    clear hkn
    obtain ⟨hk1, hk2⟩ := hk
    go_quiet (fail)
    go_wp2_with fail
    go_ret
    exact ⟨ret_bool hg.symm, pw_below_drewN' HB.out _⟩
end Go.Proofs.Ytadcpdpcpecooaa.Ev
