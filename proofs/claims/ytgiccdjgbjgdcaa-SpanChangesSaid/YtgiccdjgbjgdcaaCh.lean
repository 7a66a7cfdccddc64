/- The walk of SpanChanges. -/
import Derived.Test.YtgiccdjgbjgdcaaJc
import Derived.Test.YtgiccdjgbjgdcaaCp
namespace Go.Proofs.Ytgiccdjgbjgdcaa.Sp
open Go.RowKit Go.Proofs.YtgiccdjgbjgdcaaW.PrintWords PSpanTells

theorem few_len (l : List S51) : (fewL l).1.length ≤ 1000 := by
  unfold fewL
  split
  · simp
  · simp only; omega
theorem add_len2 (xs : List S51) (f t : Int) : (addF xs f t).1.length ≤ 1000 := by
  unfold addF
  split
  · exact few_len _
  · simp
theorem cut_len2 (xs : List S51) (f t : Int) : (cutF xs f t).1.length ≤ 1000 := by
  unfold cutF
  split
  · exact few_len _
  · simp
theorem both_len2 (xs ys : List S51) : (bothF xs ys).1.length ≤ 1000 := by
  unfold bothF
  split
  · exact few_len _
  · simp
theorem box_cells (w : World) (f t : Int) (ty : TypeId) (W : World) (hB : Below (w.alloc (.cells #[.int .i64 f, .int .i64 t] ty)).heap.size (w.alloc (.cells #[.int .i64 f, .int .i64 t] ty)) W) :
    W.cell? ⟨w.heap.size, 0, none⟩ = some (.int .i64 f) ∧ W.cell? ⟨w.heap.size, 1, none⟩ = some (.int .i64 t) := by
  have hnew : (w.alloc (.cells #[.int .i64 f, .int .i64 t] ty)).heap[w.heap.size]? = some (.cells #[.int .i64 f, .int .i64 t] ty (0, 0)) := heap_alloc_new w _
  have hb : W.heap[w.heap.size]? = some (.cells #[.int .i64 f, .int .i64 t] ty (0, 0)) := (hB.block _ (by simp)).trans hnew
  exact ⟨cell_of_row _ _ 0 _ _ _ hb, cell_of_row _ _ 1 _ _ _ hb⟩

set_option maxHeartbeats 4000000 in
set_option maxRecDepth 20000 in
theorem changes_walk (A B : Option Addr) (c d : Nat) (xs ys : List S51) (f t : Int) (w : World) (hr : Kd.C k51 w A xs.length xs) (hc : xs.length ≤ c) (hr' : Kd.C k51 w B ys.length ys) (hd : ys.length ≤ d) :
    Calls Try.prog 4 #[.slice A xs.length c, .slice B ys.length d, .agg #[.int .i64 f, .int .i64 t]] w fun e w' => e = .returned (.bool true) ∧ Below w.heap.size w w' := by
  have hba : Below w.heap.size w (w.alloc (.cells #[.int .i64 f, .int .i64 t] 33)) := (Below.refl _ _).alloc (Nat.le_refl _) _
  by_cases hl : xs.length ≤ 200
  · have hgt : ¬ (200 : Int) < (xs.length : Int) := by omega
    by_cases hl' : ys.length ≤ 200
    · have hgt' : ¬ (200 : Int) < (ys.length : Int) := by omega
      have HB0 := Lib.hid hba
      have HCell := Lib.hid (box_cells w f t 33)
      have HA := Lib.hid (Kd.C_below hr hba)
      have HBr := Lib.hid (Kd.C_below hr' hba)
      clear hba hr hr'
      obtain ⟨w0, hw0⟩ : ∃ W, W = w.alloc (.cells #[.int .i64 f, .int .i64 t] 33) := ⟨_, rfl⟩
      rw [← hw0] at HB0 HCell HA HBr
      have HX := Lib.hid (fun W (hB : Below w0.heap.size w0 W) => (⟨A, c, rfl, hc, Kd.C_below HA.out hB⟩ : Rd W (.slice A xs.length c) xs))
      have HY := Lib.hid (fun W (hB : Below w0.heap.size w0 W) => (⟨B, d, rfl, hd, Kd.C_below HBr.out hB⟩ : Rd W (.slice B ys.length d) ys))
      obtain ⟨v1, w1, hrun, rd1, b1⟩ := copy_rd A c xs w0 HA.out (by omega)
      have HRun := Lib.hid hrun
      have HV1 := Lib.hid rd1
      have HB1 := Lib.hid b1
      rw [hw0, show (w.alloc (.cells #[.int .i64 f, .int .i64 t] 33)).heap.size = w.heap.size + 1 by simp] at HRun
      clear hrun rd1 b1
      have HAdd := Lib.hid (Add_rd v1 xs f t w1 HV1.out)
      have hla := add_len2 xs f t
      rcases hq : addF xs f t with ⟨La, ea⟩
      have HQa := Lib.hid hq
      rw [hq] at HAdd hla
      have hlc := cut_len2 xs f t
      rcases hq2 : cutF xs f t with ⟨Lc, ec⟩
      have HQc := Lib.hid hq2
      rw [hq2] at hlc
      have hlb := both_len2 xs ys
      rcases hq3 : bothF xs ys with ⟨Lb, eb⟩
      have HQb := Lib.hid hq3
      rw [hq3] at hlb
      clear hq hq2 hq3
      have HC1 := Lib.hid (fun W (hB : Below w1.heap.size w1 W) => HCell.out W (HB1.out.trans (hB.mono HB1.out.size)))
      have HX1 := Lib.hid (fun W (hB : Below w1.heap.size w1 W) => HX.out W (HB1.out.trans (hB.mono HB1.out.size)))
      have HY1 := Lib.hid (fun W (hB : Below w1.heap.size w1 W) => HY.out W (HB1.out.trans (hB.mono HB1.out.size)))
      have HVs := Lib.hid (fun W (hB : Below w1.heap.size w1 W) => HV1.out.below hB)
      have HBr1 := Lib.hid (fun W (hB : Below w1.heap.size w1 W) => Kd.C_below HBr.out (HB1.out.trans (hB.mono HB1.out.size)))
      have HBB := Lib.hid (HB0.out.trans (HB1.out.mono HB0.out.size))
      clear hw0 HCell HX HY HV1 HA HBr HB0 HB1
      have HK1 := Lib.hid (Below.refl w1.heap.size w1)
      obtain ⟨c0, c1⟩ := HC1.out w1 HK1.out
      go_enter Try.func4, Try.ntmps4
      go_wp2_with (((with_reducible refine gate_builtin (b := .append) (xs := #[.tmp 29, .tmp 30]) rfl ?_); refine wpl_append rfl (.tmp 29) (.tmp 30) 22 22 rfl _ _ _ _ rfl rfl HRun.out ?_))
      clear HRun
      refine HAdd.out.mono ?_
      rintro e w2 ⟨va, rfl, ra, b2⟩
      have HK2 := Lib.hid (HK1.out.trans (b2.mono HK1.out.size))
      have HVa := Lib.hid ra
      clear b2 HAdd HK1 ra
      clear c0 c1
      obtain ⟨c0, c1⟩ := HC1.out w2 HK2.out
      have HOw := Lib.hid (own_calls _ xs w2.drew (HX1.out _ (HK2.out.trans ((Below.refl _ _).drew.mono HK2.out.size))) (by omega))
      have HKE := Lib.hid (fun W (hB : Below w2.heap.size w2 W) => HC1.out W (HK2.out.trans (hB.mono HK2.out.size)))
      go_wp2_with fail
      go_region_held3 (fun w' => w'.cell? ⟨w.heap.size, 0, none⟩ = some (.int .i64 f) ∧ w'.cell? ⟨w.heap.size, 1, none⟩ = some (.int .i64 t)) (first | go_keep | exact HKE.out _ (by assumption))
        (first
          | ((go_at_call 18; refine (rAdd_calls o1 xs f t p1 ro (by omega)).mono ?_; rw [HQa.out]; rintro e w3 ⟨vb, rfl, rb, bb⟩; have e2 : Below w2.heap.size w2 w3 := e1.trans (bb.mono e1.size)))
          | ((go_at_call 9; refine HOw.out.mono ?_; rintro e p1 ⟨o1, rfl, ro, bo⟩; have e1 : Below w2.heap.size w2 p1 := (Below.refl _ _).drew.trans (bo.mono (Below.refl w2.heap.size w2).drew.size))))
      have HK3 := Lib.hid (HK2.out.trans (e2.mono HK2.out.size))
      have HVa_ := Lib.hid (HVa.out.below e2)
      clear HVa
      have HVa := HVa_
      clear HVa_
      have HVb := Lib.hid rb
      clear ro bo rb bb e1 e2 HOw HKE HK2
      clear c0 c1
      obtain ⟨c0, c1⟩ := HC1.out w3 HK3.out
      have HCut := Lib.hid (Cut_rd v1 xs f t w3 (HVs.out w3 HK3.out))
      rw [HQc.out] at HCut
      go_wp2_with fail
      refine HCut.out.mono ?_
      rintro e w4 ⟨vc, rfl, rc, b4⟩
      have HK4 := Lib.hid (HK3.out.trans (b4.mono HK3.out.size))
      have HVa_ := Lib.hid (HVa.out.below b4)
      clear HVa
      have HVa := HVa_
      clear HVa_
      have HVb_ := Lib.hid (HVb.out.below b4)
      clear HVb
      have HVb := HVb_
      clear HVb_
      have HVc := Lib.hid rc
      clear b4 HCut HK3 rc
      clear c0 c1
      obtain ⟨c0, c1⟩ := HC1.out w4 HK4.out
      have HOw := Lib.hid (own_calls _ xs w4.drew (HX1.out _ (HK4.out.trans ((Below.refl _ _).drew.mono HK4.out.size))) (by omega))
      have HKE := Lib.hid (fun W (hB : Below w4.heap.size w4 W) => HC1.out W (HK4.out.trans (hB.mono HK4.out.size)))
      go_wp2_with fail
      go_region_held3 (fun w' => w'.cell? ⟨w.heap.size, 0, none⟩ = some (.int .i64 f) ∧ w'.cell? ⟨w.heap.size, 1, none⟩ = some (.int .i64 t)) (first | go_keep | exact HKE.out _ (by assumption))
        (first
          | ((go_at_call 20; refine (rCut_calls o1 xs f t p1 ro (by omega)).mono ?_; rw [HQc.out]; rintro e w5 ⟨vd, rfl, rb, bb⟩; have e2 : Below w4.heap.size w4 w5 := e1.trans (bb.mono e1.size)))
          | ((go_at_call 9; refine HOw.out.mono ?_; rintro e p1 ⟨o1, rfl, ro, bo⟩; have e1 : Below w4.heap.size w4 p1 := (Below.refl _ _).drew.trans (bo.mono (Below.refl w4.heap.size w4).drew.size))))
      have HK5 := Lib.hid (HK4.out.trans (e2.mono HK4.out.size))
      have HVa_ := Lib.hid (HVa.out.below e2)
      clear HVa
      have HVa := HVa_
      clear HVa_
      have HVb_ := Lib.hid (HVb.out.below e2)
      clear HVb
      have HVb := HVb_
      clear HVb_
      have HVc_ := Lib.hid (HVc.out.below e2)
      clear HVc
      have HVc := HVc_
      clear HVc_
      have HVd := Lib.hid rb
      clear ro bo rb bb e1 e2 HOw HKE HK4
      obtain ⟨vt, wt, hrun, rdt, bt⟩ := copy_rd B d ys w5 (HBr1.out w5 HK5.out) (by omega)
      have HRun := Lib.hid hrun
      have HBth := Lib.hid (Both_rd v1 vt xs ys wt (HVs.out wt (HK5.out.trans (bt.mono HK5.out.size))) rdt)
      rw [HQb.out] at HBth
      have HKt := Lib.hid (HK5.out.trans (bt.mono HK5.out.size))
      have HVa_ := Lib.hid (HVa.out.below bt)
      clear HVa
      have HVa := HVa_
      clear HVa_
      have HVb_ := Lib.hid (HVb.out.below bt)
      clear HVb
      have HVb := HVb_
      clear HVb_
      have HVc_ := Lib.hid (HVc.out.below bt)
      clear HVc
      have HVc := HVc_
      clear HVc_
      have HVd_ := Lib.hid (HVd.out.below bt)
      clear HVd
      have HVd := HVd_
      clear HVd_
      clear hrun rdt bt c0 c1 HK5
      go_wp2_with (((with_reducible refine gate_builtin (b := .append) (xs := #[.tmp 72, .tmp 73]) rfl ?_); refine wpl_append rfl (.tmp 72) (.tmp 73) 22 22 rfl _ _ _ _ rfl rfl HRun.out ?_))
      refine HBth.out.mono ?_
      rintro e w6 ⟨vx, rfl, rx, b6⟩
      have HK6 := Lib.hid (HKt.out.trans (b6.mono HKt.out.size))
      have HVa_ := Lib.hid (HVa.out.below b6)
      clear HVa
      have HVa := HVa_
      clear HVa_
      have HVb_ := Lib.hid (HVb.out.below b6)
      clear HVb
      have HVb := HVb_
      clear HVb_
      have HVc_ := Lib.hid (HVc.out.below b6)
      clear HVc
      have HVc := HVc_
      clear HVc_
      have HVd_ := Lib.hid (HVd.out.below b6)
      clear HVd
      have HVd := HVd_
      clear HVd_
      have HVx := Lib.hid rx
      clear rx b6 HBth HRun HKt
      have HOw := Lib.hid (own_calls _ xs w6 (HX1.out w6 HK6.out) (by omega))
      go_wp2_with fail
      refine HOw.out.mono ?_
      rintro e w7 ⟨os, rfl, ro, b7⟩
      have HK7 := Lib.hid (HK6.out.trans (b7.mono HK6.out.size))
      have HVa_ := Lib.hid (HVa.out.below b7)
      clear HVa
      have HVa := HVa_
      clear HVa_
      have HVb_ := Lib.hid (HVb.out.below b7)
      clear HVb
      have HVb := HVb_
      clear HVb_
      have HVc_ := Lib.hid (HVc.out.below b7)
      clear HVc
      have HVc := HVc_
      clear HVc_
      have HVd_ := Lib.hid (HVd.out.below b7)
      clear HVd
      have HVd := HVd_
      clear HVd_
      have HVx_ := Lib.hid (HVx.out.below b7)
      clear HVx
      have HVx := HVx_
      clear HVx_
      have HOos := Lib.hid ro
      clear b7 HOw HK6 ro
      have HOw := Lib.hid (own_calls _ ys w7 (HY1.out w7 HK7.out) (by omega))
      go_wp2_with fail
      refine HOw.out.mono ?_
      rintro e w8 ⟨ot, rfl, ro, b8⟩
      have HK8 := Lib.hid (HK7.out.trans (b8.mono HK7.out.size))
      have HVa_ := Lib.hid (HVa.out.below b8)
      clear HVa
      have HVa := HVa_
      clear HVa_
      have HVb_ := Lib.hid (HVb.out.below b8)
      clear HVb
      have HVb := HVb_
      clear HVb_
      have HVc_ := Lib.hid (HVc.out.below b8)
      clear HVc
      have HVc := HVc_
      clear HVc_
      have HVd_ := Lib.hid (HVd.out.below b8)
      clear HVd
      have HVd := HVd_
      clear HVd_
      have HVx_ := Lib.hid (HVx.out.below b8)
      clear HVx
      have HVx := HVx_
      clear HVx_
      have HOos_ := Lib.hid (HOos.out.below b8)
      clear HOos
      have HOos := HOos_
      clear HOos_
      have HOot := Lib.hid ro
      clear b8 HOw HK7 ro
      have HRB := Lib.hid (rBoth_calls os ot xs ys w8 HOos.out HOot.out (by omega) (by omega))
      rw [HQb.out] at HRB
      go_wp2_with fail
      clear HOos HOot
      refine HRB.out.mono ?_
      rintro e w9 ⟨vy, rfl, ry, b9⟩
      have HK9 := Lib.hid (HK8.out.trans (b9.mono HK8.out.size))
      have HVa_ := Lib.hid (HVa.out.below b9)
      clear HVa
      have HVa := HVa_
      clear HVa_
      have HVb_ := Lib.hid (HVb.out.below b9)
      clear HVb
      have HVb := HVb_
      clear HVb_
      have HVc_ := Lib.hid (HVc.out.below b9)
      clear HVc
      have HVc := HVc_
      clear HVc_
      have HVd_ := Lib.hid (HVd.out.below b9)
      clear HVd
      have HVd := HVd_
      clear HVd_
      have HVx_ := Lib.hid (HVx.out.below b9)
      clear HVx
      have HVx := HVx_
      clear HVx_
      have HVy := Lib.hid ry
      clear b9 HRB HK8 ry
      have HS := Lib.hid (same_calls va vb La La w9 HVa.out HVb.out (by omega))
      rw [sameB_refl] at HS
      go_wp2_with fail
      refine HS.out.mono ?_
      rintro e w10 ⟨rfl, b10⟩
      have HK10 := Lib.hid (HK9.out.trans (b10.mono HK9.out.size))
      have HVa_ := Lib.hid (HVa.out.below b10)
      clear HVa
      have HVa := HVa_
      clear HVa_
      have HVb_ := Lib.hid (HVb.out.below b10)
      clear HVb
      have HVb := HVb_
      clear HVb_
      have HVc_ := Lib.hid (HVc.out.below b10)
      clear HVc
      have HVc := HVc_
      clear HVc_
      have HVd_ := Lib.hid (HVd.out.below b10)
      clear HVd
      have HVd := HVd_
      clear HVd_
      have HVx_ := Lib.hid (HVx.out.below b10)
      clear HVx
      have HVx := HVx_
      clear HVx_
      have HVy_ := Lib.hid (HVy.out.below b10)
      clear HVy
      have HVy := HVy_
      clear HVy_
      clear b10 HS HK9
      have HS := Lib.hid (same_calls vc vd Lc Lc w10 HVc.out HVd.out (by omega))
      rw [sameB_refl] at HS
      go_wp2_with fail
      refine HS.out.mono ?_
      rintro e w11 ⟨rfl, b11⟩
      have HK11 := Lib.hid (HK10.out.trans (b11.mono HK10.out.size))
      have HVa_ := Lib.hid (HVa.out.below b11)
      clear HVa
      have HVa := HVa_
      clear HVa_
      have HVb_ := Lib.hid (HVb.out.below b11)
      clear HVb
      have HVb := HVb_
      clear HVb_
      have HVc_ := Lib.hid (HVc.out.below b11)
      clear HVc
      have HVc := HVc_
      clear HVc_
      have HVd_ := Lib.hid (HVd.out.below b11)
      clear HVd
      have HVd := HVd_
      clear HVd_
      have HVx_ := Lib.hid (HVx.out.below b11)
      clear HVx
      have HVx := HVx_
      clear HVx_
      have HVy_ := Lib.hid (HVy.out.below b11)
      clear HVy
      have HVy := HVy_
      clear HVy_
      clear b11 HS HK10
      have HS := Lib.hid (same_calls vx vy Lb Lb w11 HVx.out HVy.out (by omega))
      rw [sameB_refl] at HS
      go_wp2_with fail
      refine HS.out.mono ?_
      rintro e w12 ⟨rfl, b12⟩
      have HK12 := Lib.hid (HK11.out.trans (b12.mono HK11.out.size))
      have HVa_ := Lib.hid (HVa.out.below b12)
      clear HVa
      have HVa := HVa_
      clear HVa_
      have HVb_ := Lib.hid (HVb.out.below b12)
      clear HVb
      have HVb := HVb_
      clear HVb_
      have HVc_ := Lib.hid (HVc.out.below b12)
      clear HVc
      have HVc := HVc_
      clear HVc_
      have HVd_ := Lib.hid (HVd.out.below b12)
      clear HVd
      have HVd := HVd_
      clear HVd_
      have HVx_ := Lib.hid (HVx.out.below b12)
      clear HVx
      have HVx := HVx_
      clear HVx_
      have HVy_ := Lib.hid (HVy.out.below b12)
      clear HVy
      have HVy := HVy_
      clear HVy_
      clear b12 HS HK11
      have HOw := Lib.hid (own_calls _ xs w12 (HX1.out w12 HK12.out) (by omega))
      go_wp2_with fail
      refine HOw.out.mono ?_
      rintro e w13 ⟨oz, rfl, ro, b13⟩
      have HK13 := Lib.hid (HK12.out.trans (b13.mono HK12.out.size))
      have HVa_ := Lib.hid (HVa.out.below b13)
      clear HVa
      have HVa := HVa_
      clear HVa_
      have HVb_ := Lib.hid (HVb.out.below b13)
      clear HVb
      have HVb := HVb_
      clear HVb_
      have HVc_ := Lib.hid (HVc.out.below b13)
      clear HVc
      have HVc := HVc_
      clear HVc_
      have HVd_ := Lib.hid (HVd.out.below b13)
      clear HVd
      have HVd := HVd_
      clear HVd_
      have HVx_ := Lib.hid (HVx.out.below b13)
      clear HVx
      have HVx := HVx_
      clear HVx_
      have HVy_ := Lib.hid (HVy.out.below b13)
      clear HVy
      have HVy := HVy_
      clear HVy_
      have HOoz := Lib.hid ro
      clear b13 HOw HK12 ro
      have HS := Lib.hid (same_calls v1 oz xs xs w13 (HVs.out w13 HK13.out) HOoz.out (by omega))
      rw [sameB_refl] at HS
      go_wp2_with fail
      refine HS.out.mono ?_
      rintro e w14 ⟨rfl, b14⟩
      have HK14 := Lib.hid (HK13.out.trans (b14.mono HK13.out.size))
      have HVa_ := Lib.hid (HVa.out.below b14)
      clear HVa
      have HVa := HVa_
      clear HVa_
      have HVb_ := Lib.hid (HVb.out.below b14)
      clear HVb
      have HVb := HVb_
      clear HVb_
      have HVc_ := Lib.hid (HVc.out.below b14)
      clear HVc
      have HVc := HVc_
      clear HVc_
      have HVd_ := Lib.hid (HVd.out.below b14)
      clear HVd
      have HVd := HVd_
      clear HVd_
      have HVx_ := Lib.hid (HVx.out.below b14)
      clear HVx
      have HVx := HVx_
      clear HVx_
      have HVy_ := Lib.hid (HVy.out.below b14)
      clear HVy
      have HVy := HVy_
      clear HVy_
      have HOoz_ := Lib.hid (HOoz.out.below b14)
      clear HOoz
      have HOoz := HOoz_
      clear HOoz_
      clear b14 HS HK13
      go_wp2_with fail
      refine (wakes_calls w14).mono ?_
      rintro e w15 ⟨rfl, b15⟩
      have HKl := Lib.hid (HK14.out.trans (b15.mono HK14.out.size))
      clear b15
      go_wp2_with fail
      go_ret
      exact ⟨rfl, HBB.out.trans (HKl.out.mono HBB.out.size)⟩
    · have hgt' : (200 : Int) < (ys.length : Int) := by omega
      clear hr hr'
      go_enter Try.func4, Try.ntmps4
      go_wp2_with (go_at_call 8; refine (wakes_calls _).mono ?_; rintro e w2 ⟨rfl, h1⟩)
      go_ret
      exact ⟨rfl, hba.trans (h1.mono hba.size)⟩
  · have hgt : (200 : Int) < (xs.length : Int) := by omega
    clear hr hr'
    go_enter Try.func4, Try.ntmps4
    go_wp2_with (go_at_call 8; refine (wakes_calls _).mono ?_; rintro e w2 ⟨rfl, h1⟩)
    go_ret
    exact ⟨rfl, hba.trans (h1.mono hba.size)⟩
end Go.Proofs.Ytgiccdjgbjgdcaa.Sp
