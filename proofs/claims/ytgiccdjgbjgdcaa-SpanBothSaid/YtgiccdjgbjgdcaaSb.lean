/- The walk of SpanBoth. -/
import Derived.Test.YtgiccdjgbjgdcaaCp
import Derived.Test.YtgiccdjgbjgdcaaPl
import Derived.Deep.RegionHeld3
namespace Go.Proofs.Ytgiccdjgbjgdcaa.Sp
open Go.RowKit Go.Proofs.YtgiccdjgbjgdcaaW.PrintWords PSpanTells

set_option maxHeartbeats 4000000 in
set_option maxRecDepth 20000 in
theorem both_walk (A B : Option Addr) (c d : Nat) (xs ys : List S51) (w : World) (hr : Kd.C k51 w A xs.length xs) (hc : xs.length ≤ c) (hr' : Kd.C k51 w B ys.length ys) (hd : ys.length ≤ d) :
    Calls Try.prog 7 #[.slice A xs.length c, .slice B ys.length d] w fun e w' => e = .returned (.bool true) ∧ Below w.heap.size w w' := by
  by_cases hl : xs.length ≤ 200
  · have hgt : ¬ (200 : Int) < (xs.length : Int) := by omega
    by_cases hl' : ys.length ≤ 200
    · have hgt' : ¬ (200 : Int) < (ys.length : Int) := by omega
      have HA := Lib.hid hr
      have HB := Lib.hid hr'
      have HX := Lib.hid (show Rd w (.slice A xs.length c) xs from ⟨A, c, rfl, hc, hr⟩)
      have HY := Lib.hid (show Rd w (.slice B ys.length d) ys from ⟨B, d, rfl, hd, hr'⟩)
      have HOwn := Lib.hid (own_calls _ xs w HX.out (by omega))
      clear hr hr'
      go_enter Try.func7, Try.ntmps7
      go_wp2_with fail
      refine HOwn.out.mono ?_
      rintro e w1 ⟨v1, rfl, r1, b1⟩
      have HB1 := Lib.hid b1
      have HC1 := Lib.hid (rGood_calls v1 xs w1 r1 (by omega))
      clear r1 b1 HOwn
      go_wp2_with fail
      refine HC1.out.mono ?_
      rintro e w2 ⟨rfl, b2⟩
      have HB2 := Lib.hid (HB1.out.trans (b2.mono HB1.out.size))
      clear b2 HC1 HB1
      rcases Bool.eq_false_or_eq_true (goodB xs) with hg | hg
      · rw [hg]
        have HOwn := Lib.hid (own_calls _ ys w2 (HY.out.below HB2.out) (by omega))
        go_wp2_with fail
        refine HOwn.out.mono ?_
        rintro e w3 ⟨v3, rfl, r3, b3⟩
        have HB3 := Lib.hid (HB2.out.trans (b3.mono HB2.out.size))
        have HC3 := Lib.hid (rGood_calls v3 ys w3 r3 (by omega))
        clear r3 b3 HOwn HB2
        go_wp2_with fail
        refine HC3.out.mono ?_
        rintro e w4 ⟨rfl, b4⟩
        have HB4 := Lib.hid (HB3.out.trans (b4.mono HB3.out.size))
        clear b4 HC3 HB3
        rcases Bool.eq_false_or_eq_true (goodB ys) with hg' | hg'
        · rw [hg']
          obtain ⟨f1, g1⟩ := both_ok xs ys hg hg' (by omega) (both_len _ xs ys (Nat.le_refl _))
          obtain ⟨f2, _⟩ := both_ok ys xs hg' hg (by omega) (both_len _ ys xs (Nat.le_refl _))
          obtain ⟨f3, _⟩ := both_ok xs xs hg hg (by omega) (both_len _ xs xs (Nat.le_refl _))
          rw [both_self xs hg] at f3
          rw [← both_comm xs ys hg hg'] at f2
          have hlen := both_len _ xs ys (Nat.le_refl _)
          have hdays := both_days xs ys hg hg' hl hl'
          obtain ⟨bo, hbo⟩ : ∃ bo, bothL xs ys = bo := ⟨_, rfl⟩
          rw [hbo] at f1 f2 g1 hlen hdays
          have F1 := Lib.hid f1
          have F2 := Lib.hid f2
          have F3 := Lib.hid f3
          have G0 := Lib.hid hg
          have G0' := Lib.hid hg'
          have G1 := Lib.hid g1
          have HDays := Lib.hid hdays
          clear f1 f2 f3 hg hg' g1 hdays hbo
          have HA4 := Lib.hid (Kd.C_below HA.out HB4.out)
          have HB4' := Lib.hid (Kd.C_below HB.out HB4.out)
          obtain ⟨va, wa, hra, rda, ba⟩ := copy_rd A c xs w4 HA4.out (by omega)
          obtain ⟨vb, wb, hrb, rdb, bb⟩ := copy_rd B d ys wa (Kd.C_below HB4'.out ba) (by omega)
          have HRa := Lib.hid hra
          have HRb := Lib.hid hrb
          have HBa := Lib.hid (ba.trans (bb.mono ba.size))
          have HC5 := Lib.hid (Both_rd va vb xs ys wb (rda.below bb) rdb)
          rw [F1.out] at HC5
          clear hra hrb rda rdb ba bb
          go_wp2_with (first | ((with_reducible refine gate_builtin (b := .append) (xs := #[.tmp 37, .tmp 38]) rfl ?_); refine wpl_append rfl (.tmp 37) (.tmp 38) 22 22 rfl _ _ _ _ rfl rfl HRa.out ?_) | ((with_reducible refine gate_builtin (b := .append) (xs := #[.tmp 40, .tmp 41]) rfl ?_); refine wpl_append rfl (.tmp 40) (.tmp 41) 22 22 rfl _ _ _ _ rfl rfl HRb.out ?_))
          refine HC5.out.mono ?_
          rintro e w5 ⟨v5, rfl, r5, b5⟩
          have HB5 := Lib.hid (HBa.out.trans (b5.mono HBa.out.size))
          have HR5 := Lib.hid r5
          clear b5 r5 HRa HRb HBa HC5
          have HA5 := Lib.hid (Kd.C_below HA4.out HB5.out)
          have HB5' := Lib.hid (Kd.C_below HB4'.out HB5.out)
          obtain ⟨vb, wb, hrb, rdb, bb⟩ := copy_rd B d ys w5 HB5'.out (by omega)
          obtain ⟨va, wa, hra, rda, ba⟩ := copy_rd A c xs wb (Kd.C_below HA5.out bb) (by omega)
          have HRa := Lib.hid hra
          have HRb := Lib.hid hrb
          have HBa := Lib.hid (bb.trans (ba.mono bb.size))
          have HC6 := Lib.hid (Both_rd vb va ys xs wa (rdb.below ba) rda)
          rw [F2.out] at HC6
          clear hra hrb rda rdb ba bb
          go_wp2_with (first | ((with_reducible refine gate_builtin (b := .append) (xs := #[.tmp 47, .tmp 48]) rfl ?_); refine wpl_append rfl (.tmp 47) (.tmp 48) 22 22 rfl _ _ _ _ rfl rfl HRb.out ?_) | ((with_reducible refine gate_builtin (b := .append) (xs := #[.tmp 50, .tmp 51]) rfl ?_); refine wpl_append rfl (.tmp 50) (.tmp 51) 22 22 rfl _ _ _ _ rfl rfl HRa.out ?_))
          refine HC6.out.mono ?_
          rintro e w6 ⟨v6, rfl, r6, b6⟩
          have HB6 := Lib.hid (HBa.out.trans (b6.mono HBa.out.size))
          have HR6 := Lib.hid r6
          have HR5b := Lib.hid (HR5.out.below HB6.out)
          clear b6 r6 HRa HRb HBa HC6 HR5
          have HA6 := Lib.hid (Kd.C_below HA5.out HB6.out)
          have HB6' := Lib.hid (Kd.C_below HB5'.out HB6.out)
          have HB56 := Lib.hid (HB5.out.trans (HB6.out.mono HB5.out.size))
          clear HA4 HB4' HA5 HB5' HB5 HB6
          obtain ⟨va, wa, hra, rda, ba⟩ := copy_rd A c xs w6 HA6.out (by omega)
          obtain ⟨vb, wb, hrb, rdb, bb⟩ := copy_rd A c xs wa (Kd.C_below HA6.out ba) (by omega)
          have HRa := Lib.hid hra
          have HRb := Lib.hid hrb
          have HBa := Lib.hid (ba.trans (bb.mono ba.size))
          have HC7 := Lib.hid (Both_rd va vb xs xs wb (rda.below bb) rdb)
          rw [F3.out] at HC7
          clear hra hrb rda rdb ba bb
          go_wp2_with (first | ((with_reducible refine gate_builtin (b := .append) (xs := #[.tmp 57, .tmp 58]) rfl ?_); refine wpl_append rfl (.tmp 57) (.tmp 58) 22 22 rfl _ _ _ _ rfl rfl HRa.out ?_) | ((with_reducible refine gate_builtin (b := .append) (xs := #[.tmp 60, .tmp 61]) rfl ?_); refine wpl_append rfl (.tmp 60) (.tmp 61) 22 22 rfl _ _ _ _ rfl rfl HRb.out ?_))
          refine HC7.out.mono ?_
          rintro e w7 ⟨v7, rfl, r7, b7⟩
          have HB7 := Lib.hid (HBa.out.trans (b7.mono HBa.out.size))
          have HR7 := Lib.hid r7
          have HA7 := Lib.hid (Kd.C_below HA6.out HB7.out)
          have HB7' := Lib.hid (Kd.C_below HB6'.out HB7.out)
          have HR57 := Lib.hid (HR5b.out.below HB7.out)
          have HR67 := Lib.hid (HR6.out.below HB7.out)
          have HBx := Lib.hid (HB4.out.trans ((HB56.out.trans (HB7.out.mono HB56.out.size)).mono HB4.out.size))
          clear b7 r7 HRa HRb HBa HC7 HR5b HR6 HA6 HB6' HB56 HB7 HB4 F1 F2 F3
          have HO8 := Lib.hid (own_calls v6 bo w7 HR67.out (by omega))
          go_wp2_with fail
          refine HO8.out.mono ?_
          rintro e w8 ⟨v8, rfl, r8, b8⟩
          have HB8 := Lib.hid b8
          have HC8 := Lib.hid (same_calls v5 v8 bo bo w8 (HR57.out.below b8) r8 (by omega))
          rw [sameB_refl] at HC8
          clear b8 r8 HO8
          go_wp2_with fail
          refine HC8.out.mono ?_
          rintro e w9 ⟨rfl, b9⟩
          have HB9 := Lib.hid (HB8.out.trans (b9.mono HB8.out.size))
          clear b9 HB8 HC8
          have HO9 := Lib.hid (own_calls _ xs w9 (Rd.below ⟨A, c, rfl, hc, HA7.out⟩ HB9.out) (by omega))
          go_wp2_with fail
          refine HO9.out.mono ?_
          rintro e w10 ⟨v10, rfl, r10, b10⟩
          have HB10 := Lib.hid (HB9.out.trans (b10.mono HB9.out.size))
          have HC10 := Lib.hid (same_calls v7 v10 xs xs w10 (HR7.out.below HB10.out) r10 (by omega))
          rw [sameB_refl] at HC10
          clear b10 r10 HO9 HB9
          go_wp2_with fail
          refine HC10.out.mono ?_
          rintro e w11 ⟨rfl, b11⟩
          have HB11 := Lib.hid (HB10.out.trans (b11.mono HB10.out.size))
          clear b11 HB10 HC10
          have HA11 := Lib.hid (Kd.C_below HA7.out HB11.out)
          have HB11' := Lib.hid (Kd.C_below HB7'.out HB11.out)
          have HR5x := Lib.hid (HR57.out.below HB11.out)
          obtain ⟨vd, wd, hrd, rdd, bd⟩ := copy_rd A c xs w11 HA11.out (by omega)
          have HRd := Lib.hid hrd
          have HDd := Lib.hid rdd
          have HBd := Lib.hid bd
          clear hrd rdd bd
          clear HR67 HR7 HA7 HB7' HR57
          go_wp2_with ((with_reducible refine gate_builtin (b := .append) (xs := #[.tmp 90, .tmp 91]) rfl ?_); refine wpl_append rfl (.tmp 90) (.tmp 91) 22 22 rfl _ _ _ _ rfl rfl HRd.out ?_)
          have HAd := Lib.hid (Kd.C_below HA11.out HBd.out)
          have HBd' := Lib.hid (Kd.C_below HB11'.out HBd.out)
          have HR5d := Lib.hid (HR5x.out.below HBd.out)
          have HBall := Lib.hid (HBx.out.trans ((HB11.out.trans (HBd.out.mono HB11.out.size)).mono HBx.out.size))
          clear HA11 HB11' HR5x HBd HBx HB11 HRd
          have hgy := ((good_iff ys).1 G0'.out).2
          have HGy := Lib.hid hgy
          clear hgy
          obtain ⟨Ad, cd, rfl, hcd, hrd⟩ := HDd.out
          clear hrd
          go_wp2_with fail
          go_loopw [11, 12] (fun dv i wr => ∃ (k : Nat) (D : List S51) (A0 : Option Addr) (c0 : Nat), k ≤ ys.length ∧ dv = .slice A0 D.length c0 ∧ i = .int .i64 k ∧ D = cutsL xs (ys.take k) ∧ Rd wr (.slice A0 D.length c0) D ∧ Below wd.heap.size wd wr) (fun _ i _ => ys.length - (intOf i).toNat)
          case atStart => exact ⟨0, xs, Ad, cd, Nat.zero_le _, rfl, rfl, rfl, HDd.out, Below.refl _ _⟩
          case round =>
            obtain ⟨k, D, A0, c0, hk, rfl, rfl, hD, hR, hbw⟩ := hrel
            have HD := Lib.hid hD
            have HR := Lib.hid hR
            have HBw := Lib.hid hbw
            obtain ⟨gD, lD, _⟩ := cuts_ok (ys.take k) xs 200 G0.out hl (by rw [List.length_take]; omega) fun t ht => by have := HGy.out.1 t (List.mem_of_mem_take ht); omega
            rw [← hD] at gD lD
            rw [List.length_take] at lD
            have lD2 : D.length ≤ 400 := by omega
            clear hD hR hbw lD
            by_cases hlt : k < ys.length
            · obtain ⟨ad, rfl, q0, q1⟩ := at_T51 (Kd.C_below HBd'.out HBw.out) (k : Int) (by omega) (by omega)
              rw [rd_get ys k hlt, Int.toNat_natCast] at q0 q1
              obtain ⟨t, ht⟩ : ∃ t, ys[k] = t := ⟨_, rfl⟩
              rw [ht] at q0 q1
              have hbt := HGy.out.1 t (by rw [← ht]; exact List.getElem_mem _)
              obtain ⟨hcu, _⟩ := cut_ok D t.f0 t.f1 gD (by omega) (by omega) (by omega) (by omega)
              have HCu := Lib.hid (fun W (hB : Below wr.heap.size wr W) => Cut_rd (.slice A0 D.length c0) D t.f0 t.f1 W (HR.out.below hB))
              rw [hcu] at HCu
              have HDn : Hid (cutL D t.f0 t.f1 = cutsL xs (ys.take (k + 1))) := Lib.hid (by rw [List.take_succ_eq_append_getElem hlt, ht, cuts_snoc, ← HD.out])
              obtain ⟨D2, hD2⟩ : ∃ D2, cutL D t.f0 t.f1 = D2 := ⟨_, rfl⟩
              rw [hD2] at HCu HDn
              have hk1 : (0 : Int) ≤ (k : Int) := by omega
              have hk2 : (k : Int) < (ys.length : Int) := by omega
              clear hbt hcu gD ht hD2
              have q0' : wr.cell? (ad.add (k * 2)) = some (.int .i64 t.f0) := q0
              have q1' : wr.cell? ⟨(ad.add (k * 2)).block, (ad.add (k * 2)).off + 1, none⟩ = some (.int .i64 t.f1) := q1
              have HKE := Lib.hid (fun W (hB : Below wr.heap.size wr W) => (⟨(hB.cell (World.block_lt_of_cell? _ _ q0')).trans q0', (hB.cell (World.block_lt_of_cell? _ _ q1')).trans q1'⟩ : W.cell? (ad.add (k * 2)) = some (.int .i64 t.f0) ∧ W.cell? ⟨(ad.add (k * 2)).block, (ad.add (k * 2)).off + 1, none⟩ = some (.int .i64 t.f1)))
              clear q0 q1
              go_wp2_with fail
              go_region_held3 (fun w' => w'.cell? (ad.add (k * 2)) = some (.int .i64 t.f0) ∧ w'.cell? ⟨(ad.add (k * 2)).block, (ad.add (k * 2)).off + 1, none⟩ = some (.int .i64 t.f1)) (first | go_keep | exact HKE.out _ (by assumption))
                (first
                  | ((go_at_call 19; refine (HCu.out wr.drew (Below.refl _ _).drew).mono ?_; rintro e p1 ⟨vn, rfl, rn, bn⟩; have e1 : Below wr.heap.size wr p1 := (Below.refl _ _).drew.trans (bn.mono (Below.refl wr.heap.size wr).drew.size))))
              have HRn := Lib.hid rn
              have HBn := Lib.hid (HBw.out.trans (e1.mono HBw.out.size))
              obtain ⟨A5, c5, rfl, _, _⟩ := rn
              clear bn e1 HCu HKE q0' q1'
              go_wp2_with fail
              exact ⟨⟨k + 1, D2, A5, c5, by omega, rfl, by go_num, HDn.out, HRn.out, HBn.out⟩, by simp [intOf]; omega⟩
            · obtain rfl : k = ys.length := by omega
              rw [List.take_length] at HD
              have hd1 : daysF bo = sumD bo := if_pos G1.out
              have hd2 : daysF xs = sumD xs := if_pos G0.out
              have hd3 : daysF D = sumD D := if_pos gD
              have HW := Lib.hid (HBall.out.trans (HBw.out.mono HBall.out.size))
              have C1 := Lib.hid (Days_rd v5 bo wr (HR5d.out.below HBw.out))
              have C2 := Lib.hid (fun W (hB : Below wr.heap.size wr W) => Days_rd (.slice A xs.length c) xs W ⟨A, c, rfl, hc, Kd.C_below HAd.out (HBw.out.trans (hB.mono HBw.out.size))⟩)
              have C3 := Lib.hid (fun W (hB : Below wr.heap.size wr W) => Days_rd (.slice A0 D.length c0) D W (HR.out.below hB))
              obtain ⟨n1, hn1⟩ : ∃ n, sumD bo = n := ⟨_, rfl⟩
              obtain ⟨n2, hn2⟩ : ∃ n, sumD xs = n := ⟨_, rfl⟩
              obtain ⟨n3, hn3⟩ : ∃ n, sumD D = n := ⟨_, rfl⟩
              have hbx := good_bounds xs (-1) ((good_can xs (-1)).2 ((good_iff xs).1 G0.out).2) (by omega)
              have hbd := good_bounds D (-1) ((good_can D (-1)).2 ((good_iff D).1 gD).2) (by omega)
              have hfin : n1 = n2 - n3 := by rw [← hn1, ← hn2, ← hn3, HD.out]; exact HDays.out
              have hn2b : 0 ≤ n2 ∧ n2 ≤ 87660 := by rw [← hn2]; exact ⟨hbx.1, by have := hbx.2.1; omega⟩
              have hn3b : 0 ≤ n3 ∧ n3 ≤ 87660 := by rw [← hn3]; exact ⟨hbd.1, by have := hbd.2.1; omega⟩
              rw [hd1, hn1] at C1
              rw [hd2, hn2] at C2
              rw [hd3, hn3] at C3
              clear hd1 hd2 hd3 hn1 hn2 hn3 hbx hbd gD HD HDays
              go_wp2_with fail
              refine C1.out.mono ?_
              rintro e p1 ⟨rfl, b1⟩
              have D1 := Lib.hid b1
              clear b1 C1
              go_wp2_with fail
              refine (C2.out p1 D1.out).mono ?_
              rintro e p2 ⟨rfl, b2⟩
              have D2 := Lib.hid (D1.out.trans (b2.mono D1.out.size))
              clear b2 C2
              go_wp2_with fail
              refine (C3.out p2 D2.out).mono ?_
              rintro e p3 ⟨rfl, b3⟩
              have D3 := Lib.hid (D2.out.trans (b3.mono D2.out.size))
              clear b3 C3
              have hw : IntKind.i64.wrap (n2 - n3) = n2 - n3 := by rw [IntKind.wrap_i64]; omega
              have heq : (n1 == n2 - n3) = true := by rw [hfin]; simp
              go_wp2_with fail
              refine (wakes_calls p3).mono ?_
              rintro e p4 ⟨rfl, b4⟩
              have D4 := Lib.hid (D3.out.trans (b4.mono D3.out.size))
              clear b4
              go_wp2_with fail
              go_ret
              exact ⟨rfl, HW.out.trans (D4.out.mono HW.out.size)⟩
        · rw [hg']
          go_wp2_with (go_at_call 8; refine (wakes_calls _).mono ?_; rintro e w5 ⟨rfl, h1⟩)
          go_ret
          exact ⟨rfl, HB4.out.trans (h1.mono HB4.out.size)⟩
      · rw [hg]
        go_wp2_with (go_at_call 8; refine (wakes_calls _).mono ?_; rintro e w5 ⟨rfl, h1⟩)
        go_ret
        exact ⟨rfl, HB2.out.trans (h1.mono HB2.out.size)⟩
    · have hgt' : (200 : Int) < (ys.length : Int) := by omega
      go_enter Try.func7, Try.ntmps7
      go_wp2_with (go_at_call 8; refine (wakes_calls _).mono ?_; rintro e w2 ⟨rfl, h1⟩)
      go_ret
      exact ⟨rfl, h1⟩
  · have hgt : (200 : Int) < (xs.length : Int) := by omega
    go_enter Try.func7, Try.ntmps7
    go_wp2_with (go_at_call 8; refine (wakes_calls _).mono ?_; rintro e w2 ⟨rfl, h1⟩)
    go_ret
    exact ⟨rfl, h1⟩
end Go.Proofs.Ytgiccdjgbjgdcaa.Sp
