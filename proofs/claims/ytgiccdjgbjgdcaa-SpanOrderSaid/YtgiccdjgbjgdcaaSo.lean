/- The walk of SpanOrder. -/
import Derived.Test.YtgiccdjgbjgdcaaOr
import Derived.Deep.Cut
import Derived.Deep.CutRange
import Derived.Deep.CutBlock
namespace Go.Proofs.Ytgiccdjgbjgdcaa.Sp
open Go.RowKit Go.Proofs.YtgiccdjgbjgdcaaW.PrintWords PSpanTells

set_option maxHeartbeats 8000000 in
set_option maxRecDepth 20000 in
theorem order_walk (A B : Option Addr) (c d : Nat) (l : List (Int × Int)) (turn : List Int) (w : World) (hr : ReadsRow ElP 2 w A l.length l) (_hc : l.length ≤ c) (hu : ∀ p ∈ l, U16 p) (hr' : Kd.C kI w B turn.length turn) (_hd : turn.length ≤ d) :
    Calls Try.prog 6 #[.slice A l.length c, .slice B turn.length d] w fun e w' => e = .returned (.bool true) ∧ Below w.heap.size w w' := by
  by_cases hl : l.length ≤ 40
  · have hgt : ¬ (40 : Int) < (l.length : Int) := by omega
    by_cases hl' : turn.length ≤ 100
    · have hgt' : ¬ (100 : Int) < (turn.length : Int) := by omega
      have HL := Lib.hid hr
      have HT := Lib.hid hr'
      have HU := Lib.hid hu
      have hba : Below w.heap.size w (w.alloc (.cells #[] 48)) := (Below.refl _ _).alloc (Nat.le_refl _) _
      obtain ⟨v1, w1, hrun, ho, hb⟩ := app_pair w.heap.size _ [] l A c _ (own_emptyP w) (hr.imp_ hba fun _ _ h => h) hba.size (by simp; omega)
      rw [List.nil_append] at ho
      have HRun := Lib.hid hrun
      have HB1 := Lib.hid (hba.trans hb)
      have HO := Lib.hid ho
      obtain ⟨A1, c1, rfl, hc1, _⟩ := ho.rd
      clear hrun hb ho hba hr hr' hu
      go_enter Try.func6, Try.ntmps6
      go_upto_block 0 with ((with_reducible refine gate_builtin (b := .append) (xs := #[.tmp 29, .tmp 30]) rfl ?_); refine wpl_append rfl (.tmp 29) (.tmp 30) 46 46 rfl _ _ _ _ rfl rfl HRun.out ?_)
      clear HRun
      go_cut [6, 7, 8] from 32 to 67 (fun _ _ _ W => ∃ K : List (Int × Int), K.Perm l ∧ OwnP W w.heap.size (.slice A1 l.length c1) K ∧ Below w.heap.size w W)
      case first =>
        go_wp2_with fail
        go_loopw [6] (fun iv wr => ∃ (i : Nat) (K : List (Int × Int)), i ≤ turn.length ∧ iv = .int .i64 i ∧ K.Perm l ∧ OwnP wr w.heap.size (.slice A1 l.length c1) K ∧ Below w.heap.size w wr) (fun iv _ => turn.length - (intOf iv).toNat)
        case atStart => exact ⟨0, l, Nat.zero_le _, rfl, List.Perm.refl _, HO.out, HB1.out⟩
        case round =>
          obtain ⟨i, K, hi, rfl, hp, ho, hbw⟩ := hrel
          have hKl : K.length = l.length := hp.length_eq
          rw [← hKl] at ho
          have HP := Lib.hid hp
          have HOw := Lib.hid ho
          have HBw := Lib.hid hbw
          clear hp ho hbw HO HB1
          by_cases hlt : i < turn.length ∧ 0 < K.length
          · obtain ⟨hlt1, hlt2⟩ := hlt
            obtain ⟨n, hn⟩ : ∃ n, K.length = n := ⟨_, rfl⟩
            obtain ⟨g, cap, hv, hg⟩ := own_formP HOw.out hlt2
            injection hv with hv1 _ hv3
            subst hv1 hv3
            rw [hn] at hlt2 HOw
            have hln : l.length = n := by omega
            rw [hln]
            obtain ⟨adt, rfl, hct⟩ := at_I (Kd.C_below HT.out HBw.out) i hlt1
            obtain ⟨tv, htv⟩ : ∃ t, turn[i] = t := ⟨_, rfl⟩
            rw [htv] at hct
            have HKE := Lib.hid (fun W (hB : Below w.heap.size w W) => (show W.cell? (adt.add i) = some (.int .i64 tv) from by
              obtain ⟨ad2, e, h2⟩ := at_I (Kd.C_below HT.out hB) i hlt1
              cases e
              rw [htv] at h2
              exact h2))
            have HM := Lib.hid (fun W => mod_calls tv (n : Int) W (by omega) (by omega))
            obtain ⟨x, hx⟩ : ∃ x, i % n = x := ⟨_, rfl⟩
            have hxl : x < n := by rw [← hx]; exact Nat.mod_lt _ hlt2
            have hxt : (i : Int).tmod (n : Int) = (x : Int) := by rw [← hx]; rfl
            have hwx : IntKind.i64.wrap (x : Int) = (x : Int) := wrapk x n hxl (by omega)
            have hne : ((n : Int) == 0) = false := ne_len _ hlt2
            have hne2 : ¬ (n : Int) = 0 := by omega
            have hne3 : ¬ n = 0 := by omega
            have t1 : (0 : Int) ≤ (i : Int) := by omega
            have t2 : (i : Int) < (turn.length : Int) := by omega
            have hgt0 : (0 : Int) < (n : Int) := by omega
            clear htv hx
            go_wp2_with fail
            go_region_held3 (fun w' => w'.cell? (adt.add i) = some (.int .i64 tv)) (first | go_keep | exact HKE.out _ (by assumption))
              (first
                | ((go_at_call 23; refine (HM.out wr.drew).mono ?_; rintro e p1 ⟨r, rfl, rfl, r0, r1⟩)))
            obtain ⟨y, rfl⟩ : ∃ y : Nat, r = (y : Int) := ⟨r.toNat, by omega⟩
            have hyl : y < n := by omega
            have hOv := HOw.out.below ((Below.refl wr.heap.size wr).drew)
            have hBv : Below w.heap.size w wr.drew := HBw.out.drew
            generalize wr.drew = wv at hOv hBv ⊢
            have hxK : x < K.length := by omega
            have hyK : y < K.length := by omega
            rw [← hn] at hOv
            obtain ⟨x0, x1, fx0, fx1⟩ := own_cellP hOv x hxK
            obtain ⟨y0, y1, fy0, fy1⟩ := own_cellP hOv y hyK
            have o1 := own_setP hOv x hxK K[y]
            obtain ⟨z0, z1, fz0, fz1⟩ := own_cellP o1 y (by rw [List.length_set]; exact hyK)
            have o2 := own_setP o1 y (by rw [List.length_set]; exact hyK) K[x]
            rw [List.length_set, List.length_set, hn] at o2
            have HPn := Lib.hid ((swap_perm K x y hxK hyK).trans HP.out)
            have HBn := Lib.hid (below_setP (below_setP hBv hg (x * 2) (x * 2 + 1) (.int .u16 K[y].1) (.int .u16 K[y].2)) hg (y * 2) (y * 2 + 1) (.int .u16 K[x].1) (.int .u16 K[x].2))
            obtain ⟨K2, hK2⟩ : ∃ K2, (K.set x K[y]).set y K[x] = K2 := ⟨_, rfl⟩
            rw [hK2] at o2 HPn
            have HOn := Lib.hid o2
            obtain ⟨px, hpx⟩ : ∃ p, K[x] = p := ⟨_, rfl⟩
            obtain ⟨py, hpy⟩ : ∃ p, K[y] = p := ⟨_, rfl⟩
            obtain ⟨pz, hpz⟩ : ∃ p, (K.set x K[y])[y]'(by rw [List.length_set]; exact hyK) = p := ⟨_, rfl⟩
            rw [hpz] at z0 z1
            rw [hpx] at x0 x1 HOn HBn
            rw [hpy] at y0 y1 z0 z1 fz0 fz1 HOn HBn
            have ax : (⟨g, 0, none⟩ : Addr).add (x * 2) = ⟨g, x * 2, none⟩ := add_zero_offP _ _
            have ay : (⟨g, 0, none⟩ : Addr).add (y * 2) = ⟨g, y * 2, none⟩ := add_zero_offP _ _
            clear o1 o2 hOv hBv hK2 hpx hpy hpz hxK hyK hxt hwx hct HKE HM HOw HBw
            go_wp2_with fail
            go_region
            go_wp2_with fail
            exact ⟨⟨i + 1, K2, by omega, by go_num, HPn.out, by first | exact HOn.out.below (Below.refl _ _).drew | (rw [hln]; exact HOn.out.below (Below.refl _ _).drew), HBn.out.drew⟩, by simp [intOf]; omega⟩
          · have hno : (i : Int) < (turn.length : Int) → ¬ (0 : Int) < (l.length : Int) := by omega
            rw [hKl] at HOw
            by_cases hit : i < turn.length
            · have hl0 : ¬ (0 : Int) < (l.length : Int) := hno (by omega)
              go_wp2_with fail
              go_meet
              exact ⟨K, HP.out, HOw.out, HBw.out⟩
            · go_wp2_with fail
              go_meet
              exact ⟨K, HP.out, HOw.out, HBw.out⟩
      case rest =>
        obtain ⟨K, hp, ho, hbw⟩ := hcut
        have hKl : K.length = l.length := hp.length_eq
        have HPk := Lib.hid (adds_perm l K hl HU.out hp)
        have HUk := Lib.hid (fun p (hq : p ∈ K) => HU.out p (hp.mem_iff.1 hq))
        obtain ⟨A2, c2, hv, hc2, hrk⟩ := ho.rd
        rw [hKl] at hv hc2
        injection hv with hv1 _ hv3
        subst hv1 hv3
        have HKr := Lib.hid hrk
        have HBc := Lib.hid hbw
        clear hp ho hbw hrk HO HB1
        go_wp2_with fail
        go_loopw [11, 9, 10] (fun jv av bv wr => ∃ (j : Nat) (La Lb : List S51) (Aa : Option Addr) (ca : Nat) (Ab : Option Addr) (cb : Nat), j ≤ l.length ∧ jv = .int .i64 j ∧ av = .slice Aa La.length ca ∧ bv = .slice Ab Lb.length cb ∧ La = addsL [] ((l.take j).map iv) ∧ Lb = addsL [] ((K.take j).map iv) ∧ Rd wr (.slice Aa La.length ca) La ∧ Rd wr (.slice Ab Lb.length cb) Lb ∧ Below wc.heap.size wc wr) (fun jv _ _ _ => l.length - (intOf jv).toNat)
        case atStart => exact ⟨0, [], [], none, 0, none, 0, Nat.zero_le _, rfl, rfl, rfl, rfl, rfl, ⟨none, 0, rfl, Nat.le_refl _, Kd.C_nil k51 _⟩, ⟨none, 0, rfl, Nat.le_refl _, Kd.C_nil k51 _⟩, Below.refl _ _⟩
        case round =>
          obtain ⟨j, La, Lb, Aa, ca, Ab, cb, hj, rfl, rfl, rfl, hLa, hLb, hra, hrb, hbw⟩ := hrel
          have HRa := Lib.hid hra
          have HRb := Lib.hid hrb
          have HBw := Lib.hid hbw
          have HLa := Lib.hid hLa
          have HLb := Lib.hid hLb
          clear hra hrb hbw hLa hLb
          by_cases hlt : j < l.length
          · have hltK : j < K.length := by omega
            have hfa := adds_take l hl HU.out j hlt La HLa.out
            have hfb := adds_take K (by omega) HUk.out j hltK Lb HLb.out
            have hua := HU.out l[j] (List.getElem_mem hlt)
            have hub := HUk.out K[j] (List.getElem_mem hltK)
            obtain ⟨ad, rfl, p0, p1⟩ := at_P (HL.out.imp_ (HBc.out.trans (HBw.out.mono HBc.out.size)) fun _ _ h => h) j hlt
            obtain ⟨kd, rfl, k0, k1⟩ := at_P (HKr.out.imp_ HBw.out fun _ _ h => h) j hltK
            obtain ⟨p, hp⟩ : ∃ p, l[j] = p := ⟨_, rfl⟩
            obtain ⟨q, hq⟩ : ∃ q, K[j] = q := ⟨_, rfl⟩
            rw [hp] at hfa hua p0 p1
            rw [hq] at hfb hub k0 k1
            obtain ⟨_, _, _, bm0, bm1⟩ := iv_bounds hua
            obtain ⟨_, _, _, bn0, bn1⟩ := iv_bounds hub
            obtain ⟨ua0, ua1, ua2, ua3⟩ := hua
            obtain ⟨ub0, ub1, ub2, ub3⟩ := hub
            obtain ⟨P1, P2⟩ := p
            obtain ⟨Q1, Q2⟩ := q
            simp only at hfa hfb p0 p1 k0 k1 bm0 bm1 bn0 bn1 ua0 ua1 ua2 ua3 ub0 ub1 ub2 ub3
            obtain ⟨m, hm⟩ : ∃ m, P2.tmod 20000 = m := ⟨_, rfl⟩
            obtain ⟨m', hm'⟩ : ∃ m, Q2.tmod 20000 = m := ⟨_, rfl⟩
            rw [hm] at hfa bm0 bm1
            rw [hm'] at hfb bn0 bn1
            have HAd := Lib.hid (fun W (hB : Below wr.heap.size wr W) => Add_rd _ La P1 (P1 + 1 + m) W (HRa.out.below hB))
            have HAd' := Lib.hid (fun W (hB : Below wr.heap.size wr W) => Add_rd _ Lb Q1 (Q1 + 1 + m') W (HRb.out.below hB))
            rw [hfa] at HAd
            rw [hfb] at HAd'
            obtain ⟨Na, hNa⟩ : ∃ N, addsL [] ((l.take (j + 1)).map iv) = N := ⟨_, rfl⟩
            obtain ⟨Nb, hNb⟩ : ∃ N, addsL [] ((K.take (j + 1)).map iv) = N := ⟨_, rfl⟩
            rw [hNa] at HAd
            rw [hNb] at HAd'
            have HNa := Lib.hid hNa
            have HNb := Lib.hid hNb
            have HKE := Lib.hid (fun W (hB : Below wr.heap.size wr W) => (⟨(hB.cell (World.block_lt_of_cell? _ _ p0)).trans p0, (hB.cell (World.block_lt_of_cell? _ _ p1)).trans p1⟩ : W.cell? (ad.add (j * 2)) = some (.int .u16 P1) ∧ W.cell? ⟨(ad.add (j * 2)).block, (ad.add (j * 2)).off + 1, none⟩ = some (.int .u16 P2)))
            have HKF := Lib.hid (fun W (hB : Below wr.heap.size wr W) => (⟨(hB.cell (World.block_lt_of_cell? _ _ k0)).trans k0, (hB.cell (World.block_lt_of_cell? _ _ k1)).trans k1⟩ : W.cell? (kd.add (j * 2)) = some (.int .u16 Q1) ∧ W.cell? ⟨(kd.add (j * 2)).block, (kd.add (j * 2)).off + 1, none⟩ = some (.int .u16 Q2)))
            have t1 : (0 : Int) ≤ (j : Int) := by omega
            have t2 : (j : Int) < (l.length : Int) := by omega
            have e1 : IntKind.i64.wrap P1 = P1 := by rw [IntKind.wrap_i64]; omega
            have e2 : IntKind.i64.wrap P2 = P2 := by rw [IntKind.wrap_i64]; omega
            have e3 : IntKind.i64.wrap (P1 + 1) = P1 + 1 := by rw [IntKind.wrap_i64]; omega
            have e4 : IntKind.i64.wrap m = m := by rw [IntKind.wrap_i64]; omega
            have e5 : IntKind.i64.wrap (P1 + 1 + m) = P1 + 1 + m := by rw [IntKind.wrap_i64]; omega
            clear hfa hfb hNa hNb hp hq k0 k1
            go_wp2_with fail
            go_region_held3 (fun w' => w'.cell? (ad.add (j * 2)) = some (.int .u16 P1) ∧ w'.cell? ⟨(ad.add (j * 2)).block, (ad.add (j * 2)).off + 1, none⟩ = some (.int .u16 P2)) (first | go_keep | exact HKE.out _ (by assumption))
              (first
                | ((go_at_call 17; refine (HAd.out wr.drew (Below.refl _ _).drew).mono ?_; rintro e wa ⟨va, rfl, ra, ba⟩; have g1 : Below wr.heap.size wr wa := (Below.refl _ _).drew.trans (ba.mono (Below.refl wr.heap.size wr).drew.size))))
            have HG1 := Lib.hid g1
            have HRva := Lib.hid ra
            clear ba g1 ra HAd HKE e1 e2 e3 e4 e5 p0 p1
            have f1 : IntKind.i64.wrap Q1 = Q1 := by rw [IntKind.wrap_i64]; omega
            have f2 : IntKind.i64.wrap Q2 = Q2 := by rw [IntKind.wrap_i64]; omega
            have f3 : IntKind.i64.wrap (Q1 + 1) = Q1 + 1 := by rw [IntKind.wrap_i64]; omega
            have f4 : IntKind.i64.wrap m' = m' := by rw [IntKind.wrap_i64]; omega
            have f5 : IntKind.i64.wrap (Q1 + 1 + m') = Q1 + 1 + m' := by rw [IntKind.wrap_i64]; omega
            obtain ⟨k0, k1⟩ := HKF.out wa HG1.out
            have HKF2 := Lib.hid (fun W (hB : Below wa.heap.size wa W) => HKF.out W (HG1.out.trans (hB.mono HG1.out.size)))
            go_wp2_with fail
            go_region_held3 (fun w' => w'.cell? (kd.add (j * 2)) = some (.int .u16 Q1) ∧ w'.cell? ⟨(kd.add (j * 2)).block, (kd.add (j * 2)).off + 1, none⟩ = some (.int .u16 Q2)) (first | go_keep | exact HKF2.out _ (by assumption))
              (first
                | ((go_at_call 17; refine (HAd'.out wa.drew (HG1.out.trans ((Below.refl _ _).drew.mono HG1.out.size))).mono ?_; rintro e wb ⟨vb, rfl, rb, bb⟩; have g2 : Below wa.heap.size wa wb := (Below.refl _ _).drew.trans (bb.mono (Below.refl wa.heap.size wa).drew.size))))
            have HRvb := Lib.hid rb
            have HRva2 := Lib.hid (HRva.out.below g2)
            have HBn := Lib.hid (HBw.out.trans ((HG1.out.trans (g2.mono HG1.out.size)).mono HBw.out.size))
            obtain ⟨A5, c5, rfl, _, _⟩ := HRva.out
            obtain ⟨A6, c6, rfl, _, _⟩ := rb
            clear bb g2 HKF HKF2 HAd' f1 f2 f3 f4 f5 k0 k1
            go_wp2_with fail
            exact ⟨⟨j + 1, Na, Nb, A5, c5, A6, c6, by omega, by go_num, rfl, rfl, HNa.out.symm, HNb.out.symm, HRva2.out, HRvb.out, HBn.out⟩, by simp [intOf]; omega⟩
          · obtain rfl : j = l.length := by omega
            have eLa := HLa.out
            have eLb := HLb.out
            rw [List.take_length] at eLa
            rw [← hKl, List.take_length, HPk.out, ← eLa] at eLb
            subst eLb
            obtain ⟨gA, nA, bA⟩ := adds_low l hl HU.out
            rw [← eLa] at gA nA bA
            obtain ⟨a1, a2, a3, a4⟩ := above Lb gA (by omega) bA
            have hd1 : daysF Lb = sumD Lb := if_pos gA
            have hd2 : daysF (addL Lb 86000 87000) = sumD Lb + 1000 := by rw [← a3]; exact if_pos a2
            have hbd := good_bounds Lb (-1) ((good_can Lb (-1)).2 ((good_iff Lb).1 gA).2) (by omega)
            have hn : 0 ≤ sumD Lb ∧ sumD Lb ≤ 87660 := ⟨hbd.1, by have := hbd.2.1; omega⟩
            have hlc := add_len Lb 86000 87000
            obtain ⟨nn, hnn⟩ : ∃ n, sumD Lb = n := ⟨_, rfl⟩
            rw [hnn] at hd1 hd2 hn
            obtain ⟨Lc, hLc⟩ : ∃ L, addL Lb 86000 87000 = L := ⟨_, rfl⟩
            rw [hLc] at a1 a4 hd2 hlc
            have A1' := Lib.hid a1
            have A4' := Lib.hid a4
            have D1 := Lib.hid hd1
            have D2 := Lib.hid hd2
            have hlen : Lb.length ≤ 40 := by omega
            clear a1 a2 a3 a4 hd1 hd2 hbd gA bA nA hLc hnn eLa
            have HBB := Lib.hid (HBc.out.trans (HBw.out.mono HBc.out.size))
            have HOw := Lib.hid (own_calls _ Lb wr HRb.out (by omega))
            go_wp2_with fail
            refine HOw.out.mono ?_
            rintro e w2 ⟨o1, rfl, ro, b2⟩
            have HS := Lib.hid (same_calls _ _ Lb Lb w2 (HRa.out.below b2) ro (by omega))
            rw [sameB_refl] at HS
            have HK2 := Lib.hid b2
            clear HOw ro b2
            go_wp2_with fail
            refine HS.out.mono ?_
            rintro e w3 ⟨rfl, b3⟩
            have HK3 := Lib.hid (HK2.out.trans (b3.mono HK2.out.size))
            clear b3 HS HK2
            have hra3 := HRa.out.below HK3.out
            obtain ⟨Ax, cx, hvx, _, hrx⟩ := hra3
            injection hvx with hvx1 _ hvx3
            subst hvx1 hvx3
            obtain ⟨u0, y0, hrun0, rr0, bb0⟩ := copy_rd Aa ca Lb w3 hrx (by omega)
            have HRun0 := Lib.hid hrun0
            have HAd := Lib.hid (Add_rd u0 Lb 86000 87000 y0 rr0)
            rw [A1'.out] at HAd
            have HKt := Lib.hid (HK3.out.trans (bb0.mono HK3.out.size))
            clear hrun0 rr0 bb0 hrx HK3
            go_wp2_with ((with_reducible refine gate_builtin (b := .append) (xs := #[.tmp 140, .tmp 141]) rfl ?_); refine wpl_append rfl (.tmp 140) (.tmp 141) 22 22 rfl _ _ _ _ rfl rfl HRun0.out ?_)
            refine HAd.out.mono ?_
            rintro e w4 ⟨vc, rfl, rc, b4⟩
            have HK4 := Lib.hid (HKt.out.trans (b4.mono HKt.out.size))
            have HCu := Lib.hid (Cut_rd vc Lc 86000 87000 w4 rc)
            rw [A4'.out] at HCu
            have HVc := Lib.hid rc
            clear rc b4 HAd HRun0 HKt
            go_wp2_with fail
            refine HCu.out.mono ?_
            rintro e w5 ⟨vd, rfl, rd5, b5⟩
            have HK5 := Lib.hid (HK4.out.trans (b5.mono HK4.out.size))
            have HVd := Lib.hid rd5
            have HVc2 := Lib.hid (HVc.out.below b5)
            clear rd5 b5 HCu HK4 HVc
            have HDc := Lib.hid (Days_rd vc Lc w5 HVc2.out)
            rw [D2.out] at HDc
            go_wp2_with fail
            refine HDc.out.mono ?_
            rintro e w6 ⟨rfl, b6⟩
            have HK6 := Lib.hid (HK5.out.trans (b6.mono HK5.out.size))
            have HVd2 := Lib.hid (HVd.out.below b6)
            clear b6 HDc HK5 HVd HVc2
            have HDa := Lib.hid (Days_rd _ Lb w6 (HRa.out.below HK6.out))
            rw [D1.out] at HDa
            have hw : IntKind.i64.wrap (nn + 1000) = nn + 1000 := by rw [IntKind.wrap_i64]; omega
            go_wp2_with fail
            refine HDa.out.mono ?_
            rintro e w7 ⟨rfl, b7⟩
            have HK7 := Lib.hid (HK6.out.trans (b7.mono HK6.out.size))
            have HVd3 := Lib.hid (HVd2.out.below b7)
            clear b7 HDa HK6 HVd2
            have HOw := Lib.hid (own_calls _ Lb w7 (HRa.out.below HK7.out) (by omega))
            go_wp2_with fail
            refine HOw.out.mono ?_
            rintro e w8 ⟨o2, rfl, ro, b8⟩
            have HK8 := Lib.hid (HK7.out.trans (b8.mono HK7.out.size))
            have HS := Lib.hid (same_calls vd o2 Lb Lb w8 (HVd3.out.below b8) ro (by omega))
            rw [sameB_refl] at HS
            clear b8 ro HOw HK7 HVd3
            go_wp2_with fail
            refine HS.out.mono ?_
            rintro e w9 ⟨rfl, b9⟩
            have HK9 := Lib.hid (HK8.out.trans (b9.mono HK8.out.size))
            clear b9 HS HK8
            go_wp2_with fail
            refine (wakes_calls w9).mono ?_
            rintro e we ⟨rfl, be⟩
            have HKe := Lib.hid (HK9.out.trans (be.mono HK9.out.size))
            clear be
            go_wp2_with fail
            go_ret
            exact ⟨rfl, HBB.out.trans (HKe.out.mono HBB.out.size)⟩
    · have hgt' : (100 : Int) < (turn.length : Int) := by omega
      clear hr hr'
      go_enter Try.func6, Try.ntmps6
      go_wp2_with (go_at_call 8; refine (wakes_calls _).mono ?_; rintro e w2 ⟨rfl, h1⟩)
      go_ret
      exact ⟨rfl, h1⟩
  · have hgt : (40 : Int) < (l.length : Int) := by omega
    clear hr hr'
    go_enter Try.func6, Try.ntmps6
    go_wp2_with (go_at_call 8; refine (wakes_calls _).mono ?_; rintro e w2 ⟨rfl, h1⟩)
    go_ret
    exact ⟨rfl, h1⟩
end Go.Proofs.Ytgiccdjgbjgdcaa.Sp
