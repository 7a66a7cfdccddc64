/- The law EventSizes. -/
import Derived.Test.YtadcpdpcpecooaaE22
import Derived.Test.YtadcpdpcpecooaaE20
import Derived.Test.YtadcpdpcpecooaaE18
namespace Go.Proofs.Ytadcpdpcpecooaa.Ev
open Go.RowKit Go.Proofs.Ytadcpdpcpecooaa.Pk Go.Proofs.Ytadcpdpcpecooaa.Re

theorem pack_all {a b : C} (fa : fineC a = true) (fb : fineC b = true) (oa : OkC a) (ob : OkC b) : decide (packB a = packB b) = decide (a = b) ∧ (packB a).size = (if a.undo then 9 else 44) ∧ (a.undo = false → (packB a).extract 5 44 = encB a.e) ∧ (a.undo = false → goodE a.e = true) := by
  unfold packB
  rw [if_pos fa, if_pos fb]
  have hg : a.undo = false → goodE a.e = true := fun hu => by
    unfold fineC at fa
    rw [hu] at fa
    simp only [Bool.false_eq_true, if_false, Bool.and_eq_true] at fa
    exact fa.2.1
  refine ⟨decide_eq_decide.2 (pack_one fa fb oa ob), pack_size a, fun hu => ?_, hg⟩
  unfold encB
  rw [if_pos (hg hu)]
  exact pack_tail a hu
theorem enc_size {e : E} (hg : goodE e = true) : (encB e).size = 39 := by
  unfold encB
  rw [if_pos hg]
  unfold encS
  rw [strOfNums_size, bytesE_len]
theorem beq_list (s t : ByteArray) : (s.toList == t.toList) = decide (s = t) := by
  rw [Lib.toList_data, Lib.toList_data, Bool.eq_iff_iff]
  simp only [beq_iff_eq, decide_eq_true_eq]
  exact ⟨fun h => ByteArray.ext (Array.ext' h), fun h => by rw [h]⟩
set_option maxRecDepth 20000 in
set_option maxHeartbeats 8000000 in
theorem sizes_walk (a b : C) (w : World) (oa : OkC a) (ob : OkC b) :
    Calls Try.prog 3 #[a.v, b.v] w fun r w' => r = .returned (.bool true) ∧ Below w.heap.size w w' := by
  obtain ⟨u, ak, ae, af⟩ := a
  obtain ⟨B1, B2, HB⟩ := two_cboxes ⟨u, ak, ae, af⟩ b w
  have HB := Lib.hid HB
  have HK1 := Lib.hid B1
  have HK2 := Lib.hid B2
  clear B1 B2
  have HA := Lib.hid (fun W => pack_calls ⟨u, ak, ae, af⟩ W oa)
  have HBB := Lib.hid (fun W => pack_calls b W ob)
  have HC := Lib.hid (fun W => kcmd_calls ⟨u, ak, ae, af⟩ b W)
  have HE := Lib.hid (fun W => enc_calls ae W oa.e)
  have HAll := Lib.hid (fun (fa : fineC ⟨u, ak, ae, af⟩ = true) (fb : fineC b = true) => pack_all fa fb oa ob)
  have HSz := Lib.hid (fun (hg : goodE ae = true) => enc_size hg)
  have HX := Lib.hid (show packX ⟨u, ak, ae, af⟩ = (if fineC ⟨u, ak, ae, af⟩ then 0 else 11) ∧ packX b = (if fineC b then 0 else 11) ∧ encX ae = (if goodE ae then 0 else 11) from ⟨rfl, rfl, rfl⟩)
  generalize packB ⟨u, ak, ae, af⟩ = sA at *
  generalize packB b = sB at *
  generalize encB ae = sE at *
  generalize packX ⟨u, ak, ae, af⟩ = xA at *
  generalize packX b = xB at *
  generalize encX ae = xE at *
  generalize fineC ⟨u, ak, ae, af⟩ = fa at *
  generalize fineC b = fb at *
  generalize goodE ae = ge at *
  generalize hq : decide (⟨u, ak, ae, af⟩ = b) = q at *
  clear hq
  go_enter Try.func3, Try.ntmps3
  go_upto_region 1 with fail
  generalize (w.alloc (.cells (⟨u, ak, ae, af⟩ : C).cells 27)).alloc (.cells b.cells 27) = W1 at *
  obtain ⟨k0, k1, k2, k3, k4, k5, k6, k7, k8, k9, k10, k11, k12, k13⟩ := cx_of HK1.out
  go_wp2_with fail
  refine (HA.out _).mono ?_
  rintro r w2 ⟨rfl, b2⟩
  have HB2 := Lib.hid (HB.out.trans (b2.mono HB.out.size))
  have HK3 := Lib.hid (HK1.out.below b2)
  have HK4 := Lib.hid (HK2.out.below b2)
  clear b2 k0 k1 k2 k3 k4 k5 k6 k7 k8 k9 k10 k11 k12 k13
  obtain ⟨j0, j1, j2, j3, j4, j5, j6, j7, j8, j9, j10, j11, j12, j13⟩ := cx_of HK4.out
  go_wp2_with fail
  refine (HBB.out _).mono ?_
  rintro r w3 ⟨rfl, b3⟩
  have HB3 := Lib.hid (HB2.out.trans (b3.mono HB2.out.size))
  have HK5 := Lib.hid (HK3.out.below b3)
  have HK6 := Lib.hid (HK4.out.below b3)
  clear b3 j0 j1 j2 j3 j4 j5 j6 j7 j8 j9 j10 j11 j12 j13
  obtain ⟨hxa, hxb, hxe⟩ := HX.out
  cases fa with
  | false =>
    obtain rfl : xA = 11 := hxa
    clear hxb hxe HX
    go_wp2_with fail
    refine (wakes_calls _).mono ?_
    rintro r wa ⟨rfl, ba⟩
    have HBa := Lib.hid (HB3.out.trans (ba.mono HB3.out.size))
    clear ba
    go_wp2_with fail
    go_ret
    exact ⟨rfl, HBa.out⟩
  | true =>
    cases fb with
    | false =>
      obtain rfl : xA = 0 := hxa
      obtain rfl : xB = 11 := hxb
      clear hxe HX
      go_wp2_with fail
      refine (wakes_calls _).mono ?_
      rintro r wa ⟨rfl, ba⟩
      have HBa := Lib.hid (HB3.out.trans (ba.mono HB3.out.size))
      clear ba
      go_wp2_with fail
      go_ret
      exact ⟨rfl, HBa.out⟩
    | true =>
      obtain rfl : xA = 0 := hxa
      obtain rfl : xB = 0 := hxb
      have HXe := Lib.hid hxe
      clear hxe HX
      obtain ⟨hone, hsize, htail, hgood⟩ := HAll.out rfl rfl
      have hone2 := (beq_list sA sB).trans hone
      have HTail := Lib.hid htail
      have HGood := Lib.hid hgood
      clear hone htail hgood oa ob
      obtain ⟨k0, k1, k2, k3, k4, k5, k6, k7, k8, k9, k10, k11, k12, k13⟩ := cx_of HK5.out
      obtain ⟨j0, j1, j2, j3, j4, j5, j6, j7, j8, j9, j10, j11, j12, j13⟩ := cx_of HK6.out
      cases u with
      | true =>
        simp only [if_true] at hsize
        go_wp2_with fail
        refine (HC.out _).mono ?_
        rintro r w4 ⟨rfl, b4⟩
        have HB4 := Lib.hid (HB3.out.trans (b4.mono HB3.out.size))
        have HK7 := Lib.hid (HK5.out.below b4)
        clear b4 k0 k1 k2 k3 k4 k5 k6 k7 k8 k9 k10 k11 k12 k13 j0 j1 j2 j3 j4 j5 j6 j7 j8 j9 j10 j11 j12 j13
        obtain ⟨k0, k1, k2, k3, k4, k5, k6, k7, k8, k9, k10, k11, k12, k13⟩ := cx_of HK7.out
        cases q <;>
          (go_wp2_with fail
           refine (wakes_calls _).mono ?_
           rintro r wa ⟨rfl, ba⟩
           have HBa := Lib.hid (HB4.out.trans (ba.mono HB4.out.size))
           clear ba
           go_wp2_with fail
           go_ret
           exact ⟨rfl, HBa.out⟩)
      | false =>
        simp only [Bool.false_eq_true, if_false] at hsize
        go_wp2_with fail
        refine (HC.out _).mono ?_
        rintro r w4 ⟨rfl, b4⟩
        have HB4 := Lib.hid (HB3.out.trans (b4.mono HB3.out.size))
        have HK7 := Lib.hid (HK5.out.below b4)
        clear b4 k0 k1 k2 k3 k4 k5 k6 k7 k8 k9 k10 k11 k12 k13 j0 j1 j2 j3 j4 j5 j6 j7 j8 j9 j10 j11 j12 j13
        obtain ⟨k0, k1, k2, k3, k4, k5, k6, k7, k8, k9, k10, k11, k12, k13⟩ := cx_of HK7.out
        obtain rfl : ge = true := HGood.out (by trivial)
        obtain rfl : xE = 0 := HXe.out
        have ht := HTail.out (by trivial)
        subst ht
        have h39 := HSz.out rfl
        have h5 : ((sA.extract 5 44).toList == (sA.extract 5 44).toList) = true := by simp
        have HO2 := Lib.hid hone2
        cases q with
        | false =>
          go_wp2_with fail
          refine (HE.out _).mono ?_
          rintro r w5 ⟨rfl, b5⟩
          have HB5 := Lib.hid (HB4.out.trans (b5.mono HB4.out.size))
          clear b5 hone2
          go_wp2_with fail
          refine (wakes_calls _).mono ?_
          rintro r wa ⟨rfl, ba⟩
          have HBa := Lib.hid (HB5.out.trans (ba.mono HB5.out.size))
          clear ba
          go_wp2_with fail
          go_ret
          exact ⟨rfl, HBa.out⟩
        | true =>
          go_wp2_with fail
          refine (HE.out _).mono ?_
          rintro r w5 ⟨rfl, b5⟩
          have HB5 := Lib.hid (HB4.out.trans (b5.mono HB4.out.size))
          clear b5 hone2
          go_wp2_with fail
          refine (wakes_calls _).mono ?_
          rintro r wa ⟨rfl, ba⟩
          have HBa := Lib.hid (HB5.out.trans (ba.mono HB5.out.size))
          clear ba
          go_wp2_with fail
          go_ret
          exact ⟨rfl, HBa.out⟩
end Go.Proofs.Ytadcpdpcpecooaa.Ev
