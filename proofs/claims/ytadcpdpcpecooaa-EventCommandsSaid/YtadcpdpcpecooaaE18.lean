/- wakes of the laws over events. -/
import Derived.Test.YtadcpdpcpecooaaE17
import Derived.Test.YtadcpdpcpecooaaE12
import Derived.Test.YtadcpdpcpecooaaE3
namespace Go.Proofs.Ytadcpdpcpecooaa.Ev
open Go.RowKit Go.Proofs.Ytadcpdpcpecooaa.Pk Go.Proofs.Ytadcpdpcpecooaa.Re

abbrev e0 : E := ⟨3, 5, 7, 0, 5, 0, 0, false, 0, 0, 0⟩
abbrev c0 : C := ⟨true, 9, ⟨0, 0, 0, 0, 0, 0, 0, false, 0, 0, 0⟩, 7⟩
theorem good_e0 : goodE e0 = true := by kernel_rfl
theorem fine_c0 : fineC c0 = true := by kernel_rfl
theorem enc_e0 : encB e0 = encS e0 ∧ encX e0 = 0 := by unfold encB encX; rw [good_e0]; exact ⟨rfl, rfl⟩
theorem size_e0 : (encS e0).size = 39 := by unfold encS; rw [strOfNums_size]; rfl
theorem dec_e0 : decE (encS e0) = e0 ∧ decX (encS e0) = 0 := ⟨by kernel_rfl, by kernel_rfl⟩
theorem pack_c0 : packB c0 = ⟨#[1, 9, 0, 0, 0, 7, 0, 0, 0]⟩ ∧ packX c0 = 0 := ⟨by kernel_rfl, by kernel_rfl⟩
theorem ok_e0 : Ok e0 := ⟨by decide, by decide, by decide⟩
theorem ok_c0 : OkC c0 := ⟨⟨by decide, by decide, by decide⟩, by decide, by decide⟩
set_option maxRecDepth 20000 in
set_option maxHeartbeats 8000000 in
theorem wakes_calls (w : World) : Calls Try.prog 9 #[] w fun r w' => r = .returned (.bool true) ∧ Below w.heap.size w w' := by
  have hst := fun (a : Addr) (n : Nat) (W : World) => run_store Try.prog W a (.float .f64 n) .plain rfl
  have HE := Lib.hid (fun W => enc_calls e0 W ok_e0)
  have HD := Lib.hid (fun W => dec_calls (encS e0) W (by rw [size_e0]; decide))
  have HP := Lib.hid (fun W => pack_calls c0 W ok_c0)
  have HK := Lib.hid (fun W => kev_calls e0 e0 W)
  have HG := Lib.hid (fun W => good_calls e0 W (by decide) (by decide))
  rw [enc_e0.1, enc_e0.2] at HE
  rw [dec_e0.1, dec_e0.2] at HD
  rw [pack_c0.1, pack_c0.2] at HP
  rw [good_e0] at HG
  rw [show decide (e0 = e0) = true by decide] at HK
  have hsz := size_e0
  generalize encS e0 = s at *
  have HB1 := Lib.hid (Blk.new w 25 e0.cells)
  have HL1 := Lib.hid ((Below.refl w.heap.size w).alloc (Nat.le_refl _) (.cells e0.cells 25))
  go_enter Try.func9, Try.ntmps9
  go_upto_region 2 with fail
  generalize w.alloc (.cells e0.cells 25) = W1 at *
  obtain ⟨k0, k1, k2, k3, k4, k5, k6, k7, k8, k9, k10⟩ := bx_of HB1.out
  go_wp2_with fail
  refine (HE.out _).mono ?_
  rintro r w2 ⟨rfl, b2⟩
  have HL2 := Lib.hid (HL1.out.trans (b2.mono HL1.out.size))
  have HB2 := Lib.hid (HB1.out.below b2)
  clear b2 k0 k1 k2 k3 k4 k5 k6 k7 k8 k9 k10
  go_wp2_with fail
  refine (HD.out _).mono ?_
  rintro r w3 ⟨rfl, b3⟩
  have HL3 := Lib.hid (HL2.out.trans (b3.mono HL2.out.size))
  have HB3 := Lib.hid (HB2.out.below b3)
  have hx := (Below.refl w3.heap.size w3).alloc (Nat.le_refl _) (.cells e0.cells 25)
  have HC4 := Lib.hid (Blk.new w3 25 e0.cells)
  have HB4 := Lib.hid (HB3.out.below hx)
  have HL4 := Lib.hid (HL3.out.trans (hx.mono HL3.out.size))
  clear b3 hx
  go_upto_region 4 with fail
  generalize w3.alloc (.cells e0.cells 25) = w4 at *
  generalize w3.heap.size = g4 at *
  go_wp2_with fail
  refine (HP.out _).mono ?_
  rintro r w5 ⟨rfl, b5⟩
  have HL5 := Lib.hid (HL4.out.trans (b5.mono HL4.out.size))
  have HB5 := Lib.hid (HB4.out.below b5)
  have HC5 := Lib.hid (HC4.out.below b5)
  clear b5
  obtain ⟨k0, k1, k2, k3, k4, k5, k6, k7, k8, k9, k10⟩ := bx_of HB5.out
  obtain ⟨j0, j1, j2, j3, j4, j5, j6, j7, j8, j9, j10⟩ := bx_of HC5.out
  go_wp2_with fail
  refine (HK.out _).mono ?_
  rintro r w6 ⟨rfl, b6⟩
  have HL6 := Lib.hid (HL5.out.trans (b6.mono HL5.out.size))
  have HB6 := Lib.hid (HB5.out.below b6)
  clear b6 k0 k1 k2 k3 k4 k5 k6 k7 k8 k9 k10 j0 j1 j2 j3 j4 j5 j6 j7 j8 j9 j10
  obtain ⟨k0, k1, k2, k3, k4, k5, k6, k7, k8, k9, k10⟩ := bx_of HB6.out
  go_wp2_with fail
  refine (HG.out _).mono ?_
  rintro r w7 ⟨rfl, b7⟩
  have HL7 := Lib.hid (HL6.out.trans (b7.mono HL6.out.size))
  clear b7
  go_wp2_with fail
  go_ret
  exact ⟨rfl, HL7.out⟩
end Go.Proofs.Ytadcpdpcpecooaa.Ev
