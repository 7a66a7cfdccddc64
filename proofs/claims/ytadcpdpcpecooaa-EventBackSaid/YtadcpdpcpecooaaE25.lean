/- The law EventBack. -/
import Derived.Test.YtadcpdpcpecooaaE24
import Derived.Test.YtadcpdpcpecooaaE23
namespace Go.Proofs.Ytadcpdpcpecooaa.Ev
open Go.RowKit Go.Proofs.Ytadcpdpcpecooaa.Pk Go.Proofs.Ytadcpdpcpecooaa.Re

theorem enc_dec (e : E) (ho : Ok e) : (encB e).size ≤ 9223372036854775807 ∧ (goodE e = true → decE (encB e) = e ∧ decX (encB e) = 0) := by
  unfold encB
  by_cases hg : goodE e = true
  · rw [if_pos hg]
    refine ⟨by unfold encS; rw [strOfNums_size, bytesE_len]; decide, fun _ => ?_⟩
    obtain ⟨h1, h2⟩ := dec_back hg ho
    exact ⟨by unfold decE; rw [if_pos h1, h2], by unfold decX; rw [if_pos h1]⟩
  · rw [if_neg hg]
    exact ⟨by decide, fun h => absurd h hg⟩
theorem dec_enc (s : ByteArray) : Ok (decE s) ∧ (decB s = true → encB (decE s) = s ∧ encX (decE s) = 0) := by
  have hz : Ok zeroE := ⟨by decide, by decide, by decide⟩
  unfold decE
  by_cases hd : decB s = true
  · rw [if_pos hd]
    refine ⟨get_ok _, fun _ => ?_⟩
    obtain ⟨h1, h2⟩ := enc_back hd
    exact ⟨by unfold encB; rw [if_pos h1, h2], by unfold encX; rw [if_pos h1]⟩
  · rw [if_neg hd]
    exact ⟨hz, fun h => absurd h hd⟩
theorem pack_open (c : C) (ho : OkC c) : (packB c).size ≤ 9223372036854775807 ∧ (fineC c = true → openC (packB c) = c ∧ openX (packB c) = 0) := by
  unfold packB
  by_cases hf : fineC c = true
  · rw [if_pos hf]
    refine ⟨by rw [pack_size]; split <;> decide, fun _ => ?_⟩
    obtain ⟨h1, h2⟩ := open_back hf ho
    exact ⟨by unfold openC; rw [if_pos h1, h2], by unfold openX; rw [if_pos h1]⟩
  · rw [if_neg hf]
    exact ⟨by decide, fun h => absurd h hf⟩
theorem open_pack (s : ByteArray) : OkC (openC s) ∧ (openB s = true → packB (openC s) = s ∧ packX (openC s) = 0) := by
  have hz : OkC zeroC := ⟨⟨by decide, by decide, by decide⟩, by decide, by decide⟩
  unfold openC
  by_cases hd : openB s = true
  · rw [if_pos hd]
    refine ⟨opC_ok _, fun _ => ?_⟩
    obtain ⟨h1, h2⟩ := pack_back hd
    exact ⟨by unfold packB; rw [if_pos h1, h2], by unfold packX; rw [if_pos h1]⟩
  · rw [if_neg hd]
    exact ⟨hz, fun h => absurd h hd⟩
set_option maxRecDepth 20000 in
set_option maxHeartbeats 8000000 in
theorem back_walk (c : C) (s : ByteArray) (w : World) (oc : OkC c) :
    Calls Try.prog 6 #[c.v, .string s] w fun r w' => r = .returned (.bool true) ∧ Below w.heap.size w w' := by
  have hst := fun (a : Addr) (n : Nat) (W : World) => run_store Try.prog W a (.float .f64 n) .plain rfl
  have HK1 := Lib.hid (Blk.new w 27 c.cells)
  have HB1 := Lib.hid ((Below.refl w.heap.size w).alloc (Nat.le_refl _) (.cells c.cells 27))
  have HEn := Lib.hid (fun W => enc_calls c.e W oc.e)
  have HEd := Lib.hid (enc_dec c.e oc.e)
  have HPk := Lib.hid (fun W => pack_calls c W oc)
  have HPo := Lib.hid (pack_open c oc)
  have HDe := Lib.hid (dec_enc s)
  have HOp := Lib.hid (open_pack s)
  have HXe : Hid (encX c.e = if goodE c.e then 0 else 11) := Lib.hid rfl
  have HXp : Hid (packX c = if fineC c then 0 else 11) := Lib.hid rfl
  have HXd : Hid (decX s = if decB s then 0 else 11) := Lib.hid rfl
  have HXo : Hid (openX s = if openB s then 0 else 11) := Lib.hid rfl
  generalize encX c.e = xe at *
  generalize packX c = xp at *
  generalize goodE c.e = ge at *
  generalize fineC c = gf at *
  generalize decB s = gd at *
  generalize openB s = go at *
  by_cases hlen : s.size ≤ 20000
  · have HDec := Lib.hid (fun W => dec_calls s W (by omega))
    have HOpen := Lib.hid (fun W => open_calls s W (by omega))
    go_enter Try.func6, Try.ntmps6
    go_upto_region 1 with fail
    generalize w.alloc (.cells c.cells 27) = W1 at *
    obtain ⟨k0, k1, k2, k3, k4, k5, k6, k7, k8, k9, k10, k11, k12, k13⟩ := cx_of HK1.out
    go_wp2_with fail
    refine (HEn.out _).mono ?_
    rintro r W2 ⟨rfl, b2⟩
    have HK2 := Lib.hid (HK1.out.below b2)
    have HB2 := Lib.hid (HB1.out.trans (b2.mono HB1.out.size))
    clear b2 k0 k1 k2 k3 k4 k5 k6 k7 k8 k9 k10 k11 k12 k13
    go_upto_if 32 with fail
    go_cut [4] from 33 to 47 (fun v W => v = .bool false ∧ Below w.heap.size w W ∧ Blk W w.heap.size 27 c.cells)
    case first =>
      cases ge with
      | false =>
        obtain rfl : xe = 11 := HXe.out
        clear HXe
        go_wp2_with fail
        go_meet
        exact ⟨rfl, HB2.out, HK2.out⟩
      | true =>
        obtain rfl : xe = 0 := HXe.out
        clear HXe
        have HD := Lib.hid (fun W => dec_calls (encB c.e) W HEd.out.1)
        rw [(HEd.out.2 rfl).1, (HEd.out.2 rfl).2] at HD
        have HKe := Lib.hid (fun W => kev_calls c.e c.e W)
        rw [show decide (c.e = c.e) = true by simp] at HKe
        go_wp2_with fail
        refine (HD.out _).mono ?_
        rintro r W3 ⟨rfl, b3⟩
        have HK3 := HK2.out.below b3
        have HB3 := HB2.out.trans (b3.mono HB2.out.size)
        have hal := (Below.refl W3.heap.size W3).alloc (Nat.le_refl _) (.cells c.e.cells 25)
        have HK4 := Lib.hid (HK3.below hal)
        have HB4 := Lib.hid (HB3.trans (hal.mono HB3.size))
        have HE4 := Lib.hid (Blk.new W3 25 c.e.cells)
        clear b3 HK3 HB3 hal
        go_upto_region 6 with fail
        generalize W3.alloc (.cells c.e.cells 25) = W4 at *
        generalize W3.heap.size = g4 at *
        obtain ⟨k0, k1, k2, k3, k4, k5, k6, k7, k8, k9, k10, k11, k12, k13⟩ := cx_of HK4.out
        obtain ⟨j0, j1, j2, j3, j4, j5, j6, j7, j8, j9, j10⟩ := bx_of HE4.out
        go_wp2_with fail
        refine (HKe.out _).mono ?_
        rintro r W5 ⟨rfl, b5⟩
        have HK5 := Lib.hid (HK4.out.below b5)
        have HB5 := Lib.hid (HB4.out.trans (b5.mono HB4.out.size))
        clear b5
        go_wp2_with fail
        go_meet
        exact ⟨rfl, HB5.out, HK5.out⟩
    case rest =>
      obtain ⟨rfl, hB, hK⟩ := hcut
      have HB1 := Lib.hid hB
      have HK1 := Lib.hid hK
      clear hB hK HB2 HK2 HEn HEd HXe
      obtain ⟨k0, k1, k2, k3, k4, k5, k6, k7, k8, k9, k10, k11, k12, k13⟩ := cx_of HK1.out
      go_wp2_with fail
      refine (HPk.out _).mono ?_
      rintro r W2 ⟨rfl, b2⟩
      have HK2 := Lib.hid (HK1.out.below b2)
      have HB2 := Lib.hid (HB1.out.trans (b2.mono HB1.out.size))
      clear b2 k0 k1 k2 k3 k4 k5 k6 k7 k8 k9 k10 k11 k12 k13
      go_upto_if 53 with fail
      go_cut [4] from 54 to 66 (fun v W => v = .bool false ∧ Below w.heap.size w W)
      case first =>
        cases gf with
        | false =>
          obtain rfl : xp = 11 := HXp.out
          clear HXp
          go_wp2_with fail
          go_meet
          exact ⟨rfl, HB2.out⟩
        | true =>
          obtain rfl : xp = 0 := HXp.out
          clear HXp
          have HD := Lib.hid (fun W => open_calls (packB c) W HPo.out.1)
          rw [(HPo.out.2 rfl).1, (HPo.out.2 rfl).2] at HD
          have HKe := Lib.hid (fun W => kcmd_calls c c W)
          rw [show decide (c = c) = true by simp] at HKe
          go_wp2_with fail
          refine (HD.out _).mono ?_
          rintro r W3 ⟨rfl, b3⟩
          have HK3 := HK2.out.below b3
          have HB3 := HB2.out.trans (b3.mono HB2.out.size)
          have hal := (Below.refl W3.heap.size W3).alloc (Nat.le_refl _) (.cells c.cells 27)
          have HK4 := Lib.hid (HK3.below hal)
          have HB4 := Lib.hid (HB3.trans (hal.mono HB3.size))
          have HE4 := Lib.hid (Blk.new W3 27 c.cells)
          clear b3 HK3 HB3 hal
          go_upto_region 11 with fail
          generalize W3.alloc (.cells c.cells 27) = W4 at *
          generalize W3.heap.size = g4 at *
          obtain ⟨k0, k1, k2, k3, k4, k5, k6, k7, k8, k9, k10, k11, k12, k13⟩ := cx_of HK4.out
          obtain ⟨j0, j1, j2, j3, j4, j5, j6, j7, j8, j9, j10, j11, j12, j13⟩ := cx_of HE4.out
          go_wp2_with fail
          refine (HKe.out _).mono ?_
          rintro r W5 ⟨rfl, b5⟩
          have HB5 := Lib.hid (HB4.out.trans (b5.mono HB4.out.size))
          clear b5
          go_wp2_with fail
          go_meet
          exact ⟨rfl, HB5.out⟩
      case rest =>
        obtain ⟨rfl, hB⟩ := hcut
        have HB1 := Lib.hid hB
        clear hB HB2 HK2 HPk HPo HXp
        go_wp2_with fail
        refine (HDec.out _).mono ?_
        rintro r W3 ⟨rfl, b3⟩
        have HB3 := HB1.out.trans (b3.mono HB1.out.size)
        have hal := (Below.refl W3.heap.size W3).alloc (Nat.le_refl _) (.cells (decE s).cells 25)
        have HB4 := Lib.hid (HB3.trans (hal.mono HB3.size))
        have HE4 := Lib.hid (Blk.new W3 25 (decE s).cells)
        clear b3 HB3 hal
        generalize hE0 : decE s = E0 at *
        clear hE0
        generalize decX s = xd at *
        go_upto_if 73 with fail
        generalize W3.alloc (.cells E0.cells 25) = W4 at *
        generalize W3.heap.size = g4 at *
        go_cut [4] from 74 to 85 (fun v W => v = .bool false ∧ Below w.heap.size w W)
        case first =>
          cases gd with
          | false =>
            obtain rfl : xd = 11 := HXd.out
            clear HXd
            go_wp2_with fail
            go_meet
            exact ⟨rfl, HB4.out⟩
          | true =>
            obtain rfl : xd = 0 := HXd.out
            clear HXd
            have HD := Lib.hid (fun W => enc_calls E0 W HDe.out.1)
            rw [(HDe.out.2 rfl).1, (HDe.out.2 rfl).2] at HD
            have hs := beq_list s s
            rw [show decide (s = s) = true by simp] at hs
            obtain ⟨j0, j1, j2, j3, j4, j5, j6, j7, j8, j9, j10⟩ := bx_of HE4.out
            go_wp2_with fail
            refine (HD.out _).mono ?_
            rintro r W5 ⟨rfl, b5⟩
            have HB5 := Lib.hid (HB4.out.trans (b5.mono HB4.out.size))
            clear b5
            go_wp2_with fail
            go_meet
            exact ⟨rfl, HB5.out⟩
        case rest =>
          obtain ⟨rfl, hB⟩ := hcut
          have HB1 := Lib.hid hB
          clear hB HB4 HDec HDe HXd
          go_wp2_with fail
          refine (HOpen.out _).mono ?_
          rintro r W3 ⟨rfl, b3⟩
          have HB3 := HB1.out.trans (b3.mono HB1.out.size)
          have hal := (Below.refl W3.heap.size W3).alloc (Nat.le_refl _) (.cells (openC s).cells 27)
          have HB4 := Lib.hid (HB3.trans (hal.mono HB3.size))
          have HE4 := Lib.hid (Blk.new W3 27 (openC s).cells)
          clear b3 HB3 hal
          generalize hC0 : openC s = C0 at *
          clear hC0
          generalize openX s = xd at *
          go_upto_if 92 with fail
          generalize W3.alloc (.cells C0.cells 27) = W4 at *
          generalize W3.heap.size = g4 at *
          go_cut [4] from 93 to 104 (fun v W => v = .bool false ∧ Below w.heap.size w W)
          case first =>
            cases go with
            | false =>
              obtain rfl : xd = 11 := HXo.out
              clear HXo
              go_wp2_with fail
              go_meet
              exact ⟨rfl, HB4.out⟩
            | true =>
              obtain rfl : xd = 0 := HXo.out
              clear HXo
              have HD := Lib.hid (fun W => pack_calls C0 W HOp.out.1)
              rw [(HOp.out.2 rfl).1, (HOp.out.2 rfl).2] at HD
              have hs := beq_list s s
              rw [show decide (s = s) = true by simp] at hs
              obtain ⟨j0, j1, j2, j3, j4, j5, j6, j7, j8, j9, j10, j11, j12, j13⟩ := cx_of HE4.out
              go_wp2_with fail
              refine (HD.out _).mono ?_
              rintro r W5 ⟨rfl, b5⟩
              have HB5 := Lib.hid (HB4.out.trans (b5.mono HB4.out.size))
              clear b5
              go_wp2_with fail
              go_meet
              exact ⟨rfl, HB5.out⟩
          case rest =>
            obtain ⟨rfl, hB⟩ := hcut
            have HB1 := Lib.hid hB
            go_wp2_with fail
            refine (wakes_calls _).mono ?_
            rintro r wa ⟨rfl, ba⟩
            have HBa := Lib.hid (HB1.out.trans (ba.mono HB1.out.size))
            clear ba
            go_wp2_with fail
            go_ret
            exact ⟨rfl, HBa.out⟩
  · have h1 : (20000 : Int) < (s.size : Int) := by omega
    clear hlen
    go_enter Try.func6, Try.ntmps6
    go_upto_region 1 with fail
    generalize w.alloc (.cells c.cells 27) = W1 at *
    go_wp2_with fail
    refine (wakes_calls _).mono ?_
    rintro r wa ⟨rfl, ba⟩
    have HBa := Lib.hid (HB1.out.trans (ba.mono HB1.out.size))
    clear ba
    go_wp2_with fail
    go_ret
    exact ⟨rfl, HBa.out⟩
end Go.Proofs.Ytadcpdpcpecooaa.Ev
