/- event.Pack. -/
import Derived.Test.YtadcpdpcpecooaaE16
namespace Go.Proofs.Ytadcpdpcpecooaa.Ev
open Go.RowKit Go.Proofs.Ytadcpdpcpecooaa.Pk Go.Proofs.Ytadcpdpcpecooaa.Re

/-- What a command's value may be. -/
structure OkC (c : C) : Prop where
  e : Ok c.e
  key : 0 ≤ c.key ∧ c.key < 256 ^ 4
  of : 0 ≤ c.of ∧ c.of < 256 ^ 4
def bytesC (c : C) : List Int := bytesOf (flagI c.undo) 1 ++ (bytesOf c.key 4 ++ (if c.undo then bytesOf c.of 4 else bytesE c.e))
def packB (c : C) : ByteArray := if fineC c then strOfNums (bytesC c) else ByteArray.empty
def packX (c : C) : Int := if fineC c then 0 else 11
theorem boxC_same {w w1 : World} {base g b : Nat} {vb vb1 : Value} {c : C} (hF : Fr w w1 base g vb vb1) (hb : Blk w b 27 c.cells) (hg : b ≠ g) (ho : vb.ownBlock ≠ some b) : Blk w1 b 27 c.cells :=
  hb.same (hF.same b hb.lt hg ho)
theorem fine_good (c : C) (h : fineC c = true) (hu : c.undo = false) : goodE c.e = true := by
  unfold fineC at h
  rw [hu] at h
  simp at h
  exact h.2.1
set_option maxRecDepth 20000 in
set_option maxHeartbeats 8000000 in
theorem pack_calls (c : C) (w : World) (ho : OkC c) : Calls Try.prog 8 #[c.v] w fun r w' => r = .returned (.tuple #[.string (packB c), .int .i64 (packX c)]) ∧ Below w.heap.size w w' := by
  have hb := Blk.new w 27 c.cells
  have HB := Lib.hid ((Below.refl w.heap.size w).alloc (Nat.le_refl _) (.cells c.cells 27))
  have HBk := Lib.hid hb
  have HG := Lib.hid (fun W => fine_calls c W ho.e.rate ho.e.income)
  unfold packB packX
  obtain ⟨gb, hgb⟩ : ∃ b, fineC c = b := ⟨_, rfl⟩
  rw [hgb] at HG ⊢
  obtain ⟨k0, k1, k2, k3, k4, k5, k6, k7, k8, k9, k10, k11, k12, k13⟩ := cx_of hb
  clear hb
  go_enter Try.func8, Try.ntmps8
  go_upto_region 1 with fail
  generalize w.alloc (.cells c.cells 27) = W1 at *
  go_wp2_with fail
  refine (HG.out _).mono ?_
  rintro r w2 ⟨rfl, b2⟩
  have HB2 := Lib.hid (HB.out.trans (b2.mono HB.out.size))
  have HK2 := Lib.hid (HBk.out.below b2)
  clear b2 k0 k1 k2 k3 k4 k5 k6 k7 k8 k9 k10 k11 k12 k13
  cases gb with
  | false =>
    go_wp2_with fail
    go_ret2
    exact ⟨rfl, HB2.out⟩
  | true =>
    have HPn := Lib.hid (pk_new w2)
    have hx := (Below.refl w2.heap.size w2).alloc (Nat.le_refl _) (.cells #[.slice none 0 0, .int .i64 0] 55)
    have HKn := Lib.hid (HK2.out.below hx)
    have HBn := Lib.hid (HB2.out.trans (hx.mono HB2.out.size))
    have HSn : Hid (w2.heap.size ≤ (w2.alloc (.cells #[.slice none 0 0, .int .i64 0] 55)).heap.size) := Lib.hid (by simp)
    have HSw : Hid (w.heap.size ≤ w2.heap.size) := Lib.hid HB2.out.size
    have hne : w.heap.size ≠ w2.heap.size := Nat.ne_of_lt HK2.out.lt
    have HNb := Lib.hid (fun b W => number_calls b W)
    clear hx
    go_upto_region 4 with fail
    generalize w2.alloc (.cells #[.slice none 0 0, .int .i64 0] 55) = w3 at *
    generalize w2.heap.size = g at *
    have hown : (Value.slice none 0 0).ownBlock ≠ some w.heap.size := by simp [Value.ownBlock]
    have HF0 := Lib.hid (Fr.refl w3 g g (.slice none 0 0))
    obtain ⟨k0, k1, k2, k3, k4, k5, k6, k7, k8, k9, k10, k11, k12, k13⟩ := cx_of HKn.out
    go_wp2_with fail
    refine (HNb.out _ _).mono ?_
    rintro r wq ⟨rfl, hwq⟩
    have hwq2 := hwq.symm
    clear hwq
    subst hwq2
    go_wp2_with fail
    refine (num_fit g g _ [] (flagI c.undo) 1 w3 HPn.out HSn.out (by decide) (flag_range _) (by decide) (by decide)).mono ?_
    rintro r w4 ⟨rfl, vb4, hp, hfr⟩
    have HP4 := Lib.hid hp
    have HS4 := Lib.hid (Nat.le_trans HSn.out hfr.below.size)
    have HF4 := Lib.hid (HF0.out.trans hfr)
    clear hp hfr k0 k1 k2 k3 k4 k5 k6 k7 k8 k9 k10 k11 k12 k13 HPn HF0
    obtain ⟨k0, k1, k2, k3, k4, k5, k6, k7, k8, k9, k10, k11, k12, k13⟩ := cx_of (boxC_same HF4.out HKn.out hne hown)
    have u1 : IntKind.u64.wrap c.key = c.key := u64_fit ho.key (by decide)
    have u2 : IntKind.u64.wrap c.of = c.of := u64_fit ho.of (by decide)
    go_wp2_with fail
    refine (num_fit g g vb4 _ c.key 4 w4 HP4.out HS4.out (by decide) ho.key (by decide) (by simp [bytesOf_length])).mono ?_
    rintro r w5 ⟨rfl, vb5, hp, hfr⟩
    have HP5 := Lib.hid hp
    have HS5 := Lib.hid (Nat.le_trans HS4.out hfr.below.size)
    have HF5 := Lib.hid (HF4.out.trans hfr)
    clear hp hfr k0 k1 k2 k3 k4 k5 k6 k7 k8 k9 k10 k11 k12 k13 HP4 HS4 HF4
    obtain ⟨k0, k1, k2, k3, k4, k5, k6, k7, k8, k9, k10, k11, k12, k13⟩ := cx_of (boxC_same HF5.out HKn.out hne hown)
    obtain ⟨u, hu⟩ : ∃ u, c.undo = u := ⟨_, rfl⟩
    rw [hu] at k0
    cases u with
    | true =>
      have hbc : bytesC c = bytesOf (flagI c.undo) 1 ++ (bytesOf c.key 4 ++ bytesOf c.of 4) := by unfold bytesC; rw [hu]; rfl
      have Hbc := Lib.hid hbc
      clear hbc
      go_wp2_with fail
      refine (num_fit g g vb5 _ c.of 4 w5 HP5.out HS5.out (by decide) ho.of (by decide) (by simp [bytesOf_length])).mono ?_
      rintro r w6 ⟨rfl, vb6, hp, hfr⟩
      have HP6 := Lib.hid hp
      have HF6 := Lib.hid (HF5.out.trans hfr)
      clear hp hfr k0 k1 k2 k3 k4 k5 k6 k7 k8 k9 k10 k11 k12 k13
      go_wp2_with fail
      refine (Done_calls g g vb6 _ 0 w6 HP6.out).mono ?_
      rintro r w7 ⟨rfl, b7⟩
      have HB7 := Lib.hid ((HBn.out.trans (HF6.out.below.mono HSw.out)).trans (b7.mono (HBn.out.trans (HF6.out.below.mono HSw.out)).size))
      clear b7
      go_wp2_with fail
      go_ret2
      refine ⟨?_, HB7.out⟩
      rw [Hbc.out, hu]
      simp only [doneS]
      rfl
    | false =>
      have hbc : bytesC c = bytesOf (flagI c.undo) 1 ++ (bytesOf c.key 4 ++ bytesE c.e) := by unfold bytesC; rw [hu]; rfl
      have Hbc := Lib.hid hbc
      have HFt := Lib.hid (fits_of c.e (fine_good c hgb hu) ho.e)
      clear hbc
      go_wp2_with fail
      refine (put_calls g g vb5 _ c.e w5 HP5.out HS5.out (by simp [bytesOf_length]) HFt.out).mono ?_
      rintro r w6 ⟨rfl, vb6, hp, hfr⟩
      have HP6 := Lib.hid hp
      have HF6 := Lib.hid (HF5.out.trans hfr)
      clear hp hfr k0 k1 k2 k3 k4 k5 k6 k7 k8 k9 k10 k11 k12 k13
      go_wp2_with fail
      refine (Done_calls g g vb6 _ 0 w6 HP6.out).mono ?_
      rintro r w7 ⟨rfl, b7⟩
      have HB7 := Lib.hid ((HBn.out.trans (HF6.out.below.mono HSw.out)).trans (b7.mono (HBn.out.trans (HF6.out.below.mono HSw.out)).size))
      clear b7
      go_wp2_with fail
      go_ret2
      refine ⟨?_, HB7.out⟩
      rw [Hbc.out, hu]
      simp only [doneS]
      rfl
end Go.Proofs.Ytadcpdpcpecooaa.Ev
