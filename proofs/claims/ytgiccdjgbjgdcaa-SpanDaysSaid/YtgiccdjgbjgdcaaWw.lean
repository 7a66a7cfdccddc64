/- wakes of the laws over stretches: true. -/
import Derived.Test.YtgiccdjgbjgdcaaWv
namespace Go.Proofs.Ytgiccdjgbjgdcaa.Sp
open Go.RowKit Go.Proofs.YtgiccdjgbjgdcaaW.PrintWords PSpanTells

set_option maxHeartbeats 1000000 in
theorem wakes_calls (w : World) : Calls Try.prog 8 #[] w fun e w' => e = .returned (.bool true) ∧ Below w.heap.size w w' := by
  have H1 := Lib.hid (Add_rd _ _ 5 9 _ (one_row w 0 5))
  rw [wk1] at H1
  have b0 : Below w.heap.size w (w.alloc (.cells #[.int .i64 0, .int .i64 5] 51)) := (Below.refl _ _).alloc (Nat.le_refl _) _
  go_enter Try.func8, Try.ntmps8
  go_wp2_with fail
  refine H1.out.mono ?_
  rintro e w1 ⟨v1, rfl, r1, b1⟩
  have HB1 := Lib.hid (b0.trans (b1.mono b0.size))
  have HC := Lib.hid (Cut_rd _ _ 2 4 _ r1)
  have hr1 := r1
  obtain ⟨A1, c1, rfl, hc1, k1⟩ := hr1
  obtain ⟨ad1, rfl, _, p1⟩ := head_cells k1
  have HP1 := Lib.hid k1
  rw [wk2] at HC
  clear b1 b0 r1 H1 k1 p1
  go_wp2_with fail
  refine HC.out.mono ?_
  rintro e w2 ⟨v2, rfl, r2, b2⟩
  have HB2 := Lib.hid (HB1.out.trans (b2.mono HB1.out.size))
  have hba : Below w2.heap.size w2 (w2.alloc (.cells #[.int .i64 1, .int .i64 6] 51)) := (Below.refl _ _).alloc (Nat.le_refl _) _
  have HD := Lib.hid (Both_rd _ _ _ _ _ (r2.below hba) (one_row w2 1 6))
  rw [wk3] at HD
  have HBa := Lib.hid (HB2.out.trans (hba.mono HB2.out.size))
  have HK2 := Lib.hid (Kd.C_below HP1.out (b2.trans (hba.mono b2.size)))
  obtain ⟨A2, c2, rfl, hc2, k2⟩ := r2
  clear b2 hba HC k2
  go_wp2_with fail
  refine HD.out.mono ?_
  rintro e w3 ⟨v3, rfl, r3, b3⟩
  have HB3 := Lib.hid (HBa.out.trans (b3.mono (by have := HB2.out.size; simpa using Nat.le_succ_of_le this)))
  have hk1 := Kd.C_below HK2.out b3
  obtain ⟨ad1', e1, _, p1⟩ := head_cells hk1
  cases e1
  have HR3 := Lib.hid r3
  have HDay := Lib.hid (Days_rd _ _ _ r3)
  rw [wk4] at HDay
  have HH := Lib.hid (fun w' (hb : Below w3.heap.size w3 w') => Has_rd v3 _ 5 w' (r3.below hb))
  rw [wk5] at HH
  have HN := Lib.hid (fun w' (hb : Below w3.heap.size w3 w') => Has_rd v3 _ 3 w' (r3.below hb))
  rw [wk6] at HN
  obtain ⟨A3, c3, rfl, hc3, k3⟩ := r3
  clear b3 hk1 HD HBa HK2 k3
  go_wp2_with fail
  refine HDay.out.mono ?_
  rintro e w4 ⟨rfl, b4⟩
  have HB4 := Lib.hid b4
  clear b4
  go_wp2_with fail
  refine (HH.out w4 HB4.out).mono ?_
  rintro e w5 ⟨rfl, b5⟩
  have HB5 := Lib.hid (HB4.out.trans (b5.mono HB4.out.size))
  clear b5
  go_wp2_with fail
  refine (HN.out w5 HB5.out).mono ?_
  rintro e w6 ⟨rfl, b6⟩
  have HB6 := Lib.hid (HB5.out.trans (b6.mono HB5.out.size))
  clear b6
  go_wp2_with fail
  go_ret
  exact ⟨rfl, HB3.out.trans (HB6.out.mono HB3.out.size)⟩
end Go.Proofs.Ytgiccdjgbjgdcaa.Sp
