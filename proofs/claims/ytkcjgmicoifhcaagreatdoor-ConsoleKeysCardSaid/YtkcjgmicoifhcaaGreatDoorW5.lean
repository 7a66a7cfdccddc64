/- ConsoleKeys. (Printed by gen_w5.py.) -/
import Derived.Test.YtkcjgmicoifhcaaGreatDoorM13
import Derived.Test.YtkcjgmicoifhcaaGreatDoorM3
namespace Go.Proofs.YtkcjgmicoifhcaaGreatDoor.Cn
open Go.RowKit Go.Sort Go.Lib Go.Shelf
open Vw (Tab str Blk)
open Ev (E C fineC goodE)
attribute [local go_sem ↓] Go.wp_at_zero Go.wp_at_succ

theorem undo_fit (k o : Int) (hk : 0 ≤ k ∧ k < 4294967296) (ho : 0 ≤ o ∧ o < 4294967296) : FitC (undoC k o) := ⟨hk, ho, z64, z64⟩
set_option maxRecDepth 40000 in
set_option maxHeartbeats 16000000 in
theorem keys_walk (k o : Int) (hk : 0 ≤ k ∧ k < 4294967296) (ho : 0 ≤ o ∧ o < 4294967296) (w : World) (hg : Gl w) (hT : w.cell? ⟨5, 15, none⟩ = some (.int .u8 4)) :
    Calls Tryz.prog 5 #[.int .u32 k, .int .u32 o] w fun e w' => e = .returned (.bool true) ∧ Below w.heap.size w w' := by
  obtain ⟨c, hc⟩ : ∃ c, c = undoC k o := ⟨_, rfl⟩
  obtain ⟨l, hl⟩ : ∃ l, lnC c = l := ⟨_, rfl⟩
  have hf : FitC c := hc ▸ undo_fit k o hk ho
  have hy : fineC c = true := hc ▸ undo_fine k o
  have hlen : l.length ≤ 2000 := hl ▸ lnC_len c hf hy
  have hz : parB (cutC 32 (48 :: l)) = false := by rw [← hl, hc]; exact bad_zero k o hk ho
  have HC : Hid (c.cells = #[.bool true, .int .u32 k, .int .i64 0, .int .i64 0, .int .u32 0, .int .i64 0, .int .i64 0, .float .f64 0, .float .f64 0, .bool false, .int .i64 0, .int .i64 0, .int .i64 0, .int .u32 o]) := Lib.hid (by rw [hc])
  have HCV : Hid (c.v = .agg #[.bool true, .int .u32 k, .int .i64 0, .int .i64 0, .int .u32 0, .int .i64 0, .int .i64 0, .float .f64 0, .float .f64 0, .bool false, .int .i64 0, .int .i64 0, .int .i64 0, .int .u32 o]) := Lib.hid (by rw [hc])
  have HLn : Hid (∀ W, Below w.heap.size w W → Calls Tryz.prog 9 #[.agg #[.bool true, .int .u32 k, .int .i64 0, .int .i64 0, .int .u32 0, .int .i64 0, .int .i64 0, .float .f64 0, .float .f64 0, .bool false, .int .i64 0, .int .i64 0, .int .i64 0, .int .u32 o]] W fun e w' => e = .returned (.tuple #[.string (str l), .int .i64 0]) ∧ Below W.heap.size W w') := Lib.hid (fun W hB => by
    have := line_calls c hf W (hg.below hB) (cell_below hT hB)
    rw [← linV_yes hy hl, HCV.out] at this
    exact this)
  have HP1 : Hid (∀ W, Below w.heap.size w W → Calls Tryz.prog 10 #[.string (str l)] W fun e w' => e = .returned (.tuple #[.agg #[.bool true, .int .u32 k, .int .i64 0, .int .i64 0, .int .u32 0, .int .i64 0, .int .i64 0, .float .f64 0, .float .f64 0, .bool false, .int .i64 0, .int .i64 0, .int .i64 0, .int .u32 o], .int .i64 0]) ∧ Below W.heap.size W w') := Lib.hid (fun W hB => by
    have := parse_calls l (by omega) W (hg.below hB) (cell_below hT hB)
    rw [parV_at l hf hy hl, HCV.out] at this
    exact this)
  have HP2 : Hid (∀ W, Below w.heap.size w W → Calls Tryz.prog 10 #[.string (str ([48] ++ l))] W fun e w' => e = .returned (.tuple #[zC.v, .int .i64 320]) ∧ Below W.heap.size W w') := Lib.hid (fun W hB => by
    have := parse_calls (48 :: l) (by rw [List.length_cons]; omega) W (hg.below hB) (cell_below hT hB)
    rw [parV_bad hz] at this
    exact this)
  have HP3 : Hid (∀ W, Below w.heap.size w W → Calls Tryz.prog 10 #[.string ⟨#[52, 50, 57, 52, 57, 54, 55, 50, 57, 54, 32, 117, 110, 100, 111, 32, 49]⟩] W fun e w' => e = .returned (.tuple #[zC.v, .int .i64 320]) ∧ Below W.heap.size W w') := Lib.hid (fun W hB => by
    have := parse_calls [52, 50, 57, 52, 57, 54, 55, 50, 57, 54, 32, 117, 110, 100, 111, 32, 49] (by decide) W (hg.below hB) (cell_below hT hB)
    rw [parV_bad bad_big] at this
    exact this)
  have HP4 : Hid (∀ W, Below w.heap.size w W → Calls Tryz.prog 10 #[.string ⟨#[45, 49, 32, 117, 110, 100, 111, 32, 49]⟩] W fun e w' => e = .returned (.tuple #[zC.v, .int .i64 320]) ∧ Below W.heap.size W w') := Lib.hid (fun W hB => by
    have := parse_calls [45, 49, 32, 117, 110, 100, 111, 32, 49] (by decide) W (hg.below hB) (cell_below hT hB)
    rw [parV_bad bad_neg] at this
    exact this)
  have HK : Hid (∀ W, Calls Tryz.prog 11 #[.agg #[.bool true, .int .u32 k, .int .i64 0, .int .i64 0, .int .u32 0, .int .i64 0, .int .i64 0, .float .f64 0, .float .f64 0, .bool false, .int .i64 0, .int .i64 0, .int .i64 0, .int .u32 o], .agg #[.bool true, .int .u32 k, .int .i64 0, .int .i64 0, .int .u32 0, .int .i64 0, .int .i64 0, .float .f64 0, .float .f64 0, .bool false, .int .i64 0, .int .i64 0, .int .i64 0, .int .u32 o]] W fun r w' => r = .returned (.bool true) ∧ Below W.heap.size W w') := Lib.hid (fun W => by
    have := Ev.kcmd_calls c c W
    rw [decide_eq_true (rfl : c = c), HCV.out] at this
    exact this)
  have HW : Hid (∀ W, Below w.heap.size w W → Calls Tryz.prog 8 #[] W fun e w' => e = .returned (.bool true) ∧ Below W.heap.size W w') := Lib.hid (fun W hB => wakes_calls W (hg.below hB) (cell_below hT hB))
  have hadd := fun W => Vw.add_run [48] l (by simp; omega) W
  have hst0 : ∀ (a : Addr) (n : Nat) (W : World), (store a (.float .f64 n)).run Tryz.prog W = match W.cell? a with
      | some _ => if W.frozen? a then .halt (.unsupported (.unsafePointer "a write to bytes that a string shares")) W else .ok () (W.setCell a (.float .f64 n))
      | none => match World.farStore Tryz.prog W a (.float .f64 n) (Mode.plain == Mode.atomic) with | .ok (w', _) => .ok () w' | .error h => .halt h W := fun _ _ _ => rfl
  clear hc hl hf hy hlen hz hg hT hk ho HCV
  go_enter Tryz.func5, Tryz.ntmps5
  go_upto_region 2 with fail
  have hal := (Below.refl w.heap.size w).alloc (Nat.le_refl _) (.cells c.cells 27)
  have HC0 := Lib.hid (Blk.new w 27 c.cells)
  have HB0 := Lib.hid hal
  clear hal
  rw [← HC.out]
  obtain ⟨ga, hga⟩ : ∃ g, w.heap.size = g := ⟨_, rfl⟩
  rw [hga] at HC0 ⊢
  generalize w.alloc (.cells c.cells 27) = w0 at *
  have kk := HC0.out
  rw [HC.out] at kk
  have k0 : w0.cell? ⟨ga, 0, none⟩ = some (.bool true) := kk.cell 0
  have k1 : w0.cell? ⟨ga, 1, none⟩ = some (.int .u32 k) := kk.cell 1
  have k2 : w0.cell? ⟨ga, 2, none⟩ = some (.int .i64 0) := kk.cell 2
  have k3 : w0.cell? ⟨ga, 3, none⟩ = some (.int .i64 0) := kk.cell 3
  have k4 : w0.cell? ⟨ga, 4, none⟩ = some (.int .u32 0) := kk.cell 4
  have k5 : w0.cell? ⟨ga, 5, none⟩ = some (.int .i64 0) := kk.cell 5
  have k6 : w0.cell? ⟨ga, 6, none⟩ = some (.int .i64 0) := kk.cell 6
  have k7 : w0.cell? ⟨ga, 7, none⟩ = some (.float .f64 0) := kk.cell 7
  have k8 : w0.cell? ⟨ga, 8, none⟩ = some (.float .f64 0) := kk.cell 8
  have k9 : w0.cell? ⟨ga, 9, none⟩ = some (.bool false) := kk.cell 9
  have k10 : w0.cell? ⟨ga, 10, none⟩ = some (.int .i64 0) := kk.cell 10
  have k11 : w0.cell? ⟨ga, 11, none⟩ = some (.int .i64 0) := kk.cell 11
  have k12 : w0.cell? ⟨ga, 12, none⟩ = some (.int .i64 0) := kk.cell 12
  have k13 : w0.cell? ⟨ga, 13, none⟩ = some (.int .u32 o) := kk.cell 13
  clear kk
  go_wp2_with fail
  refine (HLn.out w0 HB0.out).mono ?_
  rintro r w1 ⟨rfl, hb⟩
  have HC1 := Lib.hid (HC0.out.below hb)
  have HB1 := Lib.hid (HB0.out.trans (hb.mono HB0.out.size))
  clear hb k0 k1 k2 k3 k4 k5 k6 k7 k8 k9 k10 k11 k12 k13
  go_wp2_with fail
  refine (HP1.out w1 HB1.out).mono ?_
  rintro r w2 ⟨rfl, hb⟩
  have HC2 := Lib.hid (HC1.out.below hb)
  have HB2 := Lib.hid (HB1.out.trans (hb.mono HB1.out.size))
  clear hb
  go_upto_region 4 with fail
  have hal := (Below.refl w2.heap.size w2).alloc (Nat.le_refl _) (.cells #[.bool true, .int .u32 k, .int .i64 0, .int .i64 0, .int .u32 0, .int .i64 0, .int .i64 0, .float .f64 0, .float .f64 0, .bool false, .int .i64 0, .int .i64 0, .int .i64 0, .int .u32 o] 27)
  have HC3 := Lib.hid (HC2.out.below hal)
  have HD3 := Lib.hid (Blk.new w2 27 #[.bool true, .int .u32 k, .int .i64 0, .int .i64 0, .int .u32 0, .int .i64 0, .int .i64 0, .float .f64 0, .float .f64 0, .bool false, .int .i64 0, .int .i64 0, .int .i64 0, .int .u32 o])
  have HB3 := Lib.hid (HB2.out.trans (hal.mono HB2.out.size))
  clear hal
  generalize w2.alloc (.cells #[.bool true, .int .u32 k, .int .i64 0, .int .i64 0, .int .u32 0, .int .i64 0, .int .i64 0, .float .f64 0, .float .f64 0, .bool false, .int .i64 0, .int .i64 0, .int .i64 0, .int .u32 o] 27) = w3 at *
  generalize w2.heap.size = gd at *
  go_wp2_with fail
  refine (HP2.out w3 HB3.out).mono ?_
  rintro r w4 ⟨rfl, hb⟩
  have HC4 := Lib.hid (HC3.out.below hb)
  have HD4 := Lib.hid (HD3.out.below hb)
  have HB4 := Lib.hid (HB3.out.trans (hb.mono HB3.out.size))
  clear hb hadd
  go_upto_region 5 with fail
  have hal := (Below.refl w4.heap.size w4).alloc (Nat.le_refl _) (.cells zC.cells 27)
  have HC5 := Lib.hid (HC4.out.below hal)
  have HD5 := Lib.hid (HD4.out.below hal)
  have HB5 := Lib.hid (HB4.out.trans (hal.mono HB4.out.size))
  clear hal
  generalize w4.alloc (.cells zC.cells 27) = w5 at *
  generalize w4.heap.size = ge at *
  go_wp2_with fail
  refine (HP3.out w5 HB5.out).mono ?_
  rintro r w6 ⟨rfl, hb⟩
  have HC6 := Lib.hid (HC5.out.below hb)
  have HD6 := Lib.hid (HD5.out.below hb)
  have HB6 := Lib.hid (HB5.out.trans (hb.mono HB5.out.size))
  clear hb
  go_upto_region 6 with fail
  have hal := (Below.refl w6.heap.size w6).alloc (Nat.le_refl _) (.cells zC.cells 27)
  have HC7 := Lib.hid (HC6.out.below hal)
  have HD7 := Lib.hid (HD6.out.below hal)
  have HB7 := Lib.hid (HB6.out.trans (hal.mono HB6.out.size))
  clear hal
  generalize w6.alloc (.cells zC.cells 27) = w7 at *
  generalize w6.heap.size = gf at *
  go_wp2_with fail
  refine (HP4.out w7 HB7.out).mono ?_
  rintro r w8 ⟨rfl, hb⟩
  have HC8 := Lib.hid (HC7.out.below hb)
  have HD8 := Lib.hid (HD7.out.below hb)
  have HB8 := Lib.hid (HB7.out.trans (hb.mono HB7.out.size))
  clear hb
  go_upto_region 7 with fail
  have hal := (Below.refl w8.heap.size w8).alloc (Nat.le_refl _) (.cells zC.cells 27)
  have HC9 := Lib.hid (HC8.out.below hal)
  have HD9 := Lib.hid (HD8.out.below hal)
  have HB9 := Lib.hid (HB8.out.trans (hal.mono HB8.out.size))
  clear hal
  generalize w8.alloc (.cells zC.cells 27) = w9 at *
  generalize w8.heap.size = gh at *
  have kk := HC9.out
  rw [HC.out] at kk
  have k0 : w9.cell? ⟨ga, 0, none⟩ = some (.bool true) := kk.cell 0
  have k1 : w9.cell? ⟨ga, 1, none⟩ = some (.int .u32 k) := kk.cell 1
  have k2 : w9.cell? ⟨ga, 2, none⟩ = some (.int .i64 0) := kk.cell 2
  have k3 : w9.cell? ⟨ga, 3, none⟩ = some (.int .i64 0) := kk.cell 3
  have k4 : w9.cell? ⟨ga, 4, none⟩ = some (.int .u32 0) := kk.cell 4
  have k5 : w9.cell? ⟨ga, 5, none⟩ = some (.int .i64 0) := kk.cell 5
  have k6 : w9.cell? ⟨ga, 6, none⟩ = some (.int .i64 0) := kk.cell 6
  have k7 : w9.cell? ⟨ga, 7, none⟩ = some (.float .f64 0) := kk.cell 7
  have k8 : w9.cell? ⟨ga, 8, none⟩ = some (.float .f64 0) := kk.cell 8
  have k9 : w9.cell? ⟨ga, 9, none⟩ = some (.bool false) := kk.cell 9
  have k10 : w9.cell? ⟨ga, 10, none⟩ = some (.int .i64 0) := kk.cell 10
  have k11 : w9.cell? ⟨ga, 11, none⟩ = some (.int .i64 0) := kk.cell 11
  have k12 : w9.cell? ⟨ga, 12, none⟩ = some (.int .i64 0) := kk.cell 12
  have k13 : w9.cell? ⟨ga, 13, none⟩ = some (.int .u32 o) := kk.cell 13
  clear kk
  have kk := HD9.out
  have m0 : w9.cell? ⟨gd, 0, none⟩ = some (.bool true) := kk.cell 0
  have m1 : w9.cell? ⟨gd, 1, none⟩ = some (.int .u32 k) := kk.cell 1
  have m2 : w9.cell? ⟨gd, 2, none⟩ = some (.int .i64 0) := kk.cell 2
  have m3 : w9.cell? ⟨gd, 3, none⟩ = some (.int .i64 0) := kk.cell 3
  have m4 : w9.cell? ⟨gd, 4, none⟩ = some (.int .u32 0) := kk.cell 4
  have m5 : w9.cell? ⟨gd, 5, none⟩ = some (.int .i64 0) := kk.cell 5
  have m6 : w9.cell? ⟨gd, 6, none⟩ = some (.int .i64 0) := kk.cell 6
  have m7 : w9.cell? ⟨gd, 7, none⟩ = some (.float .f64 0) := kk.cell 7
  have m8 : w9.cell? ⟨gd, 8, none⟩ = some (.float .f64 0) := kk.cell 8
  have m9 : w9.cell? ⟨gd, 9, none⟩ = some (.bool false) := kk.cell 9
  have m10 : w9.cell? ⟨gd, 10, none⟩ = some (.int .i64 0) := kk.cell 10
  have m11 : w9.cell? ⟨gd, 11, none⟩ = some (.int .i64 0) := kk.cell 11
  have m12 : w9.cell? ⟨gd, 12, none⟩ = some (.int .i64 0) := kk.cell 12
  have m13 : w9.cell? ⟨gd, 13, none⟩ = some (.int .u32 o) := kk.cell 13
  clear kk
  go_wp2_with fail
  refine (HK.out w9).mono ?_
  rintro r w10 ⟨rfl, hb⟩
  have HB10 := Lib.hid (HB9.out.trans (hb.mono HB9.out.size))
  clear hb k0 k1 k2 k3 k4 k5 k6 k7 k8 k9 k10 k11 k12 k13 m0 m1 m2 m3 m4 m5 m6 m7 m8 m9 m10 m11 m12 m13
  go_wp2_with fail
  refine (HW.out w10 HB10.out).mono ?_
  rintro r w11 ⟨rfl, hb⟩
  have HB11 := Lib.hid (HB10.out.trans (hb.mono HB10.out.size))
  clear hb
  go_wp2_with fail
  go_ret
  exact ⟨rfl, HB11.out⟩
end Go.Proofs.YtkcjgmicoifhcaaGreatDoor.Cn
