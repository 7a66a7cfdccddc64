/- ConsoleLines. (Printed by gen_w6.py.) -/
import Derived.Test.YtkcjgmicoifhcaaGreatDoorWh
import Derived.Test.YtkcjgmicoifhcaaGreatDoorT3
namespace Go.Proofs.YtkcjgmicoifhcaaGreatDoor.Cn
open Go.RowKit Go.Sort Go.Lib Go.Shelf
open Vw (Tab str Blk)
open Ev (E C fineC goodE)
attribute [local go_sem ↓] Go.wp_at_zero Go.wp_at_succ

set_option maxRecDepth 40000 in
set_option maxHeartbeats 16000000 in
theorem lines_y (c : C) (hf : FitC c) (w : World) (ct : Cts w) (hy : fineC c = true) :
    Calls Tryz.prog 7 #[c.v] w fun e w' => e = .returned (.bool true) ∧ Below w.heap.size w w' := by
  obtain ⟨L, hL⟩ : ∃ L, lnC c = L := ⟨_, rfl⟩
  have hQ : ∀ W, Below w.heap.size w W → Calls Tryz.prog 9 #[c.v] W fun e w' => e = .returned (.tuple #[.string (str L), .int .i64 0]) ∧ Below W.heap.size W w' := fun W hB => by
    have := ct.line c hf W hB
    rw [← linV_yes hy hL] at this
    exact this
  have hR : ∀ W, Calls Tryz.prog 13 #[c.v] W fun e w' => e = .returned (.tuple #[.string (str L), .int .i64 0]) ∧ Below W.heap.size W w' := fun W => by
    have := rline_calls c hf W
    rw [← linV_yes hy hL] at this
    exact this
  have hbe : ((str L).toList == (str L).toList) = true := beq_self_eq_true _
  clear hf hy hL
  have HW := Lib.hid ct.wakes
  have hst0 := st_f64
  clear ct
  obtain ⟨u, k, ⟨kd, dy, ek, ln, am, rt, ic, sb, st, pl, fm⟩, o⟩ := c
  have HQ : Hid (∀ W, Below w.heap.size w W → Calls Tryz.prog 9 #[.agg #[.bool u, .int .u32 k, .int .i64 kd, .int .i64 dy, .int .u32 ek, .int .i64 ln, .int .i64 am, .float .f64 rt, .float .f64 ic, .bool sb, .int .i64 st, .int .i64 pl, .int .i64 fm, .int .u32 o]] W fun e w' => e = .returned (.tuple #[.string (str L), .int .i64 0]) ∧ Below W.heap.size W w') := Lib.hid hQ
  have HR : Hid (∀ W, Calls Tryz.prog 13 #[.agg #[.bool u, .int .u32 k, .int .i64 kd, .int .i64 dy, .int .u32 ek, .int .i64 ln, .int .i64 am, .float .f64 rt, .float .f64 ic, .bool sb, .int .i64 st, .int .i64 pl, .int .i64 fm, .int .u32 o]] W fun e w' => e = .returned (.tuple #[.string (str L), .int .i64 0]) ∧ Below W.heap.size W w') := Lib.hid hR
  clear hQ hR
  go_enter Tryz.func7, Tryz.ntmps7
  go_upto_region 1 with fail
  have hal := (Below.refl w.heap.size w).alloc (Nat.le_refl _) (.cells #[.bool u, .int .u32 k, .int .i64 kd, .int .i64 dy, .int .u32 ek, .int .i64 ln, .int .i64 am, .float .f64 rt, .float .f64 ic, .bool sb, .int .i64 st, .int .i64 pl, .int .i64 fm, .int .u32 o] 27)
  have HC0 := Lib.hid (Blk.new w 27 #[.bool u, .int .u32 k, .int .i64 kd, .int .i64 dy, .int .u32 ek, .int .i64 ln, .int .i64 am, .float .f64 rt, .float .f64 ic, .bool sb, .int .i64 st, .int .i64 pl, .int .i64 fm, .int .u32 o])
  have HB0 := Lib.hid hal
  clear hal
  obtain ⟨ga, hga⟩ : ∃ g, w.heap.size = g := ⟨_, rfl⟩
  rw [hga] at HC0 ⊢
  generalize w.alloc (.cells #[.bool u, .int .u32 k, .int .i64 kd, .int .i64 dy, .int .u32 ek, .int .i64 ln, .int .i64 am, .float .f64 rt, .float .f64 ic, .bool sb, .int .i64 st, .int .i64 pl, .int .i64 fm, .int .u32 o] 27) = w0 at *
  have kk := HC0.out
  obtain ⟨k0, k1, k2, k3, k4, k5, k6, k7, k8, k9, k10, k11, k12, k13⟩ := cm_cells kk
  clear kk
  go_wp2_with fail
  refine (HQ.out w0 HB0.out).mono ?_
  rintro r w1 ⟨rfl, hb⟩
  have HB1 := Lib.hid (HB0.out.trans (hb.mono HB0.out.size))
  have HC1 := Lib.hid (HC0.out.below hb)
  clear hb k0 k1 k2 k3 k4 k5 k6 k7 k8 k9 k10 k11 k12 k13
  have kk := HC1.out
  obtain ⟨k0, k1, k2, k3, k4, k5, k6, k7, k8, k9, k10, k11, k12, k13⟩ := cm_cells kk
  clear kk
  go_wp2_with fail
  refine (HR.out w1).mono ?_
  rintro r w2 ⟨rfl, hb⟩
  have HB2 := Lib.hid (HB1.out.trans (hb.mono HB1.out.size))
  clear hb k0 k1 k2 k3 k4 k5 k6 k7 k8 k9 k10 k11 k12 k13
  go_wp2_with fail
  refine (HW.out w2 HB2.out).mono ?_
  rintro r w3 ⟨rfl, hb⟩
  have HB3 := Lib.hid (HB2.out.trans (hb.mono HB2.out.size))
  clear hb
  go_wp2_with fail
  go_ret
  exact ⟨rfl, HB3.out⟩
set_option maxRecDepth 40000 in
set_option maxHeartbeats 16000000 in
theorem lines_n (c : C) (hf : FitC c) (w : World) (ct : Cts w) (hy : fineC c = false) :
    Calls Tryz.prog 7 #[c.v] w fun e w' => e = .returned (.bool true) ∧ Below w.heap.size w w' := by
  have hQ : ∀ W, Below w.heap.size w W → Calls Tryz.prog 9 #[c.v] W fun e w' => e = .returned (.tuple #[.string ⟨#[]⟩, .int .i64 11]) ∧ Below W.heap.size W w' := fun W hB => by
    have := ct.line c hf W hB
    rw [← linV_no hy] at this
    exact this
  have hR : ∀ W, Calls Tryz.prog 13 #[c.v] W fun e w' => e = .returned (.tuple #[.string ⟨#[]⟩, .int .i64 11]) ∧ Below W.heap.size W w' := fun W => by
    have := rline_calls c hf W
    rw [← linV_no hy] at this
    exact this
  clear hf hy
  have HW := Lib.hid ct.wakes
  have hst0 := st_f64
  clear ct
  obtain ⟨u, k, ⟨kd, dy, ek, ln, am, rt, ic, sb, st, pl, fm⟩, o⟩ := c
  have HQ : Hid (∀ W, Below w.heap.size w W → Calls Tryz.prog 9 #[.agg #[.bool u, .int .u32 k, .int .i64 kd, .int .i64 dy, .int .u32 ek, .int .i64 ln, .int .i64 am, .float .f64 rt, .float .f64 ic, .bool sb, .int .i64 st, .int .i64 pl, .int .i64 fm, .int .u32 o]] W fun e w' => e = .returned (.tuple #[.string ⟨#[]⟩, .int .i64 11]) ∧ Below W.heap.size W w') := Lib.hid hQ
  have HR : Hid (∀ W, Calls Tryz.prog 13 #[.agg #[.bool u, .int .u32 k, .int .i64 kd, .int .i64 dy, .int .u32 ek, .int .i64 ln, .int .i64 am, .float .f64 rt, .float .f64 ic, .bool sb, .int .i64 st, .int .i64 pl, .int .i64 fm, .int .u32 o]] W fun e w' => e = .returned (.tuple #[.string ⟨#[]⟩, .int .i64 11]) ∧ Below W.heap.size W w') := Lib.hid hR
  clear hQ hR
  go_enter Tryz.func7, Tryz.ntmps7
  go_upto_region 1 with fail
  have hal := (Below.refl w.heap.size w).alloc (Nat.le_refl _) (.cells #[.bool u, .int .u32 k, .int .i64 kd, .int .i64 dy, .int .u32 ek, .int .i64 ln, .int .i64 am, .float .f64 rt, .float .f64 ic, .bool sb, .int .i64 st, .int .i64 pl, .int .i64 fm, .int .u32 o] 27)
  have HC0 := Lib.hid (Blk.new w 27 #[.bool u, .int .u32 k, .int .i64 kd, .int .i64 dy, .int .u32 ek, .int .i64 ln, .int .i64 am, .float .f64 rt, .float .f64 ic, .bool sb, .int .i64 st, .int .i64 pl, .int .i64 fm, .int .u32 o])
  have HB0 := Lib.hid hal
  clear hal
  obtain ⟨ga, hga⟩ : ∃ g, w.heap.size = g := ⟨_, rfl⟩
  rw [hga] at HC0 ⊢
  generalize w.alloc (.cells #[.bool u, .int .u32 k, .int .i64 kd, .int .i64 dy, .int .u32 ek, .int .i64 ln, .int .i64 am, .float .f64 rt, .float .f64 ic, .bool sb, .int .i64 st, .int .i64 pl, .int .i64 fm, .int .u32 o] 27) = w0 at *
  have kk := HC0.out
  obtain ⟨k0, k1, k2, k3, k4, k5, k6, k7, k8, k9, k10, k11, k12, k13⟩ := cm_cells kk
  clear kk
  go_wp2_with fail
  refine (HQ.out w0 HB0.out).mono ?_
  rintro r w1 ⟨rfl, hb⟩
  have HB1 := Lib.hid (HB0.out.trans (hb.mono HB0.out.size))
  have HC1 := Lib.hid (HC0.out.below hb)
  clear hb k0 k1 k2 k3 k4 k5 k6 k7 k8 k9 k10 k11 k12 k13
  have kk := HC1.out
  obtain ⟨k0, k1, k2, k3, k4, k5, k6, k7, k8, k9, k10, k11, k12, k13⟩ := cm_cells kk
  clear kk
  go_wp2_with fail
  refine (HR.out w1).mono ?_
  rintro r w2 ⟨rfl, hb⟩
  have HB2 := Lib.hid (HB1.out.trans (hb.mono HB1.out.size))
  clear hb k0 k1 k2 k3 k4 k5 k6 k7 k8 k9 k10 k11 k12 k13
  go_wp2_with fail
  refine (HW.out w2 HB2.out).mono ?_
  rintro r w3 ⟨rfl, hb⟩
  have HB3 := Lib.hid (HB2.out.trans (hb.mono HB2.out.size))
  clear hb
  go_wp2_with fail
  go_ret
  exact ⟨rfl, HB3.out⟩
theorem lines_walk (c : C) (hf : FitC c) (w : World) (hg : Gl w) (hT : w.cell? ⟨5, 15, none⟩ = some (.int .u8 4)) :
    Calls Tryz.prog 7 #[c.v] w fun e w' => e = .returned (.bool true) ∧ Below w.heap.size w w' := by
  have ct := cts_of hg hT
  cases hy : fineC c
  · exact lines_n c hf w ct hy
  · exact lines_y c hf w ct hy
end Go.Proofs.YtkcjgmicoifhcaaGreatDoor.Cn
