/- ConsoleBack. (Printed by gen_w3.py.) -/
import Derived.Test.YtkcjgmicoifhcaaGreatDoorWh
namespace Go.Proofs.YtkcjgmicoifhcaaGreatDoor.Cn
open Go.RowKit Go.Sort Go.Lib Go.Shelf
open Vw (Tab str Blk)
open Ev (E C fineC goodE)
attribute [local go_sem ↓] Go.wp_at_zero Go.wp_at_succ

set_option maxRecDepth 40000 in
set_option maxHeartbeats 16000000 in
theorem back_yy (c : C) (hf : FitC c) (s : List UInt8) (w : World) (ct : Cts w) (hle : s.length ≤ 5000) (hy : fineC c = true) (hp : parB (cutC 32 s) = true) :
    Calls Tryz.prog 3 #[c.v, .string (str s)] w fun e w' => e = .returned (.bool true) ∧ Below w.heap.size w w' := by
  have hsz : (str s).size = s.length := Vw.str_size s
  obtain ⟨L, hL⟩ : ∃ L, lnC c = L := ⟨_, rfl⟩
  have hlen : L.length ≤ 2000 := hL ▸ lnC_len c hf hy
  have hQ1 : ∀ W, Below w.heap.size w W → Calls Tryz.prog 10 #[.string (str L)] W fun e w' => e = .returned (.tuple #[c.v, .int .i64 0]) ∧ Below W.heap.size W w' := fun W hB => by
    have := ct.parse L (by omega) W hB
    rw [parV_at L hf hy hL] at this
    exact this
  have hK := same_calls_c c
  have hLn : ∀ W, Below w.heap.size w W → Calls Tryz.prog 9 #[c.v] W fun e w' => e = .returned (.tuple #[.string (str L), .int .i64 0]) ∧ Below W.heap.size W w' := fun W hB => by
    have := ct.line c hf W hB
    rw [← linV_yes hy hL] at this
    exact this
  obtain ⟨hf2, hy2, hl2⟩ := back_line hp
  have hQ2 : ∀ W, Below w.heap.size w W → Calls Tryz.prog 10 #[.string (str s)] W fun e w' => e = .returned (.tuple #[(parC (cutC 32 s)).1.v, .int .i64 0]) ∧ Below W.heap.size W w' := fun W hB => by
    have := ct.parse s (by omega) W hB
    rw [parV_ok hp] at this
    exact this
  have hLn2 : ∀ W, Below w.heap.size w W → Calls Tryz.prog 9 #[(parC (cutC 32 s)).1.v] W fun e w' => e = .returned (.tuple #[.string (str s), .int .i64 0]) ∧ Below W.heap.size W w' := fun W hB => by
    have := ct.line _ hf2 W hB
    rw [← linV_yes hy2 hl2] at this
    exact this
  clear hf2 hy2 hl2 hp
  generalize (parC (cutC 32 s)).1 = c2 at *
  have HW := Lib.hid ct.wakes
  have hst0 : ∀ (a : Addr) (n : Nat) (W : World), (store a (.float .f64 n)).run Tryz.prog W = match W.cell? a with
      | some _ => if W.frozen? a then .halt (.unsupported (.unsafePointer "a write to bytes that a string shares")) W else .ok () (W.setCell a (.float .f64 n))
      | none => match World.farStore Tryz.prog W a (.float .f64 n) (Mode.plain == Mode.atomic) with | .ok (w', _) => .ok () w' | .error h => .halt h W := fun _ _ _ => rfl
  clear hL hlen
  clear ct hf hy
  obtain ⟨u, k, ⟨kd, dy, ek, ln, am, rt, ic, sb, st, pl, fm⟩, o⟩ := c
  obtain ⟨u2, k2, ⟨kd2, dy2, ek2, ln2, am2, rt2, ic2, sb2, st2, pl2, fm2⟩, o2⟩ := c2
  have HLn : Hid (∀ W, Below w.heap.size w W → Calls Tryz.prog 9 #[.agg #[.bool u, .int .u32 k, .int .i64 kd, .int .i64 dy, .int .u32 ek, .int .i64 ln, .int .i64 am, .float .f64 rt, .float .f64 ic, .bool sb, .int .i64 st, .int .i64 pl, .int .i64 fm, .int .u32 o]] W fun e w' => e = .returned (.tuple #[.string (str L), .int .i64 0]) ∧ Below W.heap.size W w') := Lib.hid hLn
  have HQ1 : Hid (∀ W, Below w.heap.size w W → Calls Tryz.prog 10 #[.string (str L)] W fun e w' => e = .returned (.tuple #[.agg #[.bool u, .int .u32 k, .int .i64 kd, .int .i64 dy, .int .u32 ek, .int .i64 ln, .int .i64 am, .float .f64 rt, .float .f64 ic, .bool sb, .int .i64 st, .int .i64 pl, .int .i64 fm, .int .u32 o], .int .i64 0]) ∧ Below W.heap.size W w') := Lib.hid hQ1
  have HK : Hid (∀ W, Calls Tryz.prog 11 #[.agg #[.bool u, .int .u32 k, .int .i64 kd, .int .i64 dy, .int .u32 ek, .int .i64 ln, .int .i64 am, .float .f64 rt, .float .f64 ic, .bool sb, .int .i64 st, .int .i64 pl, .int .i64 fm, .int .u32 o], .agg #[.bool u, .int .u32 k, .int .i64 kd, .int .i64 dy, .int .u32 ek, .int .i64 ln, .int .i64 am, .float .f64 rt, .float .f64 ic, .bool sb, .int .i64 st, .int .i64 pl, .int .i64 fm, .int .u32 o]] W fun r w' => r = .returned (.bool true) ∧ Below W.heap.size W w') := Lib.hid hK
  have HQ2 : Hid (∀ W, Below w.heap.size w W → Calls Tryz.prog 10 #[.string (str s)] W fun e w' => e = .returned (.tuple #[.agg #[.bool u2, .int .u32 k2, .int .i64 kd2, .int .i64 dy2, .int .u32 ek2, .int .i64 ln2, .int .i64 am2, .float .f64 rt2, .float .f64 ic2, .bool sb2, .int .i64 st2, .int .i64 pl2, .int .i64 fm2, .int .u32 o2], .int .i64 0]) ∧ Below W.heap.size W w') := Lib.hid hQ2
  have HLn2 : Hid (∀ W, Below w.heap.size w W → Calls Tryz.prog 9 #[.agg #[.bool u2, .int .u32 k2, .int .i64 kd2, .int .i64 dy2, .int .u32 ek2, .int .i64 ln2, .int .i64 am2, .float .f64 rt2, .float .f64 ic2, .bool sb2, .int .i64 st2, .int .i64 pl2, .int .i64 fm2, .int .u32 o2]] W fun e w' => e = .returned (.tuple #[.string (str s), .int .i64 0]) ∧ Below W.heap.size W w') := Lib.hid hLn2
  clear hLn hQ2 hQ1 hK hLn2
  go_enter Tryz.func3, Tryz.ntmps3
  go_upto_region 1 with fail
  have hal := (Below.refl w.heap.size w).alloc (Nat.le_refl _) (.cells #[.bool u, .int .u32 k, .int .i64 kd, .int .i64 dy, .int .u32 ek, .int .i64 ln, .int .i64 am, .float .f64 rt, .float .f64 ic, .bool sb, .int .i64 st, .int .i64 pl, .int .i64 fm, .int .u32 o] 27)
  have HC0 := Lib.hid (Blk.new w 27 #[.bool u, .int .u32 k, .int .i64 kd, .int .i64 dy, .int .u32 ek, .int .i64 ln, .int .i64 am, .float .f64 rt, .float .f64 ic, .bool sb, .int .i64 st, .int .i64 pl, .int .i64 fm, .int .u32 o])
  have HB0 := Lib.hid hal
  clear hal
  obtain ⟨ga, hga⟩ : ∃ g, w.heap.size = g := ⟨_, rfl⟩
  rw [hga] at HC0 ⊢
  generalize w.alloc (.cells #[.bool u, .int .u32 k, .int .i64 kd, .int .i64 dy, .int .u32 ek, .int .i64 ln, .int .i64 am, .float .f64 rt, .float .f64 ic, .bool sb, .int .i64 st, .int .i64 pl, .int .i64 fm, .int .u32 o] 27) = w0 at *
  have kk := HC0.out
  have k0 : w0.cell? ⟨ga, 0, none⟩ = some (.bool u) := kk.cell 0
  have k1 : w0.cell? ⟨ga, 1, none⟩ = some (.int .u32 k) := kk.cell 1
  have k2 : w0.cell? ⟨ga, 2, none⟩ = some (.int .i64 kd) := kk.cell 2
  have k3 : w0.cell? ⟨ga, 3, none⟩ = some (.int .i64 dy) := kk.cell 3
  have k4 : w0.cell? ⟨ga, 4, none⟩ = some (.int .u32 ek) := kk.cell 4
  have k5 : w0.cell? ⟨ga, 5, none⟩ = some (.int .i64 ln) := kk.cell 5
  have k6 : w0.cell? ⟨ga, 6, none⟩ = some (.int .i64 am) := kk.cell 6
  have k7 : w0.cell? ⟨ga, 7, none⟩ = some (.float .f64 rt) := kk.cell 7
  have k8 : w0.cell? ⟨ga, 8, none⟩ = some (.float .f64 ic) := kk.cell 8
  have k9 : w0.cell? ⟨ga, 9, none⟩ = some (.bool sb) := kk.cell 9
  have k10 : w0.cell? ⟨ga, 10, none⟩ = some (.int .i64 st) := kk.cell 10
  have k11 : w0.cell? ⟨ga, 11, none⟩ = some (.int .i64 pl) := kk.cell 11
  have k12 : w0.cell? ⟨ga, 12, none⟩ = some (.int .i64 fm) := kk.cell 12
  have k13 : w0.cell? ⟨ga, 13, none⟩ = some (.int .u32 o) := kk.cell 13
  clear kk
  go_wp2_with fail
  refine (HLn.out w0 HB0.out).mono ?_
  rintro r w1 ⟨rfl, hb⟩
  have HC1 := Lib.hid (HC0.out.below hb)
  have HB1 := Lib.hid (HB0.out.trans (hb.mono HB0.out.size))
  clear hb
  clear k0 k1 k2 k3 k4 k5 k6 k7 k8 k9 k10 k11 k12 k13
  go_wp2_with fail
  refine (HQ1.out w1 HB1.out).mono ?_
  rintro r w2 ⟨rfl, hb⟩
  have HC2 := Lib.hid (HC1.out.below hb)
  have HB2 := Lib.hid (HB1.out.trans (hb.mono HB1.out.size))
  clear hb
  go_upto_region 6 with fail
  have hal := (Below.refl w2.heap.size w2).alloc (Nat.le_refl _) (.cells #[.bool u, .int .u32 k, .int .i64 kd, .int .i64 dy, .int .u32 ek, .int .i64 ln, .int .i64 am, .float .f64 rt, .float .f64 ic, .bool sb, .int .i64 st, .int .i64 pl, .int .i64 fm, .int .u32 o] 27)
  have HC3 := Lib.hid (HC2.out.below hal)
  have HD3 := Lib.hid (Blk.new w2 27 #[.bool u, .int .u32 k, .int .i64 kd, .int .i64 dy, .int .u32 ek, .int .i64 ln, .int .i64 am, .float .f64 rt, .float .f64 ic, .bool sb, .int .i64 st, .int .i64 pl, .int .i64 fm, .int .u32 o])
  have HB3 := Lib.hid (HB2.out.trans (hal.mono HB2.out.size))
  clear hal
  generalize w2.alloc (.cells #[.bool u, .int .u32 k, .int .i64 kd, .int .i64 dy, .int .u32 ek, .int .i64 ln, .int .i64 am, .float .f64 rt, .float .f64 ic, .bool sb, .int .i64 st, .int .i64 pl, .int .i64 fm, .int .u32 o] 27) = w3 at *
  generalize w2.heap.size = g3 at *
  have kk := HC3.out
  have k0 : w3.cell? ⟨ga, 0, none⟩ = some (.bool u) := kk.cell 0
  have k1 : w3.cell? ⟨ga, 1, none⟩ = some (.int .u32 k) := kk.cell 1
  have k2 : w3.cell? ⟨ga, 2, none⟩ = some (.int .i64 kd) := kk.cell 2
  have k3 : w3.cell? ⟨ga, 3, none⟩ = some (.int .i64 dy) := kk.cell 3
  have k4 : w3.cell? ⟨ga, 4, none⟩ = some (.int .u32 ek) := kk.cell 4
  have k5 : w3.cell? ⟨ga, 5, none⟩ = some (.int .i64 ln) := kk.cell 5
  have k6 : w3.cell? ⟨ga, 6, none⟩ = some (.int .i64 am) := kk.cell 6
  have k7 : w3.cell? ⟨ga, 7, none⟩ = some (.float .f64 rt) := kk.cell 7
  have k8 : w3.cell? ⟨ga, 8, none⟩ = some (.float .f64 ic) := kk.cell 8
  have k9 : w3.cell? ⟨ga, 9, none⟩ = some (.bool sb) := kk.cell 9
  have k10 : w3.cell? ⟨ga, 10, none⟩ = some (.int .i64 st) := kk.cell 10
  have k11 : w3.cell? ⟨ga, 11, none⟩ = some (.int .i64 pl) := kk.cell 11
  have k12 : w3.cell? ⟨ga, 12, none⟩ = some (.int .i64 fm) := kk.cell 12
  have k13 : w3.cell? ⟨ga, 13, none⟩ = some (.int .u32 o) := kk.cell 13
  clear kk
  have kk := HD3.out
  have m0 : w3.cell? ⟨g3, 0, none⟩ = some (.bool u) := kk.cell 0
  have m1 : w3.cell? ⟨g3, 1, none⟩ = some (.int .u32 k) := kk.cell 1
  have m2 : w3.cell? ⟨g3, 2, none⟩ = some (.int .i64 kd) := kk.cell 2
  have m3 : w3.cell? ⟨g3, 3, none⟩ = some (.int .i64 dy) := kk.cell 3
  have m4 : w3.cell? ⟨g3, 4, none⟩ = some (.int .u32 ek) := kk.cell 4
  have m5 : w3.cell? ⟨g3, 5, none⟩ = some (.int .i64 ln) := kk.cell 5
  have m6 : w3.cell? ⟨g3, 6, none⟩ = some (.int .i64 am) := kk.cell 6
  have m7 : w3.cell? ⟨g3, 7, none⟩ = some (.float .f64 rt) := kk.cell 7
  have m8 : w3.cell? ⟨g3, 8, none⟩ = some (.float .f64 ic) := kk.cell 8
  have m9 : w3.cell? ⟨g3, 9, none⟩ = some (.bool sb) := kk.cell 9
  have m10 : w3.cell? ⟨g3, 10, none⟩ = some (.int .i64 st) := kk.cell 10
  have m11 : w3.cell? ⟨g3, 11, none⟩ = some (.int .i64 pl) := kk.cell 11
  have m12 : w3.cell? ⟨g3, 12, none⟩ = some (.int .i64 fm) := kk.cell 12
  have m13 : w3.cell? ⟨g3, 13, none⟩ = some (.int .u32 o) := kk.cell 13
  clear kk
  go_wp2_with fail
  refine (HK.out w3).mono ?_
  rintro r w4 ⟨rfl, hb⟩
  have HB4 := Lib.hid (HB3.out.trans (hb.mono HB3.out.size))
  clear hb
  clear k0 k1 k2 k3 k4 k5 k6 k7 k8 k9 k10 k11 k12 k13 m0 m1 m2 m3 m4 m5 m6 m7 m8 m9 m10 m11 m12 m13
  go_wp2_with fail
  refine (HQ2.out w4 HB4.out).mono ?_
  rintro r w5 ⟨rfl, hb⟩
  have HB5 := Lib.hid (HB4.out.trans (hb.mono HB4.out.size))
  clear hb
  go_upto_region 9 with fail
  have hal := (Below.refl w5.heap.size w5).alloc (Nat.le_refl _) (.cells #[.bool u2, .int .u32 k2, .int .i64 kd2, .int .i64 dy2, .int .u32 ek2, .int .i64 ln2, .int .i64 am2, .float .f64 rt2, .float .f64 ic2, .bool sb2, .int .i64 st2, .int .i64 pl2, .int .i64 fm2, .int .u32 o2] 27)
  have HD6 := Lib.hid (Blk.new w5 27 #[.bool u2, .int .u32 k2, .int .i64 kd2, .int .i64 dy2, .int .u32 ek2, .int .i64 ln2, .int .i64 am2, .float .f64 rt2, .float .f64 ic2, .bool sb2, .int .i64 st2, .int .i64 pl2, .int .i64 fm2, .int .u32 o2])
  have HB6 := Lib.hid (HB5.out.trans (hal.mono HB5.out.size))
  clear hal
  generalize w5.alloc (.cells #[.bool u2, .int .u32 k2, .int .i64 kd2, .int .i64 dy2, .int .u32 ek2, .int .i64 ln2, .int .i64 am2, .float .f64 rt2, .float .f64 ic2, .bool sb2, .int .i64 st2, .int .i64 pl2, .int .i64 fm2, .int .u32 o2] 27) = w6 at *
  generalize w5.heap.size = g6 at *
  have kk := HD6.out
  have k0 : w6.cell? ⟨g6, 0, none⟩ = some (.bool u2) := kk.cell 0
  have k1 : w6.cell? ⟨g6, 1, none⟩ = some (.int .u32 k2) := kk.cell 1
  have k2 : w6.cell? ⟨g6, 2, none⟩ = some (.int .i64 kd2) := kk.cell 2
  have k3 : w6.cell? ⟨g6, 3, none⟩ = some (.int .i64 dy2) := kk.cell 3
  have k4 : w6.cell? ⟨g6, 4, none⟩ = some (.int .u32 ek2) := kk.cell 4
  have k5 : w6.cell? ⟨g6, 5, none⟩ = some (.int .i64 ln2) := kk.cell 5
  have k6 : w6.cell? ⟨g6, 6, none⟩ = some (.int .i64 am2) := kk.cell 6
  have k7 : w6.cell? ⟨g6, 7, none⟩ = some (.float .f64 rt2) := kk.cell 7
  have k8 : w6.cell? ⟨g6, 8, none⟩ = some (.float .f64 ic2) := kk.cell 8
  have k9 : w6.cell? ⟨g6, 9, none⟩ = some (.bool sb2) := kk.cell 9
  have k10 : w6.cell? ⟨g6, 10, none⟩ = some (.int .i64 st2) := kk.cell 10
  have k11 : w6.cell? ⟨g6, 11, none⟩ = some (.int .i64 pl2) := kk.cell 11
  have k12 : w6.cell? ⟨g6, 12, none⟩ = some (.int .i64 fm2) := kk.cell 12
  have k13 : w6.cell? ⟨g6, 13, none⟩ = some (.int .u32 o2) := kk.cell 13
  clear kk
  go_wp2_with fail
  refine (HLn2.out w6 HB6.out).mono ?_
  rintro r w7 ⟨rfl, hb⟩
  have HB7 := Lib.hid (HB6.out.trans (hb.mono HB6.out.size))
  clear hb
  clear k0 k1 k2 k3 k4 k5 k6 k7 k8 k9 k10 k11 k12 k13
  go_wp2_with fail
  refine (HW.out w7 HB7.out).mono ?_
  rintro r w8 ⟨rfl, hb⟩
  have HB8 := Lib.hid (HB7.out.trans (hb.mono HB7.out.size))
  clear hb
  go_wp2_with fail
  go_ret
  exact ⟨rfl, HB8.out⟩
set_option maxRecDepth 40000 in
set_option maxHeartbeats 16000000 in
theorem back_yn (c : C) (hf : FitC c) (s : List UInt8) (w : World) (ct : Cts w) (hle : s.length ≤ 5000) (hy : fineC c = true) (hp : parB (cutC 32 s) = false) :
    Calls Tryz.prog 3 #[c.v, .string (str s)] w fun e w' => e = .returned (.bool true) ∧ Below w.heap.size w w' := by
  have hsz : (str s).size = s.length := Vw.str_size s
  obtain ⟨L, hL⟩ : ∃ L, lnC c = L := ⟨_, rfl⟩
  have hlen : L.length ≤ 2000 := hL ▸ lnC_len c hf hy
  have hQ1 : ∀ W, Below w.heap.size w W → Calls Tryz.prog 10 #[.string (str L)] W fun e w' => e = .returned (.tuple #[c.v, .int .i64 0]) ∧ Below W.heap.size W w' := fun W hB => by
    have := ct.parse L (by omega) W hB
    rw [parV_at L hf hy hL] at this
    exact this
  have hK := same_calls_c c
  have hLn : ∀ W, Below w.heap.size w W → Calls Tryz.prog 9 #[c.v] W fun e w' => e = .returned (.tuple #[.string (str L), .int .i64 0]) ∧ Below W.heap.size W w' := fun W hB => by
    have := ct.line c hf W hB
    rw [← linV_yes hy hL] at this
    exact this
  have hQ2 : ∀ W, Below w.heap.size w W → Calls Tryz.prog 10 #[.string (str s)] W fun e w' => e = .returned (.tuple #[zC.v, .int .i64 320]) ∧ Below W.heap.size W w' := fun W hB => by
    have := ct.parse s (by omega) W hB
    rw [parV_bad hp] at this
    exact this
  clear hp
  have HW := Lib.hid ct.wakes
  have hst0 : ∀ (a : Addr) (n : Nat) (W : World), (store a (.float .f64 n)).run Tryz.prog W = match W.cell? a with
      | some _ => if W.frozen? a then .halt (.unsupported (.unsafePointer "a write to bytes that a string shares")) W else .ok () (W.setCell a (.float .f64 n))
      | none => match World.farStore Tryz.prog W a (.float .f64 n) (Mode.plain == Mode.atomic) with | .ok (w', _) => .ok () w' | .error h => .halt h W := fun _ _ _ => rfl
  clear hL hlen
  clear ct hf hy
  obtain ⟨u, k, ⟨kd, dy, ek, ln, am, rt, ic, sb, st, pl, fm⟩, o⟩ := c
  have HLn : Hid (∀ W, Below w.heap.size w W → Calls Tryz.prog 9 #[.agg #[.bool u, .int .u32 k, .int .i64 kd, .int .i64 dy, .int .u32 ek, .int .i64 ln, .int .i64 am, .float .f64 rt, .float .f64 ic, .bool sb, .int .i64 st, .int .i64 pl, .int .i64 fm, .int .u32 o]] W fun e w' => e = .returned (.tuple #[.string (str L), .int .i64 0]) ∧ Below W.heap.size W w') := Lib.hid hLn
  have HQ1 : Hid (∀ W, Below w.heap.size w W → Calls Tryz.prog 10 #[.string (str L)] W fun e w' => e = .returned (.tuple #[.agg #[.bool u, .int .u32 k, .int .i64 kd, .int .i64 dy, .int .u32 ek, .int .i64 ln, .int .i64 am, .float .f64 rt, .float .f64 ic, .bool sb, .int .i64 st, .int .i64 pl, .int .i64 fm, .int .u32 o], .int .i64 0]) ∧ Below W.heap.size W w') := Lib.hid hQ1
  have HK : Hid (∀ W, Calls Tryz.prog 11 #[.agg #[.bool u, .int .u32 k, .int .i64 kd, .int .i64 dy, .int .u32 ek, .int .i64 ln, .int .i64 am, .float .f64 rt, .float .f64 ic, .bool sb, .int .i64 st, .int .i64 pl, .int .i64 fm, .int .u32 o], .agg #[.bool u, .int .u32 k, .int .i64 kd, .int .i64 dy, .int .u32 ek, .int .i64 ln, .int .i64 am, .float .f64 rt, .float .f64 ic, .bool sb, .int .i64 st, .int .i64 pl, .int .i64 fm, .int .u32 o]] W fun r w' => r = .returned (.bool true) ∧ Below W.heap.size W w') := Lib.hid hK
  have HQ2 : Hid (∀ W, Below w.heap.size w W → Calls Tryz.prog 10 #[.string (str s)] W fun e w' => e = .returned (.tuple #[.agg #[.bool false, .int .u32 0, .int .i64 0, .int .i64 0, .int .u32 0, .int .i64 0, .int .i64 0, .float .f64 0, .float .f64 0, .bool false, .int .i64 0, .int .i64 0, .int .i64 0, .int .u32 0], .int .i64 320]) ∧ Below W.heap.size W w') := Lib.hid hQ2
  clear hLn hQ2 hQ1 hK
  go_enter Tryz.func3, Tryz.ntmps3
  go_upto_region 1 with fail
  have hal := (Below.refl w.heap.size w).alloc (Nat.le_refl _) (.cells #[.bool u, .int .u32 k, .int .i64 kd, .int .i64 dy, .int .u32 ek, .int .i64 ln, .int .i64 am, .float .f64 rt, .float .f64 ic, .bool sb, .int .i64 st, .int .i64 pl, .int .i64 fm, .int .u32 o] 27)
  have HC0 := Lib.hid (Blk.new w 27 #[.bool u, .int .u32 k, .int .i64 kd, .int .i64 dy, .int .u32 ek, .int .i64 ln, .int .i64 am, .float .f64 rt, .float .f64 ic, .bool sb, .int .i64 st, .int .i64 pl, .int .i64 fm, .int .u32 o])
  have HB0 := Lib.hid hal
  clear hal
  obtain ⟨ga, hga⟩ : ∃ g, w.heap.size = g := ⟨_, rfl⟩
  rw [hga] at HC0 ⊢
  generalize w.alloc (.cells #[.bool u, .int .u32 k, .int .i64 kd, .int .i64 dy, .int .u32 ek, .int .i64 ln, .int .i64 am, .float .f64 rt, .float .f64 ic, .bool sb, .int .i64 st, .int .i64 pl, .int .i64 fm, .int .u32 o] 27) = w0 at *
  have kk := HC0.out
  have k0 : w0.cell? ⟨ga, 0, none⟩ = some (.bool u) := kk.cell 0
  have k1 : w0.cell? ⟨ga, 1, none⟩ = some (.int .u32 k) := kk.cell 1
  have k2 : w0.cell? ⟨ga, 2, none⟩ = some (.int .i64 kd) := kk.cell 2
  have k3 : w0.cell? ⟨ga, 3, none⟩ = some (.int .i64 dy) := kk.cell 3
  have k4 : w0.cell? ⟨ga, 4, none⟩ = some (.int .u32 ek) := kk.cell 4
  have k5 : w0.cell? ⟨ga, 5, none⟩ = some (.int .i64 ln) := kk.cell 5
  have k6 : w0.cell? ⟨ga, 6, none⟩ = some (.int .i64 am) := kk.cell 6
  have k7 : w0.cell? ⟨ga, 7, none⟩ = some (.float .f64 rt) := kk.cell 7
  have k8 : w0.cell? ⟨ga, 8, none⟩ = some (.float .f64 ic) := kk.cell 8
  have k9 : w0.cell? ⟨ga, 9, none⟩ = some (.bool sb) := kk.cell 9
  have k10 : w0.cell? ⟨ga, 10, none⟩ = some (.int .i64 st) := kk.cell 10
  have k11 : w0.cell? ⟨ga, 11, none⟩ = some (.int .i64 pl) := kk.cell 11
  have k12 : w0.cell? ⟨ga, 12, none⟩ = some (.int .i64 fm) := kk.cell 12
  have k13 : w0.cell? ⟨ga, 13, none⟩ = some (.int .u32 o) := kk.cell 13
  clear kk
  go_wp2_with fail
  refine (HLn.out w0 HB0.out).mono ?_
  rintro r w1 ⟨rfl, hb⟩
  have HC1 := Lib.hid (HC0.out.below hb)
  have HB1 := Lib.hid (HB0.out.trans (hb.mono HB0.out.size))
  clear hb
  clear k0 k1 k2 k3 k4 k5 k6 k7 k8 k9 k10 k11 k12 k13
  go_wp2_with fail
  refine (HQ1.out w1 HB1.out).mono ?_
  rintro r w2 ⟨rfl, hb⟩
  have HC2 := Lib.hid (HC1.out.below hb)
  have HB2 := Lib.hid (HB1.out.trans (hb.mono HB1.out.size))
  clear hb
  go_upto_region 6 with fail
  have hal := (Below.refl w2.heap.size w2).alloc (Nat.le_refl _) (.cells #[.bool u, .int .u32 k, .int .i64 kd, .int .i64 dy, .int .u32 ek, .int .i64 ln, .int .i64 am, .float .f64 rt, .float .f64 ic, .bool sb, .int .i64 st, .int .i64 pl, .int .i64 fm, .int .u32 o] 27)
  have HC3 := Lib.hid (HC2.out.below hal)
  have HD3 := Lib.hid (Blk.new w2 27 #[.bool u, .int .u32 k, .int .i64 kd, .int .i64 dy, .int .u32 ek, .int .i64 ln, .int .i64 am, .float .f64 rt, .float .f64 ic, .bool sb, .int .i64 st, .int .i64 pl, .int .i64 fm, .int .u32 o])
  have HB3 := Lib.hid (HB2.out.trans (hal.mono HB2.out.size))
  clear hal
  generalize w2.alloc (.cells #[.bool u, .int .u32 k, .int .i64 kd, .int .i64 dy, .int .u32 ek, .int .i64 ln, .int .i64 am, .float .f64 rt, .float .f64 ic, .bool sb, .int .i64 st, .int .i64 pl, .int .i64 fm, .int .u32 o] 27) = w3 at *
  generalize w2.heap.size = g3 at *
  have kk := HC3.out
  have k0 : w3.cell? ⟨ga, 0, none⟩ = some (.bool u) := kk.cell 0
  have k1 : w3.cell? ⟨ga, 1, none⟩ = some (.int .u32 k) := kk.cell 1
  have k2 : w3.cell? ⟨ga, 2, none⟩ = some (.int .i64 kd) := kk.cell 2
  have k3 : w3.cell? ⟨ga, 3, none⟩ = some (.int .i64 dy) := kk.cell 3
  have k4 : w3.cell? ⟨ga, 4, none⟩ = some (.int .u32 ek) := kk.cell 4
  have k5 : w3.cell? ⟨ga, 5, none⟩ = some (.int .i64 ln) := kk.cell 5
  have k6 : w3.cell? ⟨ga, 6, none⟩ = some (.int .i64 am) := kk.cell 6
  have k7 : w3.cell? ⟨ga, 7, none⟩ = some (.float .f64 rt) := kk.cell 7
  have k8 : w3.cell? ⟨ga, 8, none⟩ = some (.float .f64 ic) := kk.cell 8
  have k9 : w3.cell? ⟨ga, 9, none⟩ = some (.bool sb) := kk.cell 9
  have k10 : w3.cell? ⟨ga, 10, none⟩ = some (.int .i64 st) := kk.cell 10
  have k11 : w3.cell? ⟨ga, 11, none⟩ = some (.int .i64 pl) := kk.cell 11
  have k12 : w3.cell? ⟨ga, 12, none⟩ = some (.int .i64 fm) := kk.cell 12
  have k13 : w3.cell? ⟨ga, 13, none⟩ = some (.int .u32 o) := kk.cell 13
  clear kk
  have kk := HD3.out
  have m0 : w3.cell? ⟨g3, 0, none⟩ = some (.bool u) := kk.cell 0
  have m1 : w3.cell? ⟨g3, 1, none⟩ = some (.int .u32 k) := kk.cell 1
  have m2 : w3.cell? ⟨g3, 2, none⟩ = some (.int .i64 kd) := kk.cell 2
  have m3 : w3.cell? ⟨g3, 3, none⟩ = some (.int .i64 dy) := kk.cell 3
  have m4 : w3.cell? ⟨g3, 4, none⟩ = some (.int .u32 ek) := kk.cell 4
  have m5 : w3.cell? ⟨g3, 5, none⟩ = some (.int .i64 ln) := kk.cell 5
  have m6 : w3.cell? ⟨g3, 6, none⟩ = some (.int .i64 am) := kk.cell 6
  have m7 : w3.cell? ⟨g3, 7, none⟩ = some (.float .f64 rt) := kk.cell 7
  have m8 : w3.cell? ⟨g3, 8, none⟩ = some (.float .f64 ic) := kk.cell 8
  have m9 : w3.cell? ⟨g3, 9, none⟩ = some (.bool sb) := kk.cell 9
  have m10 : w3.cell? ⟨g3, 10, none⟩ = some (.int .i64 st) := kk.cell 10
  have m11 : w3.cell? ⟨g3, 11, none⟩ = some (.int .i64 pl) := kk.cell 11
  have m12 : w3.cell? ⟨g3, 12, none⟩ = some (.int .i64 fm) := kk.cell 12
  have m13 : w3.cell? ⟨g3, 13, none⟩ = some (.int .u32 o) := kk.cell 13
  clear kk
  go_wp2_with fail
  refine (HK.out w3).mono ?_
  rintro r w4 ⟨rfl, hb⟩
  have HB4 := Lib.hid (HB3.out.trans (hb.mono HB3.out.size))
  clear hb
  clear k0 k1 k2 k3 k4 k5 k6 k7 k8 k9 k10 k11 k12 k13 m0 m1 m2 m3 m4 m5 m6 m7 m8 m9 m10 m11 m12 m13
  go_wp2_with fail
  refine (HQ2.out w4 HB4.out).mono ?_
  rintro r w5 ⟨rfl, hb⟩
  have HB5 := Lib.hid (HB4.out.trans (hb.mono HB4.out.size))
  clear hb
  go_upto_region 9 with fail
  have hal := (Below.refl w5.heap.size w5).alloc (Nat.le_refl _) (.cells #[.bool false, .int .u32 0, .int .i64 0, .int .i64 0, .int .u32 0, .int .i64 0, .int .i64 0, .float .f64 0, .float .f64 0, .bool false, .int .i64 0, .int .i64 0, .int .i64 0, .int .u32 0] 27)
  have HD6 := Lib.hid (Blk.new w5 27 #[.bool false, .int .u32 0, .int .i64 0, .int .i64 0, .int .u32 0, .int .i64 0, .int .i64 0, .float .f64 0, .float .f64 0, .bool false, .int .i64 0, .int .i64 0, .int .i64 0, .int .u32 0])
  have HB6 := Lib.hid (HB5.out.trans (hal.mono HB5.out.size))
  clear hal
  generalize w5.alloc (.cells #[.bool false, .int .u32 0, .int .i64 0, .int .i64 0, .int .u32 0, .int .i64 0, .int .i64 0, .float .f64 0, .float .f64 0, .bool false, .int .i64 0, .int .i64 0, .int .i64 0, .int .u32 0] 27) = w6 at *
  generalize w5.heap.size = g6 at *
  have k1 : w6.cell? ⟨g6, 1, none⟩ = some (.int .u32 0) := HD6.out.cell 1
  go_wp2_with fail
  refine (HW.out w6 HB6.out).mono ?_
  rintro r w7 ⟨rfl, hb⟩
  have HB7 := Lib.hid (HB6.out.trans (hb.mono HB6.out.size))
  clear hb
  go_wp2_with fail
  go_ret
  exact ⟨rfl, HB7.out⟩
set_option maxRecDepth 40000 in
set_option maxHeartbeats 16000000 in
theorem back_ny (c : C) (hf : FitC c) (s : List UInt8) (w : World) (ct : Cts w) (hle : s.length ≤ 5000) (hy : fineC c = false) (hp : parB (cutC 32 s) = true) :
    Calls Tryz.prog 3 #[c.v, .string (str s)] w fun e w' => e = .returned (.bool true) ∧ Below w.heap.size w w' := by
  have hsz : (str s).size = s.length := Vw.str_size s
  have hLn : ∀ W, Below w.heap.size w W → Calls Tryz.prog 9 #[c.v] W fun e w' => e = .returned (.tuple #[.string ⟨#[]⟩, .int .i64 11]) ∧ Below W.heap.size W w' := fun W hB => by
    have := ct.line c hf W hB
    rw [← linV_no hy] at this
    exact this
  obtain ⟨hf2, hy2, hl2⟩ := back_line hp
  have hQ2 : ∀ W, Below w.heap.size w W → Calls Tryz.prog 10 #[.string (str s)] W fun e w' => e = .returned (.tuple #[(parC (cutC 32 s)).1.v, .int .i64 0]) ∧ Below W.heap.size W w' := fun W hB => by
    have := ct.parse s (by omega) W hB
    rw [parV_ok hp] at this
    exact this
  have hLn2 : ∀ W, Below w.heap.size w W → Calls Tryz.prog 9 #[(parC (cutC 32 s)).1.v] W fun e w' => e = .returned (.tuple #[.string (str s), .int .i64 0]) ∧ Below W.heap.size W w' := fun W hB => by
    have := ct.line _ hf2 W hB
    rw [← linV_yes hy2 hl2] at this
    exact this
  clear hf2 hy2 hl2 hp
  generalize (parC (cutC 32 s)).1 = c2 at *
  have HW := Lib.hid ct.wakes
  have hst0 : ∀ (a : Addr) (n : Nat) (W : World), (store a (.float .f64 n)).run Tryz.prog W = match W.cell? a with
      | some _ => if W.frozen? a then .halt (.unsupported (.unsafePointer "a write to bytes that a string shares")) W else .ok () (W.setCell a (.float .f64 n))
      | none => match World.farStore Tryz.prog W a (.float .f64 n) (Mode.plain == Mode.atomic) with | .ok (w', _) => .ok () w' | .error h => .halt h W := fun _ _ _ => rfl
  clear ct hf hy
  obtain ⟨u, k, ⟨kd, dy, ek, ln, am, rt, ic, sb, st, pl, fm⟩, o⟩ := c
  obtain ⟨u2, k2, ⟨kd2, dy2, ek2, ln2, am2, rt2, ic2, sb2, st2, pl2, fm2⟩, o2⟩ := c2
  have HLn : Hid (∀ W, Below w.heap.size w W → Calls Tryz.prog 9 #[.agg #[.bool u, .int .u32 k, .int .i64 kd, .int .i64 dy, .int .u32 ek, .int .i64 ln, .int .i64 am, .float .f64 rt, .float .f64 ic, .bool sb, .int .i64 st, .int .i64 pl, .int .i64 fm, .int .u32 o]] W fun e w' => e = .returned (.tuple #[.string ⟨#[]⟩, .int .i64 11]) ∧ Below W.heap.size W w') := Lib.hid hLn
  have HQ2 : Hid (∀ W, Below w.heap.size w W → Calls Tryz.prog 10 #[.string (str s)] W fun e w' => e = .returned (.tuple #[.agg #[.bool u2, .int .u32 k2, .int .i64 kd2, .int .i64 dy2, .int .u32 ek2, .int .i64 ln2, .int .i64 am2, .float .f64 rt2, .float .f64 ic2, .bool sb2, .int .i64 st2, .int .i64 pl2, .int .i64 fm2, .int .u32 o2], .int .i64 0]) ∧ Below W.heap.size W w') := Lib.hid hQ2
  have HLn2 : Hid (∀ W, Below w.heap.size w W → Calls Tryz.prog 9 #[.agg #[.bool u2, .int .u32 k2, .int .i64 kd2, .int .i64 dy2, .int .u32 ek2, .int .i64 ln2, .int .i64 am2, .float .f64 rt2, .float .f64 ic2, .bool sb2, .int .i64 st2, .int .i64 pl2, .int .i64 fm2, .int .u32 o2]] W fun e w' => e = .returned (.tuple #[.string (str s), .int .i64 0]) ∧ Below W.heap.size W w') := Lib.hid hLn2
  clear hLn hQ2 hLn2
  go_enter Tryz.func3, Tryz.ntmps3
  go_upto_region 1 with fail
  have hal := (Below.refl w.heap.size w).alloc (Nat.le_refl _) (.cells #[.bool u, .int .u32 k, .int .i64 kd, .int .i64 dy, .int .u32 ek, .int .i64 ln, .int .i64 am, .float .f64 rt, .float .f64 ic, .bool sb, .int .i64 st, .int .i64 pl, .int .i64 fm, .int .u32 o] 27)
  have HC0 := Lib.hid (Blk.new w 27 #[.bool u, .int .u32 k, .int .i64 kd, .int .i64 dy, .int .u32 ek, .int .i64 ln, .int .i64 am, .float .f64 rt, .float .f64 ic, .bool sb, .int .i64 st, .int .i64 pl, .int .i64 fm, .int .u32 o])
  have HB0 := Lib.hid hal
  clear hal
  obtain ⟨ga, hga⟩ : ∃ g, w.heap.size = g := ⟨_, rfl⟩
  rw [hga] at HC0 ⊢
  generalize w.alloc (.cells #[.bool u, .int .u32 k, .int .i64 kd, .int .i64 dy, .int .u32 ek, .int .i64 ln, .int .i64 am, .float .f64 rt, .float .f64 ic, .bool sb, .int .i64 st, .int .i64 pl, .int .i64 fm, .int .u32 o] 27) = w0 at *
  have kk := HC0.out
  have k0 : w0.cell? ⟨ga, 0, none⟩ = some (.bool u) := kk.cell 0
  have k1 : w0.cell? ⟨ga, 1, none⟩ = some (.int .u32 k) := kk.cell 1
  have k2 : w0.cell? ⟨ga, 2, none⟩ = some (.int .i64 kd) := kk.cell 2
  have k3 : w0.cell? ⟨ga, 3, none⟩ = some (.int .i64 dy) := kk.cell 3
  have k4 : w0.cell? ⟨ga, 4, none⟩ = some (.int .u32 ek) := kk.cell 4
  have k5 : w0.cell? ⟨ga, 5, none⟩ = some (.int .i64 ln) := kk.cell 5
  have k6 : w0.cell? ⟨ga, 6, none⟩ = some (.int .i64 am) := kk.cell 6
  have k7 : w0.cell? ⟨ga, 7, none⟩ = some (.float .f64 rt) := kk.cell 7
  have k8 : w0.cell? ⟨ga, 8, none⟩ = some (.float .f64 ic) := kk.cell 8
  have k9 : w0.cell? ⟨ga, 9, none⟩ = some (.bool sb) := kk.cell 9
  have k10 : w0.cell? ⟨ga, 10, none⟩ = some (.int .i64 st) := kk.cell 10
  have k11 : w0.cell? ⟨ga, 11, none⟩ = some (.int .i64 pl) := kk.cell 11
  have k12 : w0.cell? ⟨ga, 12, none⟩ = some (.int .i64 fm) := kk.cell 12
  have k13 : w0.cell? ⟨ga, 13, none⟩ = some (.int .u32 o) := kk.cell 13
  clear kk
  go_wp2_with fail
  refine (HLn.out w0 HB0.out).mono ?_
  rintro r w1 ⟨rfl, hb⟩
  have HC1 := Lib.hid (HC0.out.below hb)
  have HB1 := Lib.hid (HB0.out.trans (hb.mono HB0.out.size))
  clear hb
  clear k0 k1 k2 k3 k4 k5 k6 k7 k8 k9 k10 k11 k12 k13
  go_wp2_with fail
  refine (HQ2.out w1 HB1.out).mono ?_
  rintro r w2 ⟨rfl, hb⟩
  have HB2 := Lib.hid (HB1.out.trans (hb.mono HB1.out.size))
  clear hb
  go_upto_region 9 with fail
  have hal := (Below.refl w2.heap.size w2).alloc (Nat.le_refl _) (.cells #[.bool u2, .int .u32 k2, .int .i64 kd2, .int .i64 dy2, .int .u32 ek2, .int .i64 ln2, .int .i64 am2, .float .f64 rt2, .float .f64 ic2, .bool sb2, .int .i64 st2, .int .i64 pl2, .int .i64 fm2, .int .u32 o2] 27)
  have HD3 := Lib.hid (Blk.new w2 27 #[.bool u2, .int .u32 k2, .int .i64 kd2, .int .i64 dy2, .int .u32 ek2, .int .i64 ln2, .int .i64 am2, .float .f64 rt2, .float .f64 ic2, .bool sb2, .int .i64 st2, .int .i64 pl2, .int .i64 fm2, .int .u32 o2])
  have HB3 := Lib.hid (HB2.out.trans (hal.mono HB2.out.size))
  clear hal
  generalize w2.alloc (.cells #[.bool u2, .int .u32 k2, .int .i64 kd2, .int .i64 dy2, .int .u32 ek2, .int .i64 ln2, .int .i64 am2, .float .f64 rt2, .float .f64 ic2, .bool sb2, .int .i64 st2, .int .i64 pl2, .int .i64 fm2, .int .u32 o2] 27) = w3 at *
  generalize w2.heap.size = g3 at *
  have kk := HD3.out
  have k0 : w3.cell? ⟨g3, 0, none⟩ = some (.bool u2) := kk.cell 0
  have k1 : w3.cell? ⟨g3, 1, none⟩ = some (.int .u32 k2) := kk.cell 1
  have k2 : w3.cell? ⟨g3, 2, none⟩ = some (.int .i64 kd2) := kk.cell 2
  have k3 : w3.cell? ⟨g3, 3, none⟩ = some (.int .i64 dy2) := kk.cell 3
  have k4 : w3.cell? ⟨g3, 4, none⟩ = some (.int .u32 ek2) := kk.cell 4
  have k5 : w3.cell? ⟨g3, 5, none⟩ = some (.int .i64 ln2) := kk.cell 5
  have k6 : w3.cell? ⟨g3, 6, none⟩ = some (.int .i64 am2) := kk.cell 6
  have k7 : w3.cell? ⟨g3, 7, none⟩ = some (.float .f64 rt2) := kk.cell 7
  have k8 : w3.cell? ⟨g3, 8, none⟩ = some (.float .f64 ic2) := kk.cell 8
  have k9 : w3.cell? ⟨g3, 9, none⟩ = some (.bool sb2) := kk.cell 9
  have k10 : w3.cell? ⟨g3, 10, none⟩ = some (.int .i64 st2) := kk.cell 10
  have k11 : w3.cell? ⟨g3, 11, none⟩ = some (.int .i64 pl2) := kk.cell 11
  have k12 : w3.cell? ⟨g3, 12, none⟩ = some (.int .i64 fm2) := kk.cell 12
  have k13 : w3.cell? ⟨g3, 13, none⟩ = some (.int .u32 o2) := kk.cell 13
  clear kk
  go_wp2_with fail
  refine (HLn2.out w3 HB3.out).mono ?_
  rintro r w4 ⟨rfl, hb⟩
  have HB4 := Lib.hid (HB3.out.trans (hb.mono HB3.out.size))
  clear hb
  clear k0 k1 k2 k3 k4 k5 k6 k7 k8 k9 k10 k11 k12 k13
  go_wp2_with fail
  refine (HW.out w4 HB4.out).mono ?_
  rintro r w5 ⟨rfl, hb⟩
  have HB5 := Lib.hid (HB4.out.trans (hb.mono HB4.out.size))
  clear hb
  go_wp2_with fail
  go_ret
  exact ⟨rfl, HB5.out⟩
set_option maxRecDepth 40000 in
set_option maxHeartbeats 16000000 in
theorem back_nn (c : C) (hf : FitC c) (s : List UInt8) (w : World) (ct : Cts w) (hle : s.length ≤ 5000) (hy : fineC c = false) (hp : parB (cutC 32 s) = false) :
    Calls Tryz.prog 3 #[c.v, .string (str s)] w fun e w' => e = .returned (.bool true) ∧ Below w.heap.size w w' := by
  have hsz : (str s).size = s.length := Vw.str_size s
  have hLn : ∀ W, Below w.heap.size w W → Calls Tryz.prog 9 #[c.v] W fun e w' => e = .returned (.tuple #[.string ⟨#[]⟩, .int .i64 11]) ∧ Below W.heap.size W w' := fun W hB => by
    have := ct.line c hf W hB
    rw [← linV_no hy] at this
    exact this
  have hQ2 : ∀ W, Below w.heap.size w W → Calls Tryz.prog 10 #[.string (str s)] W fun e w' => e = .returned (.tuple #[zC.v, .int .i64 320]) ∧ Below W.heap.size W w' := fun W hB => by
    have := ct.parse s (by omega) W hB
    rw [parV_bad hp] at this
    exact this
  clear hp
  have HW := Lib.hid ct.wakes
  have hst0 : ∀ (a : Addr) (n : Nat) (W : World), (store a (.float .f64 n)).run Tryz.prog W = match W.cell? a with
      | some _ => if W.frozen? a then .halt (.unsupported (.unsafePointer "a write to bytes that a string shares")) W else .ok () (W.setCell a (.float .f64 n))
      | none => match World.farStore Tryz.prog W a (.float .f64 n) (Mode.plain == Mode.atomic) with | .ok (w', _) => .ok () w' | .error h => .halt h W := fun _ _ _ => rfl
  clear ct hf hy
  obtain ⟨u, k, ⟨kd, dy, ek, ln, am, rt, ic, sb, st, pl, fm⟩, o⟩ := c
  have HLn : Hid (∀ W, Below w.heap.size w W → Calls Tryz.prog 9 #[.agg #[.bool u, .int .u32 k, .int .i64 kd, .int .i64 dy, .int .u32 ek, .int .i64 ln, .int .i64 am, .float .f64 rt, .float .f64 ic, .bool sb, .int .i64 st, .int .i64 pl, .int .i64 fm, .int .u32 o]] W fun e w' => e = .returned (.tuple #[.string ⟨#[]⟩, .int .i64 11]) ∧ Below W.heap.size W w') := Lib.hid hLn
  have HQ2 : Hid (∀ W, Below w.heap.size w W → Calls Tryz.prog 10 #[.string (str s)] W fun e w' => e = .returned (.tuple #[.agg #[.bool false, .int .u32 0, .int .i64 0, .int .i64 0, .int .u32 0, .int .i64 0, .int .i64 0, .float .f64 0, .float .f64 0, .bool false, .int .i64 0, .int .i64 0, .int .i64 0, .int .u32 0], .int .i64 320]) ∧ Below W.heap.size W w') := Lib.hid hQ2
  clear hLn hQ2
  go_enter Tryz.func3, Tryz.ntmps3
  go_upto_region 1 with fail
  have hal := (Below.refl w.heap.size w).alloc (Nat.le_refl _) (.cells #[.bool u, .int .u32 k, .int .i64 kd, .int .i64 dy, .int .u32 ek, .int .i64 ln, .int .i64 am, .float .f64 rt, .float .f64 ic, .bool sb, .int .i64 st, .int .i64 pl, .int .i64 fm, .int .u32 o] 27)
  have HC0 := Lib.hid (Blk.new w 27 #[.bool u, .int .u32 k, .int .i64 kd, .int .i64 dy, .int .u32 ek, .int .i64 ln, .int .i64 am, .float .f64 rt, .float .f64 ic, .bool sb, .int .i64 st, .int .i64 pl, .int .i64 fm, .int .u32 o])
  have HB0 := Lib.hid hal
  clear hal
  obtain ⟨ga, hga⟩ : ∃ g, w.heap.size = g := ⟨_, rfl⟩
  rw [hga] at HC0 ⊢
  generalize w.alloc (.cells #[.bool u, .int .u32 k, .int .i64 kd, .int .i64 dy, .int .u32 ek, .int .i64 ln, .int .i64 am, .float .f64 rt, .float .f64 ic, .bool sb, .int .i64 st, .int .i64 pl, .int .i64 fm, .int .u32 o] 27) = w0 at *
  have kk := HC0.out
  have k0 : w0.cell? ⟨ga, 0, none⟩ = some (.bool u) := kk.cell 0
  have k1 : w0.cell? ⟨ga, 1, none⟩ = some (.int .u32 k) := kk.cell 1
  have k2 : w0.cell? ⟨ga, 2, none⟩ = some (.int .i64 kd) := kk.cell 2
  have k3 : w0.cell? ⟨ga, 3, none⟩ = some (.int .i64 dy) := kk.cell 3
  have k4 : w0.cell? ⟨ga, 4, none⟩ = some (.int .u32 ek) := kk.cell 4
  have k5 : w0.cell? ⟨ga, 5, none⟩ = some (.int .i64 ln) := kk.cell 5
  have k6 : w0.cell? ⟨ga, 6, none⟩ = some (.int .i64 am) := kk.cell 6
  have k7 : w0.cell? ⟨ga, 7, none⟩ = some (.float .f64 rt) := kk.cell 7
  have k8 : w0.cell? ⟨ga, 8, none⟩ = some (.float .f64 ic) := kk.cell 8
  have k9 : w0.cell? ⟨ga, 9, none⟩ = some (.bool sb) := kk.cell 9
  have k10 : w0.cell? ⟨ga, 10, none⟩ = some (.int .i64 st) := kk.cell 10
  have k11 : w0.cell? ⟨ga, 11, none⟩ = some (.int .i64 pl) := kk.cell 11
  have k12 : w0.cell? ⟨ga, 12, none⟩ = some (.int .i64 fm) := kk.cell 12
  have k13 : w0.cell? ⟨ga, 13, none⟩ = some (.int .u32 o) := kk.cell 13
  clear kk
  go_wp2_with fail
  refine (HLn.out w0 HB0.out).mono ?_
  rintro r w1 ⟨rfl, hb⟩
  have HC1 := Lib.hid (HC0.out.below hb)
  have HB1 := Lib.hid (HB0.out.trans (hb.mono HB0.out.size))
  clear hb
  clear k0 k1 k2 k3 k4 k5 k6 k7 k8 k9 k10 k11 k12 k13
  go_wp2_with fail
  refine (HQ2.out w1 HB1.out).mono ?_
  rintro r w2 ⟨rfl, hb⟩
  have HB2 := Lib.hid (HB1.out.trans (hb.mono HB1.out.size))
  clear hb
  go_upto_region 9 with fail
  have hal := (Below.refl w2.heap.size w2).alloc (Nat.le_refl _) (.cells #[.bool false, .int .u32 0, .int .i64 0, .int .i64 0, .int .u32 0, .int .i64 0, .int .i64 0, .float .f64 0, .float .f64 0, .bool false, .int .i64 0, .int .i64 0, .int .i64 0, .int .u32 0] 27)
  have HD3 := Lib.hid (Blk.new w2 27 #[.bool false, .int .u32 0, .int .i64 0, .int .i64 0, .int .u32 0, .int .i64 0, .int .i64 0, .float .f64 0, .float .f64 0, .bool false, .int .i64 0, .int .i64 0, .int .i64 0, .int .u32 0])
  have HB3 := Lib.hid (HB2.out.trans (hal.mono HB2.out.size))
  clear hal
  generalize w2.alloc (.cells #[.bool false, .int .u32 0, .int .i64 0, .int .i64 0, .int .u32 0, .int .i64 0, .int .i64 0, .float .f64 0, .float .f64 0, .bool false, .int .i64 0, .int .i64 0, .int .i64 0, .int .u32 0] 27) = w3 at *
  generalize w2.heap.size = g3 at *
  have k1 : w3.cell? ⟨g3, 1, none⟩ = some (.int .u32 0) := HD3.out.cell 1
  go_wp2_with fail
  refine (HW.out w3 HB3.out).mono ?_
  rintro r w4 ⟨rfl, hb⟩
  have HB4 := Lib.hid (HB3.out.trans (hb.mono HB3.out.size))
  clear hb
  go_wp2_with fail
  go_ret
  exact ⟨rfl, HB4.out⟩
set_option maxRecDepth 40000 in
theorem back_long (c : C) (s : List UInt8) (w : World) (ct : Cts w) (hle : 5000 < s.length) :
    Calls Tryz.prog 3 #[c.v, .string (str s)] w fun e w' => e = .returned (.bool true) ∧ Below w.heap.size w w' := by
  have hsz : (str s).size = s.length := Vw.str_size s
  have HW := Lib.hid ct.wakes
  clear ct
  obtain ⟨u, k, ⟨kd, dy, ek, ln, am, rt, ic, sb, st, pl, fm⟩, o⟩ := c
  go_enter Tryz.func3, Tryz.ntmps3
  go_upto_region 1 with fail
  have HB0 := Lib.hid ((Below.refl w.heap.size w).alloc (Nat.le_refl _) (.cells #[.bool u, .int .u32 k, .int .i64 kd, .int .i64 dy, .int .u32 ek, .int .i64 ln, .int .i64 am, .float .f64 rt, .float .f64 ic, .bool sb, .int .i64 st, .int .i64 pl, .int .i64 fm, .int .u32 o] 27))
  generalize w.alloc (.cells #[.bool u, .int .u32 k, .int .i64 kd, .int .i64 dy, .int .u32 ek, .int .i64 ln, .int .i64 am, .float .f64 rt, .float .f64 ic, .bool sb, .int .i64 st, .int .i64 pl, .int .i64 fm, .int .u32 o] 27) = w0 at *
  go_wp2_with fail
  refine (HW.out w0 HB0.out).mono ?_
  rintro r w1 ⟨rfl, hb⟩
  have HB1 := Lib.hid (HB0.out.trans (hb.mono HB0.out.size))
  clear hb
  go_wp2_with fail
  go_ret
  exact ⟨rfl, HB1.out⟩
theorem back_walk (c : C) (hf : FitC c) (s : List UInt8) (w : World) (hg : Gl w) (hT : w.cell? ⟨5, 15, none⟩ = some (.int .u8 4)) :
    Calls Tryz.prog 3 #[c.v, .string (str s)] w fun e w' => e = .returned (.bool true) ∧ Below w.heap.size w w' := by
  have ct := cts_of hg hT
  by_cases hle : s.length ≤ 5000
  · cases hy : fineC c <;> cases hp : parB (cutC 32 s)
    · exact back_nn c hf s w ct hle hy hp
    · exact back_ny c hf s w ct hle hy hp
    · exact back_yn c hf s w ct hle hy hp
    · exact back_yy c hf s w ct hle hy hp
  · exact back_long c s w ct (by omega)
end Go.Proofs.YtkcjgmicoifhcaaGreatDoor.Cn
