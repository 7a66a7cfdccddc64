/- ConsoleParses. (Printed by gen_w6.py.) -/
import Derived.Test.YtkcjgmicoifhcaaGreatDoorWh
import Derived.Test.YtkcjgmicoifhcaaGreatDoorM19
namespace Go.Proofs.YtkcjgmicoifhcaaGreatDoor.Cn
open Go.RowKit Go.Sort Go.Lib Go.Shelf
open Vw (Tab str Blk)
open Ev (E C fineC goodE)
attribute [local go_sem ↓] Go.wp_at_zero Go.wp_at_succ

set_option maxRecDepth 40000 in
set_option maxHeartbeats 16000000 in
theorem parses_y (s : List UInt8) (w : World) (ct : Cts w) (hle : s.length ≤ 5000) (hp : parB (cutC 32 s) = true) :
    Calls Tryz.prog 6 #[.string (str s)] w fun e w' => e = .returned (.bool true) ∧ Below w.heap.size w w' := by
  have hsz : (str s).size = s.length := Vw.str_size s
  have hQ : ∀ W, Below w.heap.size w W → Calls Tryz.prog 10 #[.string (str s)] W fun e w' => e = .returned (.tuple #[(parC (cutC 32 s)).1.v, .int .i64 0]) ∧ Below W.heap.size W w' := fun W hB => by
    have := ct.parse s (by omega) W hB
    rw [parV_ok hp] at this
    exact this
  have hR : ∀ W, Calls Tryz.prog 12 #[.string (str s)] W fun e w' => e = .returned (.tuple #[(parC (cutC 32 s)).1.v, .int .i64 0]) ∧ Below W.heap.size W w' := fun W => by
    have := rpar_calls s (by omega) W
    rw [parV_ok hp] at this
    exact this
  have hK := same_calls_c (parC (cutC 32 s)).1
  clear hp
  generalize (parC (cutC 32 s)).1 = c2 at *
  have HW := Lib.hid ct.wakes
  have hst0 := st_f64
  clear ct
  obtain ⟨u2, k2, ⟨kd2, dy2, ek2, ln2, am2, rt2, ic2, sb2, st2, pl2, fm2⟩, o2⟩ := c2
  have HQ : Hid (∀ W, Below w.heap.size w W → Calls Tryz.prog 10 #[.string (str s)] W fun e w' => e = .returned (.tuple #[.agg #[.bool u2, .int .u32 k2, .int .i64 kd2, .int .i64 dy2, .int .u32 ek2, .int .i64 ln2, .int .i64 am2, .float .f64 rt2, .float .f64 ic2, .bool sb2, .int .i64 st2, .int .i64 pl2, .int .i64 fm2, .int .u32 o2], .int .i64 0]) ∧ Below W.heap.size W w') := Lib.hid hQ
  have HR : Hid (∀ W, Calls Tryz.prog 12 #[.string (str s)] W fun e w' => e = .returned (.tuple #[.agg #[.bool u2, .int .u32 k2, .int .i64 kd2, .int .i64 dy2, .int .u32 ek2, .int .i64 ln2, .int .i64 am2, .float .f64 rt2, .float .f64 ic2, .bool sb2, .int .i64 st2, .int .i64 pl2, .int .i64 fm2, .int .u32 o2], .int .i64 0]) ∧ Below W.heap.size W w') := Lib.hid hR
  have HK : Hid (∀ W, Calls Tryz.prog 11 #[.agg #[.bool u2, .int .u32 k2, .int .i64 kd2, .int .i64 dy2, .int .u32 ek2, .int .i64 ln2, .int .i64 am2, .float .f64 rt2, .float .f64 ic2, .bool sb2, .int .i64 st2, .int .i64 pl2, .int .i64 fm2, .int .u32 o2], .agg #[.bool u2, .int .u32 k2, .int .i64 kd2, .int .i64 dy2, .int .u32 ek2, .int .i64 ln2, .int .i64 am2, .float .f64 rt2, .float .f64 ic2, .bool sb2, .int .i64 st2, .int .i64 pl2, .int .i64 fm2, .int .u32 o2]] W fun r w' => r = .returned (.bool true) ∧ Below W.heap.size W w') := Lib.hid hK
  clear hQ hR hK
  have HB0 := Lib.hid (Below.refl w.heap.size w)
  go_enter Tryz.func6, Tryz.ntmps6
  go_wp2_with fail
  refine (HQ.out w HB0.out).mono ?_
  rintro r w1 ⟨rfl, hb⟩
  have HB1 := Lib.hid (HB0.out.trans (hb.mono HB0.out.size))
  clear hb
  go_upto_region 4 with fail
  have hal := (Below.refl w1.heap.size w1).alloc (Nat.le_refl _) (.cells #[.bool u2, .int .u32 k2, .int .i64 kd2, .int .i64 dy2, .int .u32 ek2, .int .i64 ln2, .int .i64 am2, .float .f64 rt2, .float .f64 ic2, .bool sb2, .int .i64 st2, .int .i64 pl2, .int .i64 fm2, .int .u32 o2] 27)
  have HD2 := Lib.hid (Blk.new w1 27 #[.bool u2, .int .u32 k2, .int .i64 kd2, .int .i64 dy2, .int .u32 ek2, .int .i64 ln2, .int .i64 am2, .float .f64 rt2, .float .f64 ic2, .bool sb2, .int .i64 st2, .int .i64 pl2, .int .i64 fm2, .int .u32 o2])
  have HB2 := Lib.hid (HB1.out.trans (hal.mono HB1.out.size))
  clear hal
  generalize w1.alloc (.cells #[.bool u2, .int .u32 k2, .int .i64 kd2, .int .i64 dy2, .int .u32 ek2, .int .i64 ln2, .int .i64 am2, .float .f64 rt2, .float .f64 ic2, .bool sb2, .int .i64 st2, .int .i64 pl2, .int .i64 fm2, .int .u32 o2] 27) = w2 at *
  generalize w1.heap.size = g2 at *
  go_wp2_with fail
  refine (HR.out w2).mono ?_
  rintro r w3 ⟨rfl, hb⟩
  have HB3 := Lib.hid (HB2.out.trans (hb.mono HB2.out.size))
  have HC3 := Lib.hid (HD2.out.below hb)
  clear hb
  go_upto_region 5 with fail
  have hal := (Below.refl w3.heap.size w3).alloc (Nat.le_refl _) (.cells #[.bool u2, .int .u32 k2, .int .i64 kd2, .int .i64 dy2, .int .u32 ek2, .int .i64 ln2, .int .i64 am2, .float .f64 rt2, .float .f64 ic2, .bool sb2, .int .i64 st2, .int .i64 pl2, .int .i64 fm2, .int .u32 o2] 27)
  have HC4 := Lib.hid (HC3.out.below hal)
  have HD4 := Lib.hid (Blk.new w3 27 #[.bool u2, .int .u32 k2, .int .i64 kd2, .int .i64 dy2, .int .u32 ek2, .int .i64 ln2, .int .i64 am2, .float .f64 rt2, .float .f64 ic2, .bool sb2, .int .i64 st2, .int .i64 pl2, .int .i64 fm2, .int .u32 o2])
  have HB4 := Lib.hid (HB3.out.trans (hal.mono HB3.out.size))
  clear hal
  generalize w3.alloc (.cells #[.bool u2, .int .u32 k2, .int .i64 kd2, .int .i64 dy2, .int .u32 ek2, .int .i64 ln2, .int .i64 am2, .float .f64 rt2, .float .f64 ic2, .bool sb2, .int .i64 st2, .int .i64 pl2, .int .i64 fm2, .int .u32 o2] 27) = w4 at *
  generalize w3.heap.size = g4 at *
  have kk := HC4.out
  obtain ⟨p0, p1, p2, p3, p4, p5, p6, p7, p8, p9, p10, p11, p12, p13⟩ := cm_cells kk
  clear kk
  have kk := HD4.out
  obtain ⟨q0, q1, q2, q3, q4, q5, q6, q7, q8, q9, q10, q11, q12, q13⟩ := cm_cells kk
  clear kk
  go_wp2_with fail
  refine (HK.out w4).mono ?_
  rintro r w5 ⟨rfl, hb⟩
  have HB5 := Lib.hid (HB4.out.trans (hb.mono HB4.out.size))
  clear hb p0 p1 p2 p3 p4 p5 p6 p7 p8 p9 p10 p11 p12 p13 q0 q1 q2 q3 q4 q5 q6 q7 q8 q9 q10 q11 q12 q13
  go_wp2_with fail
  refine (HW.out w5 HB5.out).mono ?_
  rintro r w6 ⟨rfl, hb⟩
  have HB6 := Lib.hid (HB5.out.trans (hb.mono HB5.out.size))
  clear hb
  go_wp2_with fail
  go_ret
  exact ⟨rfl, HB6.out⟩
set_option maxRecDepth 40000 in
set_option maxHeartbeats 16000000 in
theorem parses_n (s : List UInt8) (w : World) (ct : Cts w) (hle : s.length ≤ 5000) (hp : parB (cutC 32 s) = false) :
    Calls Tryz.prog 6 #[.string (str s)] w fun e w' => e = .returned (.bool true) ∧ Below w.heap.size w w' := by
  have hsz : (str s).size = s.length := Vw.str_size s
  have hQ : ∀ W, Below w.heap.size w W → Calls Tryz.prog 10 #[.string (str s)] W fun e w' => e = .returned (.tuple #[zC.v, .int .i64 320]) ∧ Below W.heap.size W w' := fun W hB => by
    have := ct.parse s (by omega) W hB
    rw [parV_bad hp] at this
    exact this
  have hR : ∀ W, Calls Tryz.prog 12 #[.string (str s)] W fun e w' => e = .returned (.tuple #[zC.v, .int .i64 320]) ∧ Below W.heap.size W w' := fun W => by
    have := rpar_calls s (by omega) W
    rw [parV_bad hp] at this
    exact this
  have hK := same_calls_c zC
  clear hp
  have HW := Lib.hid ct.wakes
  have hst0 := st_f64
  clear ct
  have HQ : Hid (∀ W, Below w.heap.size w W → Calls Tryz.prog 10 #[.string (str s)] W fun e w' => e = .returned (.tuple #[.agg #[.bool false, .int .u32 0, .int .i64 0, .int .i64 0, .int .u32 0, .int .i64 0, .int .i64 0, .float .f64 0, .float .f64 0, .bool false, .int .i64 0, .int .i64 0, .int .i64 0, .int .u32 0], .int .i64 320]) ∧ Below W.heap.size W w') := Lib.hid hQ
  have HR : Hid (∀ W, Calls Tryz.prog 12 #[.string (str s)] W fun e w' => e = .returned (.tuple #[.agg #[.bool false, .int .u32 0, .int .i64 0, .int .i64 0, .int .u32 0, .int .i64 0, .int .i64 0, .float .f64 0, .float .f64 0, .bool false, .int .i64 0, .int .i64 0, .int .i64 0, .int .u32 0], .int .i64 320]) ∧ Below W.heap.size W w') := Lib.hid hR
  have HK : Hid (∀ W, Calls Tryz.prog 11 #[.agg #[.bool false, .int .u32 0, .int .i64 0, .int .i64 0, .int .u32 0, .int .i64 0, .int .i64 0, .float .f64 0, .float .f64 0, .bool false, .int .i64 0, .int .i64 0, .int .i64 0, .int .u32 0], .agg #[.bool false, .int .u32 0, .int .i64 0, .int .i64 0, .int .u32 0, .int .i64 0, .int .i64 0, .float .f64 0, .float .f64 0, .bool false, .int .i64 0, .int .i64 0, .int .i64 0, .int .u32 0]] W fun r w' => r = .returned (.bool true) ∧ Below W.heap.size W w') := Lib.hid hK
  clear hQ hR hK
  have HB0 := Lib.hid (Below.refl w.heap.size w)
  go_enter Tryz.func6, Tryz.ntmps6
  go_wp2_with fail
  refine (HQ.out w HB0.out).mono ?_
  rintro r w1 ⟨rfl, hb⟩
  have HB1 := Lib.hid (HB0.out.trans (hb.mono HB0.out.size))
  clear hb
  go_upto_region 4 with fail
  have hal := (Below.refl w1.heap.size w1).alloc (Nat.le_refl _) (.cells #[.bool false, .int .u32 0, .int .i64 0, .int .i64 0, .int .u32 0, .int .i64 0, .int .i64 0, .float .f64 0, .float .f64 0, .bool false, .int .i64 0, .int .i64 0, .int .i64 0, .int .u32 0] 27)
  have HD2 := Lib.hid (Blk.new w1 27 #[.bool false, .int .u32 0, .int .i64 0, .int .i64 0, .int .u32 0, .int .i64 0, .int .i64 0, .float .f64 0, .float .f64 0, .bool false, .int .i64 0, .int .i64 0, .int .i64 0, .int .u32 0])
  have HB2 := Lib.hid (HB1.out.trans (hal.mono HB1.out.size))
  clear hal
  generalize w1.alloc (.cells #[.bool false, .int .u32 0, .int .i64 0, .int .i64 0, .int .u32 0, .int .i64 0, .int .i64 0, .float .f64 0, .float .f64 0, .bool false, .int .i64 0, .int .i64 0, .int .i64 0, .int .u32 0] 27) = w2 at *
  generalize w1.heap.size = g2 at *
  go_wp2_with fail
  refine (HR.out w2).mono ?_
  rintro r w3 ⟨rfl, hb⟩
  have HB3 := Lib.hid (HB2.out.trans (hb.mono HB2.out.size))
  have HC3 := Lib.hid (HD2.out.below hb)
  clear hb
  go_upto_region 5 with fail
  have hal := (Below.refl w3.heap.size w3).alloc (Nat.le_refl _) (.cells #[.bool false, .int .u32 0, .int .i64 0, .int .i64 0, .int .u32 0, .int .i64 0, .int .i64 0, .float .f64 0, .float .f64 0, .bool false, .int .i64 0, .int .i64 0, .int .i64 0, .int .u32 0] 27)
  have HC4 := Lib.hid (HC3.out.below hal)
  have HD4 := Lib.hid (Blk.new w3 27 #[.bool false, .int .u32 0, .int .i64 0, .int .i64 0, .int .u32 0, .int .i64 0, .int .i64 0, .float .f64 0, .float .f64 0, .bool false, .int .i64 0, .int .i64 0, .int .i64 0, .int .u32 0])
  have HB4 := Lib.hid (HB3.out.trans (hal.mono HB3.out.size))
  clear hal
  generalize w3.alloc (.cells #[.bool false, .int .u32 0, .int .i64 0, .int .i64 0, .int .u32 0, .int .i64 0, .int .i64 0, .float .f64 0, .float .f64 0, .bool false, .int .i64 0, .int .i64 0, .int .i64 0, .int .u32 0] 27) = w4 at *
  generalize w3.heap.size = g4 at *
  have kk := HC4.out
  obtain ⟨p0, p1, p2, p3, p4, p5, p6, p7, p8, p9, p10, p11, p12, p13⟩ := cm_cells kk
  clear kk
  have kk := HD4.out
  obtain ⟨q0, q1, q2, q3, q4, q5, q6, q7, q8, q9, q10, q11, q12, q13⟩ := cm_cells kk
  clear kk
  go_wp2_with fail
  refine (HK.out w4).mono ?_
  rintro r w5 ⟨rfl, hb⟩
  have HB5 := Lib.hid (HB4.out.trans (hb.mono HB4.out.size))
  clear hb p0 p1 p2 p3 p4 p5 p6 p7 p8 p9 p10 p11 p12 p13 q0 q1 q2 q3 q4 q5 q6 q7 q8 q9 q10 q11 q12 q13
  go_wp2_with fail
  refine (HW.out w5 HB5.out).mono ?_
  rintro r w6 ⟨rfl, hb⟩
  have HB6 := Lib.hid (HB5.out.trans (hb.mono HB5.out.size))
  clear hb
  go_wp2_with fail
  go_ret
  exact ⟨rfl, HB6.out⟩
set_option maxRecDepth 40000 in
theorem parses_long (s : List UInt8) (w : World) (ct : Cts w) (hle : 5000 < s.length) :
    Calls Tryz.prog 6 #[.string (str s)] w fun e w' => e = .returned (.bool true) ∧ Below w.heap.size w w' := by
  have hsz : (str s).size = s.length := Vw.str_size s
  have HW := Lib.hid (ct.wakes w (Below.refl _ _))
  clear ct
  go_enter Tryz.func6, Tryz.ntmps6
  go_wp2_with fail
  refine HW.out.mono ?_
  rintro r w1 ⟨rfl, hb⟩
  have HB1 := Lib.hid hb
  clear hb
  go_wp2_with fail
  go_ret
  exact ⟨rfl, HB1.out⟩
theorem parses_walk (s : List UInt8) (w : World) (hg : Gl w) (hT : w.cell? ⟨5, 15, none⟩ = some (.int .u8 4)) :
    Calls Tryz.prog 6 #[.string (str s)] w fun e w' => e = .returned (.bool true) ∧ Below w.heap.size w w' := by
  have ct := cts_of hg hT
  by_cases hle : s.length ≤ 5000
  · cases hp : parB (cutC 32 s)
    · exact parses_n s w ct hle hp
    · exact parses_y s w ct hle hp
  · exact parses_long s w ct (by omega)
end Go.Proofs.YtkcjgmicoifhcaaGreatDoor.Cn
