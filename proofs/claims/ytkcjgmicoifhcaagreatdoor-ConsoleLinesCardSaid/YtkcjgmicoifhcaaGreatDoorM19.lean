/- Texts joined: T0. -/
import Derived.Test.YtkcjgmicoifhcaaGreatDoorM13
import Derived.Test.YtkcjgmicoifhcaaGreatDoorM18
import Derived.Test.YtkcjgmicoifhcaaGreatDoorM4

/- T0: The reference's Parse. (Printed by gen_t0.py.) -/
namespace Go.Proofs.YtkcjgmicoifhcaaGreatDoor.Cn
open Go.RowKit Go.Sort Go.Lib Go.Shelf
open Vw (Tab str Blk)
open Ev (E C fineC)
attribute [local go_sem ↓] Go.wp_at_zero Go.wp_at_succ

set_option maxRecDepth 40000 in
set_option maxHeartbeats 32000000 in
theorem rpar_calls (l : List UInt8) (hl : l.length ≤ 900000) (w : World) :
    Calls Tryz.prog 12 #[.string (str l)] w fun r w' => r = .returned (parV (cutC 32 l)) ∧ Below w.heap.size w w' := by
  have hB1 := (Below.refl w.heap.size w).alloc (Nat.le_refl _) (.cells #[.bool false, .int .u32 0, .int .i64 0, .int .i64 0, .int .u32 0, .int .i64 0, .int .i64 0, .float .f64 0, .float .f64 0, .bool false, .int .i64 0, .int .i64 0, .int .i64 0, .int .u32 0] 27)
  have hZ1 := Blk.new w 27 #[.bool false, .int .u32 0, .int .i64 0, .int .i64 0, .int .u32 0, .int .i64 0, .int .i64 0, .float .f64 0, .float .f64 0, .bool false, .int .i64 0, .int .i64 0, .int .i64 0, .int .u32 0]
  obtain ⟨w1, hw1⟩ : ∃ w1, w.alloc (.cells #[.bool false, .int .u32 0, .int .i64 0, .int .i64 0, .int .u32 0, .int .i64 0, .int .i64 0, .float .f64 0, .float .f64 0, .bool false, .int .i64 0, .int .i64 0, .int .i64 0, .int .u32 0] 27) = w1 := ⟨_, rfl⟩
  rw [hw1] at hB1 hZ1
  obtain ⟨gz, hgz⟩ : ∃ gz, w.heap.size = gz := ⟨_, rfl⟩
  rw [hgz] at hZ1
  have HGz := Lib.hid hgz
  have HZ1 : Hid (Blk w1 gz 27 zC.cells) := Lib.hid hZ1
  have HB1 := Lib.hid hB1
  have hst0 := st_f64
  clear hB1 hZ1
  have HW := Lib.hid (rwords_calls l (by omega) w1)
  have HNo := Lib.hid (cut_no 32 l.length l (Nat.le_refl _))
  have HLe : Hid (∀ z ∈ cutC 32 l, z.length ≤ 1000000) := Lib.hid fun z hz => by have := cutC_le 32 l z hz; omega
  have HLn : Hid ((cutC 32 l).length ≤ 1000000) := Lib.hid (by have := (cutC_len 32 l).2; omega)
  obtain ⟨L, hL⟩ : ∃ L, cutC 32 l = L := ⟨_, rfl⟩
  rw [hL] at HW HNo HLe HLn ⊢
  clear hL
  go_enter Tryz.func12, Tryz.ntmps12
  go_upto_region 1 with fail
  clear hw1 hgz
  go_wp2_with fail
  refine HW.out.mono ?_
  rintro r w2 ⟨⟨p, c, rfl, hws⟩, hb2⟩
  have HP := Lib.hid (rparse_calls L HNo.out HLe.out HLn.out p c w2.heap.size w2 hws)
  have HB2 := Lib.hid (HB1.out.trans (hb2.mono HB1.out.size))
  have HZ2 := Lib.hid (HZ1.out.below hb2)
  clear hws hb2
  go_wp2_with fail
  refine HP.out.mono ?_
  rintro r w3 ⟨⟨cc, b, rfl, hrp⟩, hb3⟩
  have HB3 := Lib.hid (HB2.out.trans (hb3.mono HB2.out.size))
  have HZ3 := Lib.hid (HZ2.out.below hb3)
  have HR := Lib.hid hrp
  have HF := Lib.hid (fun (hb : b = true) W => Ev.rfine_calls cc W (hrp.fit hb).1 (hrp.fit hb).2)
  clear hb3 hrp
  obtain ⟨fc, hfc⟩ : ∃ fc, fineC cc = fc := ⟨_, rfl⟩
  rw [hfc] at HF
  have HFc := Lib.hid hfc
  clear hfc
  obtain ⟨u, k, ⟨kd, dy, ek, ln, am, rt, ic, sb, st, pl, fm⟩, o⟩ := cc
  have HF : Hid (b = true → ∀ W, Calls Tryz.prog 28 #[.agg #[.bool u, .int .u32 k, .int .i64 kd, .int .i64 dy, .int .u32 ek, .int .i64 ln, .int .i64 am, .float .f64 rt, .float .f64 ic, .bool sb, .int .i64 st, .int .i64 pl, .int .i64 fm, .int .u32 o]] W fun r w' => r = .returned (.bool fc) ∧ Below W.heap.size W w') := HF
  go_upto_region 3 with fail
  have hal := (Below.refl w3.heap.size w3).alloc (Nat.le_refl _) (.cells #[.bool u, .int .u32 k, .int .i64 kd, .int .i64 dy, .int .u32 ek, .int .i64 ln, .int .i64 am, .float .f64 rt, .float .f64 ic, .bool sb, .int .i64 st, .int .i64 pl, .int .i64 fm, .int .u32 o] 27)
  have HZ4 := Lib.hid (HZ3.out.below hal)
  have HD4 := Lib.hid (Blk.new w3 27 #[.bool u, .int .u32 k, .int .i64 kd, .int .i64 dy, .int .u32 ek, .int .i64 ln, .int .i64 am, .float .f64 rt, .float .f64 ic, .bool sb, .int .i64 st, .int .i64 pl, .int .i64 fm, .int .u32 o])
  have HB4 := Lib.hid (HB3.out.trans (hal.mono HB3.out.size))
  clear hal
  generalize w3.alloc (.cells #[.bool u, .int .u32 k, .int .i64 kd, .int .i64 dy, .int .u32 ek, .int .i64 ln, .int .i64 am, .float .f64 rt, .float .f64 ic, .bool sb, .int .i64 st, .int .i64 pl, .int .i64 fm, .int .u32 o] 27) = w4 at *
  generalize w3.heap.size = gd at *
  obtain ⟨d0, d1, d2, d3, d4, d5, d6, d7, d8, d9, d10, d11, d12, d13⟩ := cm_cells HD4.out
  cases b with
  | false =>
    have HN : Hid (parB L = false) := Lib.hid HR.out.ok.symm
    go_upto_region 4 with fail
    clear d0 d1 d2 d3 d4 d5 d6 d7 d8 d9 d10 d11 d12 d13
    obtain ⟨z0, z1, z2, z3, z4, z5, z6, z7, z8, z9, z10, z11, z12, z13⟩ := cm_cells HZ4.out
    obtain ⟨r0, r1, r2, r3, r4, r5, r6, r7, r8, r9, r10, r11, r12, r13⟩ := cm_frozen HZ4.out
    go_wp2_with fail
    have hA := set_cm zC HZ4.out
    have hAF := set_cm_fr (w := w4) (g := gz) (P := fun k => k = gz) zC rfl
    have hAB := HB4.out.trans (hAF.below (B := w.heap.size) HB4.out.size (fun k hk => by have := HGz.out; omega))
    (try simp only [Exit.inBlock, Exit.then])
    refine bodyPost_ret (Vw.results_cell_row2 (p := 2) (u := 3) (ty := 27) rfl _ _ gz 27 _ _ _ rfl hA.heap Tryz.underlying27 rfl (by kernel_rfl)) rfl ?_
    exact ⟨parV_no HN.out, hAB⟩
  | true =>
    cases fc with
    | false =>
      have HN : Hid (parB L = false) := Lib.hid (by have h := HR.out.ok; rw [HFc.out] at h; exact h.symm)
      go_wp2_with fail
      refine (HF.out (by trivial) w4).mono ?_
      rintro r w5 ⟨rfl, hb5⟩
      have HB5 := Lib.hid (HB4.out.trans (hb5.mono HB4.out.size))
      have HZ5 := Lib.hid (HZ4.out.below hb5)
      clear hb5
      clear d0 d1 d2 d3 d4 d5 d6 d7 d8 d9 d10 d11 d12 d13
      obtain ⟨z0, z1, z2, z3, z4, z5, z6, z7, z8, z9, z10, z11, z12, z13⟩ := cm_cells HZ5.out
      obtain ⟨r0, r1, r2, r3, r4, r5, r6, r7, r8, r9, r10, r11, r12, r13⟩ := cm_frozen HZ5.out
      go_wp2_with fail
      have hA := set_cm zC HZ5.out
      have hAF := set_cm_fr (w := w5) (g := gz) (P := fun k => k = gz) zC rfl
      have hAB := HB5.out.trans (hAF.below (B := w.heap.size) HB5.out.size (fun k hk => by have := HGz.out; omega))
      (try simp only [Exit.inBlock, Exit.then])
      refine bodyPost_ret (Vw.results_cell_row2 (p := 2) (u := 3) (ty := 27) rfl _ _ gz 27 _ _ _ rfl hA.heap Tryz.underlying27 rfl (by kernel_rfl)) rfl ?_
      exact ⟨parV_no HN.out, hAB⟩
    | true =>
      have HY : Hid (parB L = true) := Lib.hid (by have h := HR.out.ok; rw [HFc.out] at h; exact h.symm)
      go_wp2_with fail
      refine (HF.out (by trivial) w4).mono ?_
      rintro r w5 ⟨rfl, hb5⟩
      have HB5 := Lib.hid (HB4.out.trans (hb5.mono HB4.out.size))
      have HZ5 := Lib.hid (HZ4.out.below hb5)
      have HD5 := Lib.hid (HD4.out.below hb5)
      clear hb5
      clear d0 d1 d2 d3 d4 d5 d6 d7 d8 d9 d10 d11 d12 d13
      obtain ⟨d0, d1, d2, d3, d4, d5, d6, d7, d8, d9, d10, d11, d12, d13⟩ := cm_cells HD5.out
      obtain ⟨z0, z1, z2, z3, z4, z5, z6, z7, z8, z9, z10, z11, z12, z13⟩ := cm_cells HZ5.out
      obtain ⟨r0, r1, r2, r3, r4, r5, r6, r7, r8, r9, r10, r11, r12, r13⟩ := cm_frozen HZ5.out
      go_wp2_with fail
      have hA := set_cm ⟨u, k, ⟨kd, dy, ek, ln, am, rt, ic, sb, st, pl, fm⟩, o⟩ HZ5.out
      have hAF := set_cm_fr (w := w5) (g := gz) (P := fun k => k = gz) ⟨u, k, ⟨kd, dy, ek, ln, am, rt, ic, sb, st, pl, fm⟩, o⟩ rfl
      have hAB := HB5.out.trans (hAF.below (B := w.heap.size) HB5.out.size (fun k hk => by have := HGz.out; omega))
      (try simp only [Exit.inBlock, Exit.then])
      refine bodyPost_ret (Vw.results_cell_row2 (p := 2) (u := 3) (ty := 27) rfl _ _ gz 27 _ _ _ rfl hA.heap Tryz.underlying27 rfl (by kernel_rfl)) rfl ?_
      exact ⟨congrArg Ending.returned (parV_yes L ⟨u, k, ⟨kd, dy, ek, ln, am, rt, ic, sb, st, pl, fm⟩, o⟩ (HR.out.is HY.out) HY.out), hAB⟩
end Go.Proofs.YtkcjgmicoifhcaaGreatDoor.Cn
