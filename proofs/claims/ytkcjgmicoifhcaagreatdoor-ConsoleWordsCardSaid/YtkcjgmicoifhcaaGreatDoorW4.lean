/- ConsoleWords. (Printed by gen_w4.py.) -/
import Derived.Test.YtkcjgmicoifhcaaGreatDoorW3
namespace Go.Proofs.YtkcjgmicoifhcaaGreatDoor.Cn
open Go.RowKit Go.Sort Go.Lib Go.Shelf
open Vw (Tab str Blk)
open Ev (E C fineC goodE)
attribute [local go_sem ↓] Go.wp_at_zero Go.wp_at_succ

theorem slice_str (L A B : List UInt8) (p : Nat) (h : L = A ++ B) (hp : A.length = p) : (str L).extract 0 p = str A := by
  rw [str_extract, List.drop_zero, Nat.sub_zero, h, ← hp, List.take_left]
set_option maxRecDepth 40000 in
set_option maxHeartbeats 16000000 in
theorem words_n (c : C) (hf : FitC c) (k : Int) (w : World) (ct : Cts w) (hy : fineC c = false) :
    Calls Tryz.prog 4 #[c.v, .int .u8 k] w fun e w' => e = .returned (.bool true) ∧ Below w.heap.size w w' := by
  have hLn : ∀ W, Below w.heap.size w W → Calls Tryz.prog 9 #[c.v] W fun e w' => e = .returned (.tuple #[.string ⟨#[]⟩, .int .i64 11]) ∧ Below W.heap.size W w' := fun W hB => by
    have := ct.line c hf W hB
    rw [← linV_no hy] at this
    exact this
  have HW := Lib.hid ct.wakes
  clear ct hf hy
  obtain ⟨u, k, ⟨kd, dy, ek, ln, am, rt, ic, sb, st, pl, fm⟩, o⟩ := c
  have HLn : Hid (∀ W, Below w.heap.size w W → Calls Tryz.prog 9 #[.agg #[.bool u, .int .u32 k, .int .i64 kd, .int .i64 dy, .int .u32 ek, .int .i64 ln, .int .i64 am, .float .f64 rt, .float .f64 ic, .bool sb, .int .i64 st, .int .i64 pl, .int .i64 fm, .int .u32 o]] W fun e w' => e = .returned (.tuple #[.string ⟨#[]⟩, .int .i64 11]) ∧ Below W.heap.size W w') := Lib.hid hLn
  clear hLn
  go_enter Tryz.func4, Tryz.ntmps4
  go_upto_region 1 with fail
  have hal := (Below.refl w.heap.size w).alloc (Nat.le_refl _) (.cells #[.bool u, .int .u32 k, .int .i64 kd, .int .i64 dy, .int .u32 ek, .int .i64 ln, .int .i64 am, .float .f64 rt, .float .f64 ic, .bool sb, .int .i64 st, .int .i64 pl, .int .i64 fm, .int .u32 o] 27)
  have HC0 := Lib.hid (Blk.new w 27 #[.bool u, .int .u32 k, .int .i64 kd, .int .i64 dy, .int .u32 ek, .int .i64 ln, .int .i64 am, .float .f64 rt, .float .f64 ic, .bool sb, .int .i64 st, .int .i64 pl, .int .i64 fm, .int .u32 o])
  have HB0 := Lib.hid hal
  clear hal
  obtain ⟨ga, hga⟩ : ∃ g, w.heap.size = g := ⟨_, rfl⟩
  rw [hga] at HC0 ⊢
  generalize w.alloc (.cells #[.bool u, .int .u32 k, .int .i64 kd, .int .i64 dy, .int .u32 ek, .int .i64 ln, .int .i64 am, .float .f64 rt, .float .f64 ic, .bool sb, .int .i64 st, .int .i64 pl, .int .i64 fm, .int .u32 o] 27) = w0 at *
  have kk := HC0.out
  have k0 : w0.cell? ⟨ga, 0, none⟩ = some (.bool u) := kk.cell 0
  have k1 : w0.cell? ⟨ga, 1, none⟩ = some (.int .u32 k) := kk.cell 1
  have k2 : w0.cell? ⟨ga, 2, none⟩ = some (.int .i64 kd) := kk.cell 2
  have k3 : w0.cell? ⟨ga, 3, none⟩ = some (.int .i64 dy) := kk.cell 3
  have k4 : w0.cell? ⟨ga, 4, none⟩ = some (.int .u32 ek) := kk.cell 4
  have k5 : w0.cell? ⟨ga, 5, none⟩ = some (.int .i64 ln) := kk.cell 5
  have k6 : w0.cell? ⟨ga, 6, none⟩ = some (.int .i64 am) := kk.cell 6
  have k7 : w0.cell? ⟨ga, 7, none⟩ = some (.float .f64 rt) := kk.cell 7
  have k8 : w0.cell? ⟨ga, 8, none⟩ = some (.float .f64 ic) := kk.cell 8
  have k9 : w0.cell? ⟨ga, 9, none⟩ = some (.bool sb) := kk.cell 9
  have k10 : w0.cell? ⟨ga, 10, none⟩ = some (.int .i64 st) := kk.cell 10
  have k11 : w0.cell? ⟨ga, 11, none⟩ = some (.int .i64 pl) := kk.cell 11
  have k12 : w0.cell? ⟨ga, 12, none⟩ = some (.int .i64 fm) := kk.cell 12
  have k13 : w0.cell? ⟨ga, 13, none⟩ = some (.int .u32 o) := kk.cell 13
  clear kk
  go_wp2_with fail
  refine (HLn.out w0 HB0.out).mono ?_
  rintro r w1 ⟨rfl, hb⟩
  have HB1 := Lib.hid (HB0.out.trans (hb.mono HB0.out.size))
  clear hb
  clear k0 k1 k2 k3 k4 k5 k6 k7 k8 k9 k10 k11 k12 k13
  go_wp2_with fail
  refine (HW.out w1 HB1.out).mono ?_
  rintro r w2 ⟨rfl, hb⟩
  have HB2 := Lib.hid (HB1.out.trans (hb.mono HB1.out.size))
  clear hb
  go_wp2_with fail
  go_ret
  exact ⟨rfl, HB2.out⟩
set_option maxRecDepth 40000 in
set_option maxHeartbeats 16000000 in
theorem words_y (c : C) (hf : FitC c) (q : Int) (hq : 0 ≤ q ∧ q ≤ 255) (w : World) (ct : Cts w) (hy : fineC c = true) :
    Calls Tryz.prog 4 #[c.v, .int .u8 q] w fun e w' => e = .returned (.bool true) ∧ Below w.heap.size w w' := by
  obtain ⟨A, B, hAB, hB, hA, p3, p0, p1, p2, p4⟩ := words_bad c hf hy
  obtain ⟨L, hL⟩ : ∃ L, lnC c = L := ⟨_, rfl⟩
  have hlen : L.length ≤ 2000 := hL ▸ lnC_len c hf hy
  have hLn : ∀ W, Below w.heap.size w W → Calls Tryz.prog 9 #[c.v] W fun e w' => e = .returned (.tuple #[.string (str L), .int .i64 0]) ∧ Below W.heap.size W w' := fun W hB => by
    have := ct.line c hf W hB
    rw [← linV_yes hy hL] at this
    exact this
  rw [hL] at hAB p0 p1 p2 p4
  have hQ : ∀ (l : List UInt8), l.length ≤ 3000 → parB (cutC 32 l) = false → ∀ W, Below w.heap.size w W → Calls Tryz.prog 10 #[.string (str l)] W fun e w' => e = .returned (.tuple #[.agg #[.bool false, .int .u32 0, .int .i64 0, .int .i64 0, .int .u32 0, .int .i64 0, .int .i64 0, .float .f64 0, .float .f64 0, .bool false, .int .i64 0, .int .i64 0, .int .i64 0, .int .u32 0], .int .i64 320]) ∧ Below W.heap.size W w' := fun l hl hp W hB => by
    have := ct.parse l (by omega) W hB
    rw [parV_bad hp] at this
    exact this
  have hAl : A.length + 1 + B.length = L.length := by rw [hAB, List.length_append, List.length_cons]; omega
  have HQ0 := Lib.hid (hQ (L ++ [32, 49]) (by rw [List.length_append]; simp; omega) p0)
  have HQ1 := Lib.hid (hQ (L ++ [32]) (by rw [List.length_append]; simp; omega) p1)
  have HQ2 := Lib.hid (hQ (32 :: L) (by rw [List.length_cons]; omega) p2)
  have HQ3 := Lib.hid (hQ (A ++ [32]) (by rw [List.length_append]; simp; omega) p3)
  have HQ4 := Lib.hid (hQ (L ++ [32, 102, 111, 114, 103, 105, 118, 101]) (by rw [List.length_append]; simp; omega) p4)
  have hadd0 := fun W => Vw.add_run L [32, 49] (by simp; omega) W
  have hadd1 := fun W => Vw.add_run L [32] (by simp; omega) W
  have hadd2 := fun W => Vw.add_run [32] L (by simp; omega) W
  have hadd3 := fun W => Vw.add_run A [32] (by simp; omega) W
  have hadd4 := fun W => Vw.add_run L [32, 102, 111, 114, 103, 105, 118, 101] (by simp; omega) W
  obtain ⟨p, hp⟩ : ∃ p, A.length = p := ⟨_, rfl⟩
  have hsl := slice_str L A (32 :: B) p hAB hp
  have hsz : (str L).size = L.length := Vw.str_size L
  have hpn : p < L.length := by omega
  have hp0 : 0 < p := by omega
  have HAt : Hid (((str L)[p]'(by rw [hsz]; exact hpn)) = 32) := Lib.hid (by
    rw [str_get, List.getElem_of_eq hAB, List.getElem_append_right (by omega)]
    simp only [hp, Nat.sub_self, List.getElem_cons_zero])
  have HNo : Hid (∀ k (h : k < (str L).size), p < k → (str L)[k]'h ≠ 32) := Lib.hid (by
    intro k h hk h1
    rw [str_get, List.getElem_of_eq hAB, List.getElem_append_right (by omega)] at h1
    obtain ⟨j, hj⟩ : ∃ j, k - A.length = j + 1 := ⟨k - A.length - 1, by omega⟩
    simp only [hj, List.getElem_cons_succ] at h1
    exact hB (h1 ▸ List.getElem_mem _))
  have hemp : (str L).toList.isEmpty = false := by
    rw [← decide_eq_emptyBytes]
    exact decide_eq_false (fun h => by rw [h] at hsz; have : (0 : Nat) = L.length := hsz; omega)
  have hemp2 : L.isEmpty = false := by
    cases L with
    | nil => exact absurd hpn (by simp)
    | cons _ _ => rfl
  have hmod : q.tmod 5 = 0 ∨ q.tmod 5 = 1 ∨ q.tmod 5 = 2 ∨ q.tmod 5 = 3 ∨ q.tmod 5 = 4 := by
    rw [Int.tmod_eq_emod_of_nonneg hq.1]
    omega
  have HM := Lib.hid hmod
  have HW := Lib.hid ct.wakes
  have hst0 : ∀ (a : Addr) (n : Nat) (W : World), (store a (.float .f64 n)).run Tryz.prog W = match W.cell? a with
      | some _ => if W.frozen? a then .halt (.unsupported (.unsafePointer "a write to bytes that a string shares")) W else .ok () (W.setCell a (.float .f64 n))
      | none => match World.farStore Tryz.prog W a (.float .f64 n) (Mode.plain == Mode.atomic) with | .ok (w', _) => .ok () w' | .error h => .halt h W := fun _ _ _ => rfl
  clear ct hf hy hL hAB hB hA hQ p0 p1 p2 p3 p4 hAl hp hmod
  obtain ⟨u, k, ⟨kd, dy, ek, ln, am, rt, ic, sb, st, pl, fm⟩, o⟩ := c
  have HLn : Hid (∀ W, Below w.heap.size w W → Calls Tryz.prog 9 #[.agg #[.bool u, .int .u32 k, .int .i64 kd, .int .i64 dy, .int .u32 ek, .int .i64 ln, .int .i64 am, .float .f64 rt, .float .f64 ic, .bool sb, .int .i64 st, .int .i64 pl, .int .i64 fm, .int .u32 o]] W fun e w' => e = .returned (.tuple #[.string (str L), .int .i64 0]) ∧ Below W.heap.size W w') := Lib.hid hLn
  clear hLn
  generalize hn : L.length = n at *
  have hn2 : (n : Int) ≤ 2000 := by omega
  go_enter Tryz.func4, Tryz.ntmps4
  go_upto_region 1 with fail
  have hal := (Below.refl w.heap.size w).alloc (Nat.le_refl _) (.cells #[.bool u, .int .u32 k, .int .i64 kd, .int .i64 dy, .int .u32 ek, .int .i64 ln, .int .i64 am, .float .f64 rt, .float .f64 ic, .bool sb, .int .i64 st, .int .i64 pl, .int .i64 fm, .int .u32 o] 27)
  have HC0 := Lib.hid (Blk.new w 27 #[.bool u, .int .u32 k, .int .i64 kd, .int .i64 dy, .int .u32 ek, .int .i64 ln, .int .i64 am, .float .f64 rt, .float .f64 ic, .bool sb, .int .i64 st, .int .i64 pl, .int .i64 fm, .int .u32 o])
  have HB0 := Lib.hid hal
  clear hal
  obtain ⟨ga, hga⟩ : ∃ g, w.heap.size = g := ⟨_, rfl⟩
  rw [hga] at HC0 ⊢
  generalize w.alloc (.cells #[.bool u, .int .u32 k, .int .i64 kd, .int .i64 dy, .int .u32 ek, .int .i64 ln, .int .i64 am, .float .f64 rt, .float .f64 ic, .bool sb, .int .i64 st, .int .i64 pl, .int .i64 fm, .int .u32 o] 27) = w0 at *
  have kk := HC0.out
  have k0 : w0.cell? ⟨ga, 0, none⟩ = some (.bool u) := kk.cell 0
  have k1 : w0.cell? ⟨ga, 1, none⟩ = some (.int .u32 k) := kk.cell 1
  have k2 : w0.cell? ⟨ga, 2, none⟩ = some (.int .i64 kd) := kk.cell 2
  have k3 : w0.cell? ⟨ga, 3, none⟩ = some (.int .i64 dy) := kk.cell 3
  have k4 : w0.cell? ⟨ga, 4, none⟩ = some (.int .u32 ek) := kk.cell 4
  have k5 : w0.cell? ⟨ga, 5, none⟩ = some (.int .i64 ln) := kk.cell 5
  have k6 : w0.cell? ⟨ga, 6, none⟩ = some (.int .i64 am) := kk.cell 6
  have k7 : w0.cell? ⟨ga, 7, none⟩ = some (.float .f64 rt) := kk.cell 7
  have k8 : w0.cell? ⟨ga, 8, none⟩ = some (.float .f64 ic) := kk.cell 8
  have k9 : w0.cell? ⟨ga, 9, none⟩ = some (.bool sb) := kk.cell 9
  have k10 : w0.cell? ⟨ga, 10, none⟩ = some (.int .i64 st) := kk.cell 10
  have k11 : w0.cell? ⟨ga, 11, none⟩ = some (.int .i64 pl) := kk.cell 11
  have k12 : w0.cell? ⟨ga, 12, none⟩ = some (.int .i64 fm) := kk.cell 12
  have k13 : w0.cell? ⟨ga, 13, none⟩ = some (.int .u32 o) := kk.cell 13
  clear kk
  go_wp2_with fail
  refine (HLn.out w0 HB0.out).mono ?_
  rintro r w1 ⟨rfl, hb⟩
  have HB1 := Lib.hid (HB0.out.trans (hb.mono HB0.out.size))
  clear hb
  clear k0 k1 k2 k3 k4 k5 k6 k7 k8 k9 k10 k11 k12 k13
  go_wp2_with fail
  go_loop [7] (fun v => ∃ k : Nat, p ≤ k ∧ k < n ∧ v = .int .i64 (k : Int)) (fun v => (RowKit.intOf v).toNat)
  case atStart => exact ⟨n - 1, by omega, by omega, by congr 1; omega⟩
  case round =>
    obtain ⟨k, hk0, hk1, rfl⟩ := hrel
    have hk2 : k < (str L).size := by rw [hsz]; exact hk1
    by_cases hkp : p < k
    · have hx : ¬ (((str L)[k]'hk2).toNat : Int) = 32 := fun h => HNo.out k hk2 hkp (UInt8.toNat_inj.1 (by rw [show (32 : UInt8).toNat = 32 from rfl]; omega))
      have hk3 : (0 : Int) < (k : Int) := by omega
      have hk4 : (k : Int) ≤ 2000 := by omega
      go_wp2_with fail
      refine ⟨⟨k - 1, by omega, by omega, by congr 1; omega⟩, by simp [RowKit.intOf]; omega⟩
    · obtain rfl : k = p := by omega
      have hx : (((str L)[k]'hk2).toNat : Int) = 32 := by rw [HAt.out]; rfl
      have hk3 : (0 : Int) < (k : Int) := by omega
      have hk4 : (k : Int) ≤ 2000 := by omega
      go_upto_region 10 with fail
      have hal := (Below.refl w1.heap.size w1).alloc (Nat.le_refl _) (.cells #[.string (str (L ++ [32, 49])), .string (str (L ++ [32])), .string (str (32 :: L)), .string (str (A ++ [32])), .string (str (L ++ [32, 102, 111, 114, 103, 105, 118, 101]))] 9)
      have HD2 := Lib.hid (Blk.new w1 9 #[.string (str (L ++ [32, 49])), .string (str (L ++ [32])), .string (str (32 :: L)), .string (str (A ++ [32])), .string (str (L ++ [32, 102, 111, 114, 103, 105, 118, 101]))])
      have HB2 := Lib.hid (HB1.out.trans (hal.mono HB1.out.size))
      clear hal
      generalize w1.alloc (.cells #[.string (str (L ++ [32, 49])), .string (str (L ++ [32])), .string (str (32 :: L)), .string (str (A ++ [32])), .string (str (L ++ [32, 102, 111, 114, 103, 105, 118, 101]))] 9) = w2 at *
      generalize w1.heap.size = g2 at *
      clear hadd0 hadd1 hadd2 hadd3 hadd4 hsl
      have b0 : w2.cell? ⟨g2, 0, none⟩ = some (.string (str (L ++ [32, 49]))) := HD2.out.cell 0
      have b1 : w2.cell? ⟨g2, 1, none⟩ = some (.string (str (L ++ [32]))) := HD2.out.cell 1
      have b2 : w2.cell? ⟨g2, 2, none⟩ = some (.string (str (32 :: L))) := HD2.out.cell 2
      have b3 : w2.cell? ⟨g2, 3, none⟩ = some (.string (str (A ++ [32]))) := HD2.out.cell 3
      have b4 : w2.cell? ⟨g2, 4, none⟩ = some (.string (str (L ++ [32, 102, 111, 114, 103, 105, 118, 101]))) := HD2.out.cell 4
      rcases HM.out with hj | hj | hj | hj | hj
      · have hq5 : (q : Int).tmod 5 = 0 := hj
        go_wp2_with fail
        refine (HQ0.out w2 HB2.out).mono ?_
        rintro r w3 ⟨rfl, hb⟩
        have HB3 := Lib.hid (HB2.out.trans (hb.mono HB2.out.size))
        clear hb hq5 hj
        go_upto_region 11 with fail
        have hal := (Below.refl w3.heap.size w3).alloc (Nat.le_refl _) (.cells #[.bool false, .int .u32 0, .int .i64 0, .int .i64 0, .int .u32 0, .int .i64 0, .int .i64 0, .float .f64 0, .float .f64 0, .bool false, .int .i64 0, .int .i64 0, .int .i64 0, .int .u32 0] 27)
        have HD4 := Lib.hid (Blk.new w3 27 #[.bool false, .int .u32 0, .int .i64 0, .int .i64 0, .int .u32 0, .int .i64 0, .int .i64 0, .float .f64 0, .float .f64 0, .bool false, .int .i64 0, .int .i64 0, .int .i64 0, .int .u32 0])
        have HB4 := Lib.hid (HB3.out.trans (hal.mono HB3.out.size))
        clear hal
        generalize w3.alloc (.cells #[.bool false, .int .u32 0, .int .i64 0, .int .i64 0, .int .u32 0, .int .i64 0, .int .i64 0, .float .f64 0, .float .f64 0, .bool false, .int .i64 0, .int .i64 0, .int .i64 0, .int .u32 0] 27) = w4 at *
        generalize w3.heap.size = g4 at *
        have k1 : w4.cell? ⟨g4, 1, none⟩ = some (.int .u32 0) := HD4.out.cell 1
        go_wp2_with fail
        refine (HW.out w4 HB4.out).mono ?_
        rintro r w5 ⟨rfl, hb⟩
        have HB5 := Lib.hid (HB4.out.trans (hb.mono HB4.out.size))
        clear hb
        go_wp2_with fail
        go_ret
        exact ⟨rfl, HB5.out⟩
      · have hq5 : (q : Int).tmod 5 = 1 := hj
        go_wp2_with fail
        refine (HQ1.out w2 HB2.out).mono ?_
        rintro r w3 ⟨rfl, hb⟩
        have HB3 := Lib.hid (HB2.out.trans (hb.mono HB2.out.size))
        clear hb hq5 hj
        go_upto_region 11 with fail
        have hal := (Below.refl w3.heap.size w3).alloc (Nat.le_refl _) (.cells #[.bool false, .int .u32 0, .int .i64 0, .int .i64 0, .int .u32 0, .int .i64 0, .int .i64 0, .float .f64 0, .float .f64 0, .bool false, .int .i64 0, .int .i64 0, .int .i64 0, .int .u32 0] 27)
        have HD4 := Lib.hid (Blk.new w3 27 #[.bool false, .int .u32 0, .int .i64 0, .int .i64 0, .int .u32 0, .int .i64 0, .int .i64 0, .float .f64 0, .float .f64 0, .bool false, .int .i64 0, .int .i64 0, .int .i64 0, .int .u32 0])
        have HB4 := Lib.hid (HB3.out.trans (hal.mono HB3.out.size))
        clear hal
        generalize w3.alloc (.cells #[.bool false, .int .u32 0, .int .i64 0, .int .i64 0, .int .u32 0, .int .i64 0, .int .i64 0, .float .f64 0, .float .f64 0, .bool false, .int .i64 0, .int .i64 0, .int .i64 0, .int .u32 0] 27) = w4 at *
        generalize w3.heap.size = g4 at *
        have k1 : w4.cell? ⟨g4, 1, none⟩ = some (.int .u32 0) := HD4.out.cell 1
        go_wp2_with fail
        refine (HW.out w4 HB4.out).mono ?_
        rintro r w5 ⟨rfl, hb⟩
        have HB5 := Lib.hid (HB4.out.trans (hb.mono HB4.out.size))
        clear hb
        go_wp2_with fail
        go_ret
        exact ⟨rfl, HB5.out⟩
      · have hq5 : (q : Int).tmod 5 = 2 := hj
        go_wp2_with fail
        refine (HQ2.out w2 HB2.out).mono ?_
        rintro r w3 ⟨rfl, hb⟩
        have HB3 := Lib.hid (HB2.out.trans (hb.mono HB2.out.size))
        clear hb hq5 hj
        go_upto_region 11 with fail
        have hal := (Below.refl w3.heap.size w3).alloc (Nat.le_refl _) (.cells #[.bool false, .int .u32 0, .int .i64 0, .int .i64 0, .int .u32 0, .int .i64 0, .int .i64 0, .float .f64 0, .float .f64 0, .bool false, .int .i64 0, .int .i64 0, .int .i64 0, .int .u32 0] 27)
        have HD4 := Lib.hid (Blk.new w3 27 #[.bool false, .int .u32 0, .int .i64 0, .int .i64 0, .int .u32 0, .int .i64 0, .int .i64 0, .float .f64 0, .float .f64 0, .bool false, .int .i64 0, .int .i64 0, .int .i64 0, .int .u32 0])
        have HB4 := Lib.hid (HB3.out.trans (hal.mono HB3.out.size))
        clear hal
        generalize w3.alloc (.cells #[.bool false, .int .u32 0, .int .i64 0, .int .i64 0, .int .u32 0, .int .i64 0, .int .i64 0, .float .f64 0, .float .f64 0, .bool false, .int .i64 0, .int .i64 0, .int .i64 0, .int .u32 0] 27) = w4 at *
        generalize w3.heap.size = g4 at *
        have k1 : w4.cell? ⟨g4, 1, none⟩ = some (.int .u32 0) := HD4.out.cell 1
        go_wp2_with fail
        refine (HW.out w4 HB4.out).mono ?_
        rintro r w5 ⟨rfl, hb⟩
        have HB5 := Lib.hid (HB4.out.trans (hb.mono HB4.out.size))
        clear hb
        go_wp2_with fail
        go_ret
        exact ⟨rfl, HB5.out⟩
      · have hq5 : (q : Int).tmod 5 = 3 := hj
        go_wp2_with fail
        refine (HQ3.out w2 HB2.out).mono ?_
        rintro r w3 ⟨rfl, hb⟩
        have HB3 := Lib.hid (HB2.out.trans (hb.mono HB2.out.size))
        clear hb hq5 hj
        go_upto_region 11 with fail
        have hal := (Below.refl w3.heap.size w3).alloc (Nat.le_refl _) (.cells #[.bool false, .int .u32 0, .int .i64 0, .int .i64 0, .int .u32 0, .int .i64 0, .int .i64 0, .float .f64 0, .float .f64 0, .bool false, .int .i64 0, .int .i64 0, .int .i64 0, .int .u32 0] 27)
        have HD4 := Lib.hid (Blk.new w3 27 #[.bool false, .int .u32 0, .int .i64 0, .int .i64 0, .int .u32 0, .int .i64 0, .int .i64 0, .float .f64 0, .float .f64 0, .bool false, .int .i64 0, .int .i64 0, .int .i64 0, .int .u32 0])
        have HB4 := Lib.hid (HB3.out.trans (hal.mono HB3.out.size))
        clear hal
        generalize w3.alloc (.cells #[.bool false, .int .u32 0, .int .i64 0, .int .i64 0, .int .u32 0, .int .i64 0, .int .i64 0, .float .f64 0, .float .f64 0, .bool false, .int .i64 0, .int .i64 0, .int .i64 0, .int .u32 0] 27) = w4 at *
        generalize w3.heap.size = g4 at *
        have k1 : w4.cell? ⟨g4, 1, none⟩ = some (.int .u32 0) := HD4.out.cell 1
        go_wp2_with fail
        refine (HW.out w4 HB4.out).mono ?_
        rintro r w5 ⟨rfl, hb⟩
        have HB5 := Lib.hid (HB4.out.trans (hb.mono HB4.out.size))
        clear hb
        go_wp2_with fail
        go_ret
        exact ⟨rfl, HB5.out⟩
      · have hq5 : (q : Int).tmod 5 = 4 := hj
        go_wp2_with fail
        refine (HQ4.out w2 HB2.out).mono ?_
        rintro r w3 ⟨rfl, hb⟩
        have HB3 := Lib.hid (HB2.out.trans (hb.mono HB2.out.size))
        clear hb hq5 hj
        go_upto_region 11 with fail
        have hal := (Below.refl w3.heap.size w3).alloc (Nat.le_refl _) (.cells #[.bool false, .int .u32 0, .int .i64 0, .int .i64 0, .int .u32 0, .int .i64 0, .int .i64 0, .float .f64 0, .float .f64 0, .bool false, .int .i64 0, .int .i64 0, .int .i64 0, .int .u32 0] 27)
        have HD4 := Lib.hid (Blk.new w3 27 #[.bool false, .int .u32 0, .int .i64 0, .int .i64 0, .int .u32 0, .int .i64 0, .int .i64 0, .float .f64 0, .float .f64 0, .bool false, .int .i64 0, .int .i64 0, .int .i64 0, .int .u32 0])
        have HB4 := Lib.hid (HB3.out.trans (hal.mono HB3.out.size))
        clear hal
        generalize w3.alloc (.cells #[.bool false, .int .u32 0, .int .i64 0, .int .i64 0, .int .u32 0, .int .i64 0, .int .i64 0, .float .f64 0, .float .f64 0, .bool false, .int .i64 0, .int .i64 0, .int .i64 0, .int .u32 0] 27) = w4 at *
        generalize w3.heap.size = g4 at *
        have k1 : w4.cell? ⟨g4, 1, none⟩ = some (.int .u32 0) := HD4.out.cell 1
        go_wp2_with fail
        refine (HW.out w4 HB4.out).mono ?_
        rintro r w5 ⟨rfl, hb⟩
        have HB5 := Lib.hid (HB4.out.trans (hb.mono HB4.out.size))
        clear hb
        go_wp2_with fail
        go_ret
        exact ⟨rfl, HB5.out⟩
theorem words_walk (c : C) (hf : FitC c) (q : Int) (hq : 0 ≤ q ∧ q ≤ 255) (w : World) (hg : Gl w) (hT : w.cell? ⟨5, 15, none⟩ = some (.int .u8 4)) :
    Calls Tryz.prog 4 #[c.v, .int .u8 q] w fun e w' => e = .returned (.bool true) ∧ Below w.heap.size w w' := by
  cases hy : fineC c
  · exact words_n c hf q w (cts_of hg hT) hy
  · exact words_y c hf q hq w (cts_of hg hT) hy
end Go.Proofs.YtkcjgmicoifhcaaGreatDoor.Cn
