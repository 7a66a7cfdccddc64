/- The reference's Line. (Printed by gen_t3.py.) -/
import Derived.Test.YtkcjgmicoifhcaaGreatDoorT2
import Derived.Test.YtkcjgmicoifhcaaGreatDoorM19
import Derived.Test.YtkcjgmicoifhcaaGreatDoorT1
import Derived.Test.YtkcjgmicoifhcaaGreatDoorS0
import Derived.Test.YtkcjgmicoifhcaaGreatDoorWh
import Derived.Deep.RegionHeld3
import Derived.Deep.Cut
import Derived.Deep.CutBlock
namespace Go.Proofs.YtkcjgmicoifhcaaGreatDoor.Cn
open Go.RowKit Go.Sort Go.Lib Go.Shelf
open Vw (Tab str Blk)
open Ev (E C fineC goodE)
attribute [local go_sem ↓] Go.wp_at_zero Go.wp_at_succ

set_option maxRecDepth 40000 in
set_option maxHeartbeats 64000000 in
theorem rline_ev (kn : Nat) (kd dy ek ln am st pl fm o : Int) (rt ic : Nat) (sb : Bool) (hf : FitC ⟨false, (kn : Int), ⟨kd, dy, ek, ln, am, rt, ic, sb, st, pl, fm⟩, o⟩) (w : World) (hy : fineC ⟨false, (kn : Int), ⟨kd, dy, ek, ln, am, rt, ic, sb, st, pl, fm⟩, o⟩ = true) :
    Calls Tryz.prog 13 #[.agg #[.bool false, .int .u32 (kn : Int), .int .i64 kd, .int .i64 dy, .int .u32 ek, .int .i64 ln, .int .i64 am, .float .f64 rt, .float .f64 ic, .bool sb, .int .i64 st, .int .i64 pl, .int .i64 fm, .int .u32 o]] w fun e w' => e = .returned (linV ⟨false, (kn : Int), ⟨kd, dy, ek, ln, am, rt, ic, sb, st, pl, fm⟩, o⟩) ∧ Below w.heap.size w w' := by
  have hge := (fine_ev hy rfl).2.1
  have HGe := Lib.hid hge
  have hfit := good_fit _ hge hf.rate hf.income
  have hln0 : -9223372036854775808 ≤ ln := hfit.loan.1
  have hln1 : ln ≤ 9223372036854775807 := hfit.loan.2
  have ham0 : -9223372036854775808 ≤ am := hfit.amount.1
  have ham1 : am ≤ 9223372036854775807 := hfit.amount.2
  have hfm0 : -9223372036854775808 ≤ fm := hfit.family.1
  have hfm1 : fm ≤ 9223372036854775807 := hfit.family.2
  have hrt : rt < 18446744073709551616 := hf.rate
  have hic : ic < 18446744073709551616 := hf.income
  have hkn : (kn : Int) < 4294967296 := hf.key.2
  have HWr : Hid (wrap64 (kn : Int) = (kn : Int)) := Lib.hid (by unfold wrap64; omega)
  have hlK := (dig_len kn (by omega)).2
  have hlD : (Vw.dayL dy).length ≤ 1000 := by have hd : 0 ≤ dy ∧ dy ≤ 87658 := (good_parts _ hge).2.1; have := (Vw.days_apart _ _ hd hd).2; omega
  obtain ⟨kj, Wd, hkj, hk8, hWd⟩ := kind_at (good_parts _ hge).1
  change kd = (kj : Int) + 1 at hkj
  have HSub : Hid (IntKind.i64.wrap (kd - 1) = (kj : Int)) := Lib.hid (by rw [IntKind.wrap_i64]; omega)
  have hk0 : (0 : Int) ≤ (kj : Int) := by omega
  have hk1 : (kj : Int) < 8 := by omega
  have HKj := Lib.hid hkj
  have HWd := Lib.hid hWd
  have hlW : Wd.length ≤ 20 := (show ∀ x ∈ kindsL, x.length ≤ 20 by decide) Wd (List.mem_of_getElem? hWd)
  have HLl := Lib.hid (lnC_len _ hf hy)
  have HFi := Lib.hid (fun W => Ev.rfine_calls ⟨false, (kn : Int), ⟨kd, dy, ek, ln, am, rt, ic, sb, st, pl, fm⟩, o⟩ W hf.rate hf.income)
  rw [hy] at HFi
  have HPv := parV_at _ hf hy rfl
  obtain ⟨Lf, hLf⟩ : ∃ x, lnC ⟨false, (kn : Int), ⟨kd, dy, ek, ln, am, rt, ic, sb, st, pl, fm⟩, o⟩ = x := ⟨_, rfl⟩
  have HYes : Hid (linV ⟨false, (kn : Int), ⟨kd, dy, ek, ln, am, rt, ic, sb, st, pl, fm⟩, o⟩ = .tuple #[.string (str Lf), .int .i64 0]) := Lib.hid (linV_yes hy hLf).symm
  rw [hLf] at HLl HPv
  have HLf := Lib.hid hLf
  have HPa := Lib.hid (fun W => rpar_calls Lf (by have := HLl.out; omega) W)
  rw [HPv] at HPa
  have HFi : Hid (∀ W, Calls Tryz.prog 28 #[.agg #[.bool false, .int .u32 (kn : Int), .int .i64 kd, .int .i64 dy, .int .u32 ek, .int .i64 ln, .int .i64 am, .float .f64 rt, .float .f64 ic, .bool sb, .int .i64 st, .int .i64 pl, .int .i64 fm, .int .u32 o]] W fun r w' => r = .returned (.bool true) ∧ Below W.heap.size W w') := HFi
  have HPa : Hid (∀ W, Calls Tryz.prog 12 #[.string (str Lf)] W fun r w' => r = .returned (.tuple #[.agg #[.bool false, .int .u32 (kn : Int), .int .i64 kd, .int .i64 dy, .int .u32 ek, .int .i64 ln, .int .i64 am, .float .f64 rt, .float .f64 ic, .bool sb, .int .i64 st, .int .i64 pl, .int .i64 fm, .int .u32 o], .int .i64 0]) ∧ Below W.heap.size W w') := HPa
  have HKc : Hid (∀ W, Calls Tryz.prog 11 #[.agg #[.bool false, .int .u32 (kn : Int), .int .i64 kd, .int .i64 dy, .int .u32 ek, .int .i64 ln, .int .i64 am, .float .f64 rt, .float .f64 ic, .bool sb, .int .i64 st, .int .i64 pl, .int .i64 fm, .int .u32 o], .agg #[.bool false, .int .u32 (kn : Int), .int .i64 kd, .int .i64 dy, .int .u32 ek, .int .i64 ln, .int .i64 am, .float .f64 rt, .float .f64 ic, .bool sb, .int .i64 st, .int .i64 pl, .int .i64 fm, .int .u32 o]] W fun r w' => r = .returned (.bool true) ∧ Below W.heap.size W w') := Lib.hid (same_calls_c ⟨false, (kn : Int), ⟨kd, dy, ek, ln, am, rt, ic, sb, st, pl, fm⟩, o⟩)
  have HKd : Hid (∀ W, Calls Tryz.prog 29 #[.int .i64 (kn : Int)] W fun r w' => r = .returned (.string (str (decDigits kn))) ∧ w' = W) := Lib.hid (fun W => by
    have := rdec_calls (kn : Int) (by omega) (by omega) W
    rw [itoa_nonneg] at this
    exact this)
  clear HPv hy hge hfit hf hLf hkj hk8 hWd hkn
  rw [HYes.out]
  have hV : decDigits kn ++ ((([32] ++ Vw.dayL dy) ++ [32]) ++ Wd) = decDigits kn ++ ((([32] ++ Vw.dayL dy) ++ [32]) ++ Wd) := rfl
  obtain ⟨x1, hx1⟩ : ∃ z, ([32] : List UInt8) ++ Vw.dayL dy = z := ⟨_, rfl⟩
  have hsx1 := add_eq hx1 (by (try simp only [List.length_cons, List.length_nil]); omega)
  have hlx1 := congrArg List.length hx1
  simp only [List.length_append, List.length_cons, List.length_nil] at hlx1
  obtain ⟨x2, hx2⟩ : ∃ z, x1 ++ [32] = z := ⟨_, rfl⟩
  have hsx2 := add_eq hx2 (by (try simp only [List.length_cons, List.length_nil]); omega)
  have hlx2 := congrArg List.length hx2
  simp only [List.length_append, List.length_cons, List.length_nil] at hlx2
  obtain ⟨x3, hx3⟩ : ∃ z, x2 ++ Wd = z := ⟨_, rfl⟩
  have hsx3 := add_eq hx3 (by (try simp only [List.length_append, List.length_cons, List.length_nil]); omega)
  have hlx3 := congrArg List.length hx3
  simp only [List.length_append] at hlx3
  obtain ⟨S1, hS1⟩ : ∃ z, decDigits kn ++ x3 = z := ⟨_, rfl⟩
  have hs4 := add_eq hS1 (by (try simp only [List.length_append, List.length_cons, List.length_nil]); omega)
  have HS1 : Hid (decDigits kn ++ ((([32] ++ Vw.dayL dy) ++ [32]) ++ Wd) = S1) := Lib.hid (by rw [hx1, hx2, hx3, hS1])
  clear hV hx1 hx2 hx3 hS1 hlx1 hlx2 hlx3 hlK hlD hlW
  have hst0 := st_f64
  have hwr := HWr.out
  have hsub := HSub.out
  have hal := (Below.refl w.heap.size w).alloc (Nat.le_refl _) (.cells #[.bool false, .int .u32 (kn : Int), .int .i64 kd, .int .i64 dy, .int .u32 ek, .int .i64 ln, .int .i64 am, .float .f64 rt, .float .f64 ic, .bool sb, .int .i64 st, .int .i64 pl, .int .i64 fm, .int .u32 o] 27)
  have HC0 : Hid (Blk (w.alloc (.cells #[.bool false, .int .u32 (kn : Int), .int .i64 kd, .int .i64 dy, .int .u32 ek, .int .i64 ln, .int .i64 am, .float .f64 rt, .float .f64 ic, .bool sb, .int .i64 st, .int .i64 pl, .int .i64 fm, .int .u32 o] 27)) w.heap.size 27 (⟨false, (kn : Int), ⟨kd, dy, ek, ln, am, rt, ic, sb, st, pl, fm⟩, o⟩ : C).cells) := Lib.hid (Blk.new w 27 #[.bool false, .int .u32 (kn : Int), .int .i64 kd, .int .i64 dy, .int .u32 ek, .int .i64 ln, .int .i64 am, .float .f64 rt, .float .f64 ic, .bool sb, .int .i64 st, .int .i64 pl, .int .i64 fm, .int .u32 o])
  have HB0 := Lib.hid hal
  clear hal
  go_enter Tryz.func13, Tryz.ntmps13
  go_upto_region 1 with fail
  generalize w.alloc (.cells #[.bool false, .int .u32 (kn : Int), .int .i64 kd, .int .i64 dy, .int .u32 ek, .int .i64 ln, .int .i64 am, .float .f64 rt, .float .f64 ic, .bool sb, .int .i64 st, .int .i64 pl, .int .i64 fm, .int .u32 o] 27) = w0 at *
  obtain ⟨gc, hgc⟩ : ∃ g, w.heap.size = g := ⟨_, rfl⟩
  rw [hgc] at HC0 ⊢
  obtain ⟨k0, k1, k2, k3, k4, k5, k6, k7, k8, k9, k10, k11, k12, k13⟩ := cm_cells HC0.out
  go_wp2_with fail
  refine (HFi.out w0).mono ?_
  rintro r w1 ⟨rfl, hb⟩
  have HB1 := Lib.hid (HB0.out.trans (hb.mono HB0.out.size))
  have HC1 := Lib.hid (HC0.out.below hb)
  clear hb k0 k1 k2 k3 k4 k5 k6 k7 k8 k9 k10 k11 k12 k13
  obtain ⟨k0, k1, k2, k3, k4, k5, k6, k7, k8, k9, k10, k11, k12, k13⟩ := cm_cells HC1.out
  go_wp2_with fail
  refine (HKd.out w1).mono ?_
  rintro r w2 ⟨rfl, hw2⟩
  rw [hw2]
  clear hw2
  go_upto_region 7 with fail
  have hal := (Below.refl w1.heap.size w1).alloc (Nat.le_refl _) (.cells #[.int .i64 kd, .int .i64 dy, .int .u32 ek, .int .i64 ln, .int .i64 am, .float .f64 rt, .float .f64 ic, .bool sb, .int .i64 st, .int .i64 pl, .int .i64 fm] 25)
  have HE3 := Lib.hid (Blk.new w1 25 #[.int .i64 kd, .int .i64 dy, .int .u32 ek, .int .i64 ln, .int .i64 am, .float .f64 rt, .float .f64 ic, .bool sb, .int .i64 st, .int .i64 pl, .int .i64 fm])
  have HC3 := Lib.hid (HC1.out.below hal)
  have HB3 := Lib.hid (HB1.out.trans (hal.mono HB1.out.size))
  clear hal k0 k1 k2 k3 k4 k5 k6 k7 k8 k9 k10 k11 k12 k13
  generalize w1.alloc (.cells #[.int .i64 kd, .int .i64 dy, .int .u32 ek, .int .i64 ln, .int .i64 am, .float .f64 rt, .float .f64 ic, .bool sb, .int .i64 st, .int .i64 pl, .int .i64 fm] 25) = w3 at *
  obtain ⟨ge, hge⟩ : ∃ g, w1.heap.size = g := ⟨_, rfl⟩
  rw [hge] at HE3 ⊢
  clear hge
  go_cut [4] from 26 to 40 (fun v W => v = .string (str S1) ∧ Below w3.heap.size w3 W)
  case first =>
    have HKE : Hid (∀ W, Below w3.heap.size w3 W → W.cell? ⟨ge, 0, none⟩ = some (.int .i64 kd) ∧ W.cell? ⟨ge, 1, none⟩ = some (.int .i64 dy)) := Lib.hid (fun W hW => ⟨(HE3.out.below hW).cell 0, (HE3.out.below hW).cell 1⟩)
    refine wp_region_noPanic ?_
    refine wp_region_held_drew (S := fun w' => w'.cell? ⟨ge, 0, none⟩ = some (.int .i64 kd) ∧ w'.cell? ⟨ge, 1, none⟩ = some (.int .i64 dy)) (by kernel_rfl) ?_ (fun hHeld => ?_)
    · exact HKE.out _ (bl_drew (Below.refl _ _))
    refine takeH (i := 0) (N := some 26) (v := ?_) rfl rfl (by kernel_rfl) (by kernel_rfl) (by kernel_rfl) (fun _ _ _ h => h) (Or.inl ⟨by rfl, ?_⟩) (by assumption) ?_
    rotate_left
    · intro w' hSw
      try dsimp only at hSw
      go_simp
      try with_reducible rfl
    try simp only [Act.put, List.setIfInBounds_toArray, List.set_cons_zero, List.set_cons_succ]
    refine takeH (i := 1) (N := some 27) (v := ?_) rfl rfl (by kernel_rfl) (by kernel_rfl) (by kernel_rfl) (fun _ _ _ h => h) (Or.inl ⟨by rfl, ?_⟩) (by assumption) ?_
    rotate_left
    · intro w' hSw
      try dsimp only at hSw
      go_simp
      try with_reducible rfl
    try simp only [Act.put, List.setIfInBounds_toArray, List.set_cons_zero, List.set_cons_succ]
    refine takeH (i := 2) (N := some 28) (v := ?_) rfl rfl (by kernel_rfl) (by kernel_rfl) (by kernel_rfl) (fun _ _ _ h => h) (Or.inl ⟨by rfl, ?_⟩) (by assumption) ?_
    rotate_left
    · intro w' hSw
      try dsimp only at hSw
      go_simp
      try with_reducible rfl
    try simp only [Act.put, List.setIfInBounds_toArray, List.set_cons_zero, List.set_cons_succ]
    refine takeH (i := 7) (N := some 33) (v := ?_) rfl rfl (by kernel_rfl) (by kernel_rfl) (by kernel_rfl) (fun _ _ _ h => h) (Or.inl ⟨by rfl, ?_⟩) (by assumption) ?_
    rotate_left
    · intro w' hSw
      try dsimp only at hSw
      go_simp
      try with_reducible rfl
    try simp only [Act.put, List.setIfInBounds_toArray, List.set_cons_zero, List.set_cons_succ]
    refine takeH (i := 8) (N := some 34) (v := ?_) rfl rfl (by kernel_rfl) (by kernel_rfl) (by kernel_rfl) (fun _ _ _ h => h) (Or.inl ⟨by rfl, ?_⟩) (by assumption) ?_
    rotate_left
    · intro w' hSw
      try dsimp only at hSw
      go_simp
      try with_reducible rfl
    try simp only [Act.put, List.setIfInBounds_toArray, List.set_cons_zero, List.set_cons_succ]
    refine takeH (i := 9) (N := some 35) (v := ?_) rfl rfl (by kernel_rfl) (by kernel_rfl) (by kernel_rfl) (fun _ _ _ h => h) (Or.inl ⟨by rfl, ?_⟩) (by assumption) ?_
    rotate_left
    · intro w' hSw
      try dsimp only at hSw
      go_simp
      try with_reducible rfl
    try simp only [Act.put, List.setIfInBounds_toArray, List.set_cons_zero, List.set_cons_succ]
    refine wpAnyH_ready (rs := [3]) (by kernel_rfl) (by simp) ?_
    refine AllReadyH.cons rfl (fun K hK => ?_) AllReadyH.nil
    go_simp
    go_at_call 30
    refine (Vw.rday_calls _ _).mono ?_
    rintro r wy ⟨rfl, hby⟩
    have gb3 : Below w3.heap.size w3 wy := bl_call (by repeat (first | assumption | exact Below.refl _ _ | apply bl_alloc | apply bl_drew)) hby
    clear hby
    try go_wp2_with fail
    refine hK.out _ _ (HKE.out _ (by repeat (first | assumption | exact Below.refl _ _ | apply bl_alloc | apply bl_drew))) (fun hHeld => ?_)
    clear hK K
    try simp only [Act.put, List.setIfInBounds_toArray, List.set_cons_zero, List.set_cons_succ]
    refine takeH (i := 4) (N := some 30) (v := ?_) rfl rfl (by kernel_rfl) (by kernel_rfl) (by kernel_rfl) (fun _ _ _ h => h) (Or.inl ⟨by rfl, ?_⟩) (by assumption) ?_
    rotate_left
    · intro w' hSw
      try dsimp only at hSw
      go_simp
      try with_reducible rfl
    try simp only [Act.put, List.setIfInBounds_toArray, List.set_cons_zero, List.set_cons_succ]
    refine takeH (i := 5) (N := some 31) (v := ?_) rfl rfl (by kernel_rfl) (by kernel_rfl) (by kernel_rfl) (fun _ _ _ h => h) (Or.inl ⟨by rfl, ?_⟩) (by assumption) ?_
    rotate_left
    · intro w' hSw
      try dsimp only at hSw
      go_simp
      try with_reducible rfl
    try simp only [Act.put, List.setIfInBounds_toArray, List.set_cons_zero, List.set_cons_succ]
    refine wpAnyH_ready (rs := [6]) (by kernel_rfl) (by simp) ?_
    refine AllReadyH.cons rfl (fun K hK => ?_) AllReadyH.nil
    go_simp
    go_at_call 31
    refine (kinds_at _).mono ?_
    rintro r wk ⟨⟨gk, rfl, hk⟩, hb⟩
    have ck : wk.cell? ⟨gk, kj, none⟩ = some (.string (str Wd)) := hk kj _ HWd.out
    have gb1 : Below w3.heap.size w3 wk := bl_call (by repeat (first | assumption | exact Below.refl _ _ | apply bl_alloc | apply bl_drew)) hb
    clear hk hb
    try go_wp2_with fail
    refine hK.out _ _ (HKE.out _ (by repeat (first | assumption | exact Below.refl _ _ | apply bl_alloc | apply bl_drew))) (fun hHeld => ?_)
    clear hK K
    try simp only [Act.put, List.setIfInBounds_toArray, List.set_cons_zero, List.set_cons_succ]
    refine wpAnyH_ready (rs := [10]) (by kernel_rfl) (by simp) ?_
    refine AllReadyH.cons rfl (fun K hK => ?_) AllReadyH.nil
    go_simp
    try go_wp2_with fail
    refine hK.out _ _ (HKE.out _ (by repeat (first | assumption | exact Below.refl _ _ | apply bl_alloc | apply bl_drew))) (fun hHeld => ?_)
    clear hK K
    try simp only [Act.put, List.setIfInBounds_toArray, List.set_cons_zero, List.set_cons_succ]
    refine wpAnyH_ready (rs := [11]) (by kernel_rfl) (by simp) ?_
    refine AllReadyH.cons rfl (fun K hK => ?_) AllReadyH.nil
    go_simp
    try go_wp2_with fail
    refine hK.out _ _ (HKE.out _ (by repeat (first | assumption | exact Below.refl _ _ | apply bl_alloc | apply bl_drew))) (fun hHeld => ?_)
    clear hK K
    try simp only [Act.put, List.setIfInBounds_toArray, List.set_cons_zero, List.set_cons_succ]
    refine takeH (i := 12) (N := some 38) (v := ?_) rfl rfl (by kernel_rfl) (by kernel_rfl) (by kernel_rfl) (fun _ _ _ h => h) (Or.inl ⟨by rfl, ?_⟩) (by assumption) ?_
    rotate_left
    · intro w' hSw
      try dsimp only at hSw
      go_simp
      try with_reducible rfl
    try simp only [Act.put, List.setIfInBounds_toArray, List.set_cons_zero, List.set_cons_succ]
    refine takeH (i := 13) (N := some 39) (v := ?_) rfl rfl (by kernel_rfl) (by kernel_rfl) (by kernel_rfl) (fun _ _ _ h => h) (Or.inl ⟨by rfl, ?_⟩) (by assumption) ?_
    rotate_left
    · intro w' hSw
      try dsimp only at hSw
      go_simp
      try with_reducible rfl
    try simp only [Act.put, List.setIfInBounds_toArray, List.set_cons_zero, List.set_cons_succ]
    refine takeH (i := 14) (N := some 4) (v := ?_) rfl rfl (by kernel_rfl) (by kernel_rfl) (by kernel_rfl) (fun _ _ _ h => h) (Or.inl ⟨by rfl, ?_⟩) (by assumption) ?_
    rotate_left
    · intro w' hSw
      try dsimp only at hSw
      go_simp
      try with_reducible rfl
    try simp only [Act.put, List.setIfInBounds_toArray, List.set_cons_zero, List.set_cons_succ]
    refine wpAnyH_done (by kernel_rfl) ?_ _
    refine NoPanic.normal ?_
    all_goals (go_wp2_with fail)
    all_goals go_meet
    all_goals case rel => exact ⟨rfl, (by repeat (first | assumption | exact Below.refl _ _ | apply bl_alloc | apply bl_drew))⟩
  case rest =>
  obtain ⟨rfl, hb⟩ := hcut
  have HE4 := Lib.hid (HE3.out.below hb)
  have HC4 := Lib.hid (HC3.out.below hb)
  have HB4 := Lib.hid (HB3.out.trans (hb.mono HB3.out.size))
  clear hb hsx1 hsx2 hsx3 hs4 hsub hwr hk0 hk1
  generalize wc = w4 at *
  have kk0 : w4.cell? ⟨ge, 0, none⟩ = some (.int .i64 kd) := HE4.out.cell 0
  go_upto_block 0 with fail
  clear kk0
  go_cut [4] from 42 to 137 (fun v W => v = .string (str Lf) ∧ Below w4.heap.size w4 W)
  case first =>
    have hkp : (pl = 0 ∧ (kd = 1 ∨ kd = 2 ∨ kd = 3 ∨ kd = 4 ∨ kd = 6 ∨ kd = 7 ∨ kd = 8)) ∨ (kd = 5 ∧ (pl = 1 ∨ pl = 2 ∨ pl = 3 ∨ pl = 4)) := good_kp _ HGe.out
    rcases hkp with ⟨rfl, hkk⟩ | ⟨rfl, hpp⟩
    · rcases hkk with rfl | rfl | rfl | rfl | rfl | rfl | rfl
      · cases sb with
        | true =>
          obtain rfl : kj = 0 := by have := HKj.out; omega
          obtain rfl := Option.some.inj (show some [100, 105, 115, 98, 117, 114, 115, 101] = some Wd from HWd.out)
          have hV := ln_1t kn dy ek ln am st fm o rt ic
          rw [HLf.out] at hV
          have hl := congrArg List.length hV
          simp only [List.length_append, List.length_cons, List.length_nil] at hl
          have hLl := HLl.out
          rw [HS1.out] at hV
          have hlS := congrArg List.length HS1.out
          simp only [List.length_append, List.length_cons, List.length_nil] at hlS
          obtain ⟨y1, hy1⟩ : ∃ z, ([32] : List UInt8) ++ itoa ln = z := ⟨_, rfl⟩
          have hsy1 := add_eq hy1 (by (try simp only [List.length_cons, List.length_nil]); omega)
          have hly1 := congrArg List.length hy1
          simp only [List.length_append, List.length_cons, List.length_nil] at hly1
          rw [hy1] at hV
          obtain ⟨y2, hy2⟩ : ∃ z, y1 ++ [32] = z := ⟨_, rfl⟩
          have hsy2 := add_eq hy2 (by (try simp only [List.length_cons, List.length_nil]); omega)
          have hly2 := congrArg List.length hy2
          simp only [List.length_append, List.length_cons, List.length_nil] at hly2
          rw [hy2] at hV
          obtain ⟨y3, hy3⟩ : ∃ z, y2 ++ itoa am = z := ⟨_, rfl⟩
          have hsy3 := add_eq hy3 (by (try simp only [List.length_append, List.length_cons, List.length_nil]); omega)
          have hly3 := congrArg List.length hy3
          simp only [List.length_append] at hly3
          rw [hy3] at hV
          obtain ⟨y4, hy4⟩ : ∃ z, y3 ++ [32] = z := ⟨_, rfl⟩
          have hsy4 := add_eq hy4 (by (try simp only [List.length_cons, List.length_nil]); omega)
          have hly4 := congrArg List.length hy4
          simp only [List.length_append, List.length_cons, List.length_nil] at hly4
          rw [hy4] at hV
          obtain ⟨y5, hy5⟩ : ∃ z, y4 ++ hexT (bitU rt) = z := ⟨_, rfl⟩
          have hsy5 := add_eq hy5 (by (try simp only [List.length_append, List.length_cons, List.length_nil]); omega)
          have hly5 := congrArg List.length hy5
          simp only [List.length_append] at hly5
          rw [hy5] at hV
          obtain ⟨y6, hy6⟩ : ∃ z, S1 ++ y5 = z := ⟨_, rfl⟩
          have hsy6 := add_eq hy6 (by (try simp only [List.length_append, List.length_cons, List.length_nil]); omega)
          have hly6 := congrArg List.length hy6
          simp only [List.length_append] at hly6
          rw [hy6] at hV
          have hsL := add_eq hV.symm (by (try simp only [List.length_cons, List.length_nil]); omega)
          clear hV hl hLl hlS hy1 hly1 hy2 hly2 hy3 hly3 hy4 hly4 hy5 hly5 hy6 hly6
          go_upto_region 10 with fail
          have HKE : Hid (∀ W, Below w4.heap.size w4 W → W.cell? ⟨ge, 3, none⟩ = some (.int .i64 ln) ∧ W.cell? ⟨ge, 4, none⟩ = some (.int .i64 am) ∧ W.cell? ⟨ge, 5, none⟩ = some (.float .f64 rt) ∧ W.cell? ⟨ge, 7, none⟩ = some (.bool true)) := Lib.hid (fun W hW => ⟨(HE4.out.below hW).cell 3, (HE4.out.below hW).cell 4, (HE4.out.below hW).cell 5, (HE4.out.below hW).cell 7⟩)
          go_region_held3 (fun w' => w'.cell? ⟨ge, 3, none⟩ = some (.int .i64 ln) ∧ w'.cell? ⟨ge, 4, none⟩ = some (.int .i64 am) ∧ w'.cell? ⟨ge, 5, none⟩ = some (.float .f64 rt) ∧ w'.cell? ⟨ge, 7, none⟩ = some (.bool true)) (exact HKE.out _ (by repeat (first | assumption | exact Below.refl _ _ | apply bl_alloc | apply bl_drew)))
            (first
              | (go_at_call 29; refine (rdec_calls _ (by assumption) (by assumption) _).mono ?_; rintro r wd ⟨rfl, hwd⟩; rw [hwd]; clear hwd)
              | (go_at_call 32; refine (rhex_calls _ hrt _).mono ?_; rintro r wh ⟨rfl, hbh⟩; have gb2 : Below w4.heap.size w4 wh := bl_call (by repeat (first | assumption | exact Below.refl _ _ | apply bl_alloc | apply bl_drew)) hbh; clear hbh))
          all_goals (go_wp2_with fail)
          all_goals go_meet
          all_goals case rel => exact ⟨rfl, (by repeat (first | assumption | exact Below.refl _ _ | apply bl_alloc | apply bl_drew))⟩
        | false =>
          obtain rfl : kj = 0 := by have := HKj.out; omega
          obtain rfl := Option.some.inj (show some [100, 105, 115, 98, 117, 114, 115, 101] = some Wd from HWd.out)
          have hV := ln_1f kn dy ek ln am st fm o rt ic
          rw [HLf.out] at hV
          have hl := congrArg List.length hV
          simp only [List.length_append, List.length_cons, List.length_nil] at hl
          have hLl := HLl.out
          rw [HS1.out] at hV
          have hlS := congrArg List.length HS1.out
          simp only [List.length_append, List.length_cons, List.length_nil] at hlS
          obtain ⟨y1, hy1⟩ : ∃ z, ([32] : List UInt8) ++ itoa ln = z := ⟨_, rfl⟩
          have hsy1 := add_eq hy1 (by (try simp only [List.length_cons, List.length_nil]); omega)
          have hly1 := congrArg List.length hy1
          simp only [List.length_append, List.length_cons, List.length_nil] at hly1
          rw [hy1] at hV
          obtain ⟨y2, hy2⟩ : ∃ z, y1 ++ [32] = z := ⟨_, rfl⟩
          have hsy2 := add_eq hy2 (by (try simp only [List.length_cons, List.length_nil]); omega)
          have hly2 := congrArg List.length hy2
          simp only [List.length_append, List.length_cons, List.length_nil] at hly2
          rw [hy2] at hV
          obtain ⟨y3, hy3⟩ : ∃ z, y2 ++ itoa am = z := ⟨_, rfl⟩
          have hsy3 := add_eq hy3 (by (try simp only [List.length_append, List.length_cons, List.length_nil]); omega)
          have hly3 := congrArg List.length hy3
          simp only [List.length_append] at hly3
          rw [hy3] at hV
          obtain ⟨y4, hy4⟩ : ∃ z, y3 ++ [32] = z := ⟨_, rfl⟩
          have hsy4 := add_eq hy4 (by (try simp only [List.length_cons, List.length_nil]); omega)
          have hly4 := congrArg List.length hy4
          simp only [List.length_append, List.length_cons, List.length_nil] at hly4
          rw [hy4] at hV
          obtain ⟨y5, hy5⟩ : ∃ z, y4 ++ hexT (bitU rt) = z := ⟨_, rfl⟩
          have hsy5 := add_eq hy5 (by (try simp only [List.length_append, List.length_cons, List.length_nil]); omega)
          have hly5 := congrArg List.length hy5
          simp only [List.length_append] at hly5
          rw [hy5] at hV
          obtain ⟨y6, hy6⟩ : ∃ z, S1 ++ y5 = z := ⟨_, rfl⟩
          have hsy6 := add_eq hy6 (by (try simp only [List.length_append, List.length_cons, List.length_nil]); omega)
          have hly6 := congrArg List.length hy6
          simp only [List.length_append] at hly6
          rw [hy6] at hV
          have hsL := add_eq hV.symm (by (try simp only [List.length_cons, List.length_nil]); omega)
          clear hV hl hLl hlS hy1 hly1 hy2 hly2 hy3 hly3 hy4 hly4 hy5 hly5 hy6 hly6
          go_upto_region 10 with fail
          have HKE : Hid (∀ W, Below w4.heap.size w4 W → W.cell? ⟨ge, 3, none⟩ = some (.int .i64 ln) ∧ W.cell? ⟨ge, 4, none⟩ = some (.int .i64 am) ∧ W.cell? ⟨ge, 5, none⟩ = some (.float .f64 rt) ∧ W.cell? ⟨ge, 7, none⟩ = some (.bool false)) := Lib.hid (fun W hW => ⟨(HE4.out.below hW).cell 3, (HE4.out.below hW).cell 4, (HE4.out.below hW).cell 5, (HE4.out.below hW).cell 7⟩)
          go_region_held3 (fun w' => w'.cell? ⟨ge, 3, none⟩ = some (.int .i64 ln) ∧ w'.cell? ⟨ge, 4, none⟩ = some (.int .i64 am) ∧ w'.cell? ⟨ge, 5, none⟩ = some (.float .f64 rt) ∧ w'.cell? ⟨ge, 7, none⟩ = some (.bool false)) (exact HKE.out _ (by repeat (first | assumption | exact Below.refl _ _ | apply bl_alloc | apply bl_drew)))
            (first
              | (go_at_call 29; refine (rdec_calls _ (by assumption) (by assumption) _).mono ?_; rintro r wd ⟨rfl, hwd⟩; rw [hwd]; clear hwd)
              | (go_at_call 32; refine (rhex_calls _ hrt _).mono ?_; rintro r wh ⟨rfl, hbh⟩; have gb2 : Below w4.heap.size w4 wh := bl_call (by repeat (first | assumption | exact Below.refl _ _ | apply bl_alloc | apply bl_drew)) hbh; clear hbh))
          all_goals (go_wp2_with fail)
          all_goals go_meet
          all_goals case rel => exact ⟨rfl, (by repeat (first | assumption | exact Below.refl _ _ | apply bl_alloc | apply bl_drew))⟩
      · have hdum : True := trivial
        have hst : 1 ≤ st ∧ st ≤ 5 := by
          rcases (good_kinds _ HGe.out).2 with ⟨h4, h3⟩ | ⟨h4, h3⟩ | ⟨h4, h3⟩ | ⟨h4, h3⟩ | ⟨h4, h3⟩ | ⟨h4, h3⟩ | ⟨h4, h3⟩ | ⟨h4, h3⟩
          case inr.inl => exact field_yes h3.status
          all_goals simp at h4
        obtain ⟨sj, hsj, hs5, hWs⟩ := stat_at hst
        have HSb : Hid (IntKind.i64.wrap (st - 1) = (sj : Int)) := Lib.hid (by rw [IntKind.wrap_i64]; omega)
        have hj0 : (0 : Int) ≤ (sj : Int) := by omega
        have hj1 : (sj : Int) < 5 := by omega
        clear hst hsj
        obtain rfl : kj = 1 := by have := HKj.out; omega
        obtain rfl := Option.some.inj (show some [115, 116, 97, 116, 117, 115] = some Wd from HWd.out)
        have hV := ln_2 kn dy ek ln am st fm o rt ic sb
        rw [HLf.out] at hV
        have hl := congrArg List.length hV
        simp only [List.length_append, List.length_cons, List.length_nil] at hl
        have hLl := HLl.out
        rw [HS1.out] at hV
        have hlS := congrArg List.length HS1.out
        simp only [List.length_append, List.length_cons, List.length_nil] at hlS
        obtain ⟨y1, hy1⟩ : ∃ z, ([32] : List UInt8) ++ itoa ln = z := ⟨_, rfl⟩
        have hsy1 := add_eq hy1 (by (try simp only [List.length_cons, List.length_nil]); omega)
        have hly1 := congrArg List.length hy1
        simp only [List.length_append, List.length_cons, List.length_nil] at hly1
        rw [hy1] at hV
        obtain ⟨y2, hy2⟩ : ∃ z, y1 ++ [32] = z := ⟨_, rfl⟩
        have hsy2 := add_eq hy2 (by (try simp only [List.length_cons, List.length_nil]); omega)
        have hly2 := congrArg List.length hy2
        simp only [List.length_append, List.length_cons, List.length_nil] at hly2
        rw [hy2] at hV
        obtain ⟨y3, hy3⟩ : ∃ z, y2 ++ stW st = z := ⟨_, rfl⟩
        have hsy3 := add_eq hy3 (by (try simp only [List.length_append, List.length_cons, List.length_nil]); omega)
        have hly3 := congrArg List.length hy3
        simp only [List.length_append] at hly3
        rw [hy3] at hV
        have hsL := add_eq hV.symm (by (try simp only [List.length_append, List.length_cons, List.length_nil]); omega)
        clear hV hl hLl hlS hy1 hly1 hy2 hly2 hy3 hly3
        have hsb := HSb.out
        go_upto_region 15 with fail
        have HKE : Hid (∀ W, Below w4.heap.size w4 W → W.cell? ⟨ge, 3, none⟩ = some (.int .i64 ln) ∧ W.cell? ⟨ge, 8, none⟩ = some (.int .i64 st)) := Lib.hid (fun W hW => ⟨(HE4.out.below hW).cell 3, (HE4.out.below hW).cell 8⟩)
        refine wp_region_noPanic ?_
        refine wp_region_held_drew (S := fun w' => w'.cell? ⟨ge, 3, none⟩ = some (.int .i64 ln) ∧ w'.cell? ⟨ge, 8, none⟩ = some (.int .i64 st)) (by kernel_rfl) ?_ (fun hHeld => ?_)
        · exact HKE.out _ (bl_drew (Below.refl _ _))
        refine takeH (i := 0) (N := some 68) (v := ?_) rfl rfl (by kernel_rfl) (by kernel_rfl) (by kernel_rfl) (fun _ _ _ h => h) (Or.inl ⟨by rfl, ?_⟩) (by assumption) ?_
        rotate_left
        · intro w' hSw
          try dsimp only at hSw
          go_simp
          try with_reducible rfl
        try simp only [Act.put, List.setIfInBounds_toArray, List.set_cons_zero, List.set_cons_succ]
        refine takeH (i := 1) (N := some 69) (v := ?_) rfl rfl (by kernel_rfl) (by kernel_rfl) (by kernel_rfl) (fun _ _ _ h => h) (Or.inl ⟨by rfl, ?_⟩) (by assumption) ?_
        rotate_left
        · intro w' hSw
          try dsimp only at hSw
          go_simp
          try with_reducible rfl
        try simp only [Act.put, List.setIfInBounds_toArray, List.set_cons_zero, List.set_cons_succ]
        refine takeH (i := 2) (N := some 70) (v := ?_) rfl rfl (by kernel_rfl) (by kernel_rfl) (by kernel_rfl) (fun _ _ _ h => h) (Or.inl ⟨by rfl, ?_⟩) (by assumption) ?_
        rotate_left
        · intro w' hSw
          try dsimp only at hSw
          go_simp
          try with_reducible rfl
        try simp only [Act.put, List.setIfInBounds_toArray, List.set_cons_zero, List.set_cons_succ]
        refine takeH (i := 7) (N := some 75) (v := ?_) rfl rfl (by kernel_rfl) (by kernel_rfl) (by kernel_rfl) (fun _ _ _ h => h) (Or.inl ⟨by rfl, ?_⟩) (by assumption) ?_
        rotate_left
        · intro w' hSw
          try dsimp only at hSw
          go_simp
          try with_reducible rfl
        try simp only [Act.put, List.setIfInBounds_toArray, List.set_cons_zero, List.set_cons_succ]
        refine takeH (i := 8) (N := some 76) (v := ?_) rfl rfl (by kernel_rfl) (by kernel_rfl) (by kernel_rfl) (fun _ _ _ h => h) (Or.inl ⟨by rfl, ?_⟩) (by assumption) ?_
        rotate_left
        · intro w' hSw
          try dsimp only at hSw
          go_simp
          try with_reducible rfl
        try simp only [Act.put, List.setIfInBounds_toArray, List.set_cons_zero, List.set_cons_succ]
        refine takeH (i := 9) (N := some 77) (v := ?_) rfl rfl (by kernel_rfl) (by kernel_rfl) (by kernel_rfl) (fun _ _ _ h => h) (Or.inl ⟨by rfl, ?_⟩) (by assumption) ?_
        rotate_left
        · intro w' hSw
          try dsimp only at hSw
          go_simp
          try with_reducible rfl
        try simp only [Act.put, List.setIfInBounds_toArray, List.set_cons_zero, List.set_cons_succ]
        refine wpAnyH_ready (rs := [3]) (by kernel_rfl) (by simp) ?_
        refine AllReadyH.cons rfl (fun K hK => ?_) AllReadyH.nil
        go_simp
        go_at_call 29
        refine (rdec_calls _ (by assumption) (by assumption) _).mono ?_
        rintro r wd ⟨rfl, hwd⟩
        rw [hwd]
        clear hwd
        try go_wp2_with fail
        refine hK.out _ _ (HKE.out _ (by repeat (first | assumption | exact Below.refl _ _ | apply bl_alloc | apply bl_drew))) (fun hHeld => ?_)
        clear hK K
        try simp only [Act.put, List.setIfInBounds_toArray, List.set_cons_zero, List.set_cons_succ]
        refine takeH (i := 4) (N := some 72) (v := ?_) rfl rfl (by kernel_rfl) (by kernel_rfl) (by kernel_rfl) (fun _ _ _ h => h) (Or.inl ⟨by rfl, ?_⟩) (by assumption) ?_
        rotate_left
        · intro w' hSw
          try dsimp only at hSw
          go_simp
          try with_reducible rfl
        try simp only [Act.put, List.setIfInBounds_toArray, List.set_cons_zero, List.set_cons_succ]
        refine takeH (i := 5) (N := some 73) (v := ?_) rfl rfl (by kernel_rfl) (by kernel_rfl) (by kernel_rfl) (fun _ _ _ h => h) (Or.inl ⟨by rfl, ?_⟩) (by assumption) ?_
        rotate_left
        · intro w' hSw
          try dsimp only at hSw
          go_simp
          try with_reducible rfl
        try simp only [Act.put, List.setIfInBounds_toArray, List.set_cons_zero, List.set_cons_succ]
        refine wpAnyH_ready (rs := [6]) (by kernel_rfl) (by simp) ?_
        refine AllReadyH.cons rfl (fun K hK => ?_) AllReadyH.nil
        go_simp
        go_at_call 33
        refine (stats_at _).mono ?_
        rintro r wk ⟨⟨gk, rfl, hk⟩, hb⟩
        have ck : wk.cell? ⟨gk, sj, none⟩ = some (.string (str (stW st))) := hk sj _ hWs
        have gb1 : Below w4.heap.size w4 wk := bl_call (by repeat (first | assumption | exact Below.refl _ _ | apply bl_alloc | apply bl_drew)) hb
        clear hk hb
        try go_wp2_with fail
        refine hK.out _ _ (HKE.out _ (by repeat (first | assumption | exact Below.refl _ _ | apply bl_alloc | apply bl_drew))) (fun hHeld => ?_)
        clear hK K
        try simp only [Act.put, List.setIfInBounds_toArray, List.set_cons_zero, List.set_cons_succ]
        refine wpAnyH_ready (rs := [10]) (by kernel_rfl) (by simp) ?_
        refine AllReadyH.cons rfl (fun K hK => ?_) AllReadyH.nil
        go_simp
        try go_wp2_with fail
        refine hK.out _ _ (HKE.out _ (by repeat (first | assumption | exact Below.refl _ _ | apply bl_alloc | apply bl_drew))) (fun hHeld => ?_)
        clear hK K
        try simp only [Act.put, List.setIfInBounds_toArray, List.set_cons_zero, List.set_cons_succ]
        refine wpAnyH_ready (rs := [11]) (by kernel_rfl) (by simp) ?_
        refine AllReadyH.cons rfl (fun K hK => ?_) AllReadyH.nil
        go_simp
        try go_wp2_with fail
        refine hK.out _ _ (HKE.out _ (by repeat (first | assumption | exact Below.refl _ _ | apply bl_alloc | apply bl_drew))) (fun hHeld => ?_)
        clear hK K
        try simp only [Act.put, List.setIfInBounds_toArray, List.set_cons_zero, List.set_cons_succ]
        refine takeH (i := 12) (N := some 80) (v := ?_) rfl rfl (by kernel_rfl) (by kernel_rfl) (by kernel_rfl) (fun _ _ _ h => h) (Or.inl ⟨by rfl, ?_⟩) (by assumption) ?_
        rotate_left
        · intro w' hSw
          try dsimp only at hSw
          go_simp
          try with_reducible rfl
        try simp only [Act.put, List.setIfInBounds_toArray, List.set_cons_zero, List.set_cons_succ]
        refine takeH (i := 13) (N := some 81) (v := ?_) rfl rfl (by kernel_rfl) (by kernel_rfl) (by kernel_rfl) (fun _ _ _ h => h) (Or.inl ⟨by rfl, ?_⟩) (by assumption) ?_
        rotate_left
        · intro w' hSw
          try dsimp only at hSw
          go_simp
          try with_reducible rfl
        try simp only [Act.put, List.setIfInBounds_toArray, List.set_cons_zero, List.set_cons_succ]
        refine takeH (i := 14) (N := some 4) (v := ?_) rfl rfl (by kernel_rfl) (by kernel_rfl) (by kernel_rfl) (fun _ _ _ h => h) (Or.inl ⟨by rfl, ?_⟩) (by assumption) ?_
        rotate_left
        · intro w' hSw
          try dsimp only at hSw
          go_simp
          try with_reducible rfl
        try simp only [Act.put, List.setIfInBounds_toArray, List.set_cons_zero, List.set_cons_succ]
        refine wpAnyH_done (by kernel_rfl) ?_ _
        refine NoPanic.normal ?_
        all_goals (go_wp2_with fail)
        all_goals go_meet
        all_goals case rel => exact ⟨rfl, (by repeat (first | assumption | exact Below.refl _ _ | apply bl_alloc | apply bl_drew))⟩
      · have hdum : True := trivial
        obtain rfl : kj = 2 := by have := HKj.out; omega
        obtain rfl := Option.some.inj (show some [112, 97, 121] = some Wd from HWd.out)
        have hV := ln_3 kn dy ek ln am st fm o rt ic sb
        rw [HLf.out] at hV
        have hl := congrArg List.length hV
        simp only [List.length_append, List.length_cons, List.length_nil] at hl
        have hLl := HLl.out
        rw [HS1.out] at hV
        have hlS := congrArg List.length HS1.out
        simp only [List.length_append, List.length_cons, List.length_nil] at hlS
        obtain ⟨y1, hy1⟩ : ∃ z, ([32] : List UInt8) ++ itoa am = z := ⟨_, rfl⟩
        have hsy1 := add_eq hy1 (by (try simp only [List.length_cons, List.length_nil]); omega)
        have hly1 := congrArg List.length hy1
        simp only [List.length_append, List.length_cons, List.length_nil] at hly1
        rw [hy1] at hV
        have hsL := add_eq hV.symm (by (try simp only [List.length_append, List.length_cons, List.length_nil]); omega)
        clear hV hl hLl hlS hy1 hly1
        have kk4 : w4.cell? ⟨ge, 4, none⟩ = some (.int .i64 am) := HE4.out.cell 4
        go_wp2_with fail
        refine (rdec_calls am ham0 ham1 _).mono ?_
        rintro r wd ⟨rfl, hwd⟩
        rw [hwd]
        clear hwd kk4
        all_goals (go_wp2_with fail)
        all_goals go_meet
        all_goals case rel => exact ⟨rfl, (by repeat (first | assumption | exact Below.refl _ _ | apply bl_alloc | apply bl_drew))⟩
      · have hdum : True := trivial
        obtain rfl : kj = 3 := by have := HKj.out; omega
        obtain rfl := Option.some.inj (show some [102, 101, 101] = some Wd from HWd.out)
        have hV := ln_4 kn dy ek ln am st fm o rt ic sb
        rw [HLf.out] at hV
        have hl := congrArg List.length hV
        simp only [List.length_append, List.length_cons, List.length_nil] at hl
        have hLl := HLl.out
        rw [HS1.out] at hV
        have hlS := congrArg List.length HS1.out
        simp only [List.length_append, List.length_cons, List.length_nil] at hlS
        obtain ⟨y1, hy1⟩ : ∃ z, ([32] : List UInt8) ++ itoa ln = z := ⟨_, rfl⟩
        have hsy1 := add_eq hy1 (by (try simp only [List.length_cons, List.length_nil]); omega)
        have hly1 := congrArg List.length hy1
        simp only [List.length_append, List.length_cons, List.length_nil] at hly1
        rw [hy1] at hV
        obtain ⟨y2, hy2⟩ : ∃ z, y1 ++ [32] = z := ⟨_, rfl⟩
        have hsy2 := add_eq hy2 (by (try simp only [List.length_cons, List.length_nil]); omega)
        have hly2 := congrArg List.length hy2
        simp only [List.length_append, List.length_cons, List.length_nil] at hly2
        rw [hy2] at hV
        obtain ⟨y3, hy3⟩ : ∃ z, y2 ++ itoa am = z := ⟨_, rfl⟩
        have hsy3 := add_eq hy3 (by (try simp only [List.length_append, List.length_cons, List.length_nil]); omega)
        have hly3 := congrArg List.length hy3
        simp only [List.length_append] at hly3
        rw [hy3] at hV
        have hsL := add_eq hV.symm (by (try simp only [List.length_append, List.length_cons, List.length_nil]); omega)
        clear hV hl hLl hlS hy1 hly1 hy2 hly2 hy3 hly3
        go_upto_region 19 with fail
        have HKE : Hid (∀ W, Below w4.heap.size w4 W → W.cell? ⟨ge, 3, none⟩ = some (.int .i64 ln) ∧ W.cell? ⟨ge, 4, none⟩ = some (.int .i64 am)) := Lib.hid (fun W hW => ⟨(HE4.out.below hW).cell 3, (HE4.out.below hW).cell 4⟩)
        go_region_held3 (fun w' => w'.cell? ⟨ge, 3, none⟩ = some (.int .i64 ln) ∧ w'.cell? ⟨ge, 4, none⟩ = some (.int .i64 am)) (exact HKE.out _ (by repeat (first | assumption | exact Below.refl _ _ | apply bl_alloc | apply bl_drew)))
          (first
            | (go_at_call 29; refine (rdec_calls _ (by assumption) (by assumption) _).mono ?_; rintro r wd ⟨rfl, hwd⟩; rw [hwd]; clear hwd))
        all_goals (go_wp2_with fail)
        all_goals go_meet
        all_goals case rel => exact ⟨rfl, (by repeat (first | assumption | exact Below.refl _ _ | apply bl_alloc | apply bl_drew))⟩
      · have hdum : True := trivial
        obtain rfl : kj = 5 := by have := HKj.out; omega
        obtain rfl := Option.some.inj (show some [102, 111, 114, 103, 105, 118, 101] = some Wd from HWd.out)
        have hV := ln_6 kn dy ek ln am st fm o rt ic sb
        rw [HLf.out] at hV
        have hl := congrArg List.length hV
        simp only [List.length_append, List.length_cons, List.length_nil] at hl
        have hLl := HLl.out
        have hLS := hV.trans HS1.out
        subst hLS
        clear hV hl hLl
        all_goals (go_wp2_with fail)
        all_goals go_meet
        all_goals case rel => exact ⟨rfl, (by repeat (first | assumption | exact Below.refl _ _ | apply bl_alloc | apply bl_drew))⟩
      · have hdum : True := trivial
        obtain rfl : kj = 6 := by have := HKj.out; omega
        obtain rfl := Option.some.inj (show some [99, 111, 110, 115, 111, 108, 105, 100, 97, 116, 101] = some Wd from HWd.out)
        have hV := ln_7 kn dy ek ln am st fm o rt ic sb
        rw [HLf.out] at hV
        have hl := congrArg List.length hV
        simp only [List.length_append, List.length_cons, List.length_nil] at hl
        have hLl := HLl.out
        rw [HS1.out] at hV
        have hlS := congrArg List.length HS1.out
        simp only [List.length_append, List.length_cons, List.length_nil] at hlS
        obtain ⟨y1, hy1⟩ : ∃ z, ([32] : List UInt8) ++ itoa ln = z := ⟨_, rfl⟩
        have hsy1 := add_eq hy1 (by (try simp only [List.length_cons, List.length_nil]); omega)
        have hly1 := congrArg List.length hy1
        simp only [List.length_append, List.length_cons, List.length_nil] at hly1
        rw [hy1] at hV
        have hsL := add_eq hV.symm (by (try simp only [List.length_append, List.length_cons, List.length_nil]); omega)
        clear hV hl hLl hlS hy1 hly1
        have kk3 : w4.cell? ⟨ge, 3, none⟩ = some (.int .i64 ln) := HE4.out.cell 3
        go_wp2_with fail
        refine (rdec_calls ln hln0 hln1 _).mono ?_
        rintro r wd ⟨rfl, hwd⟩
        rw [hwd]
        clear hwd kk3
        all_goals (go_wp2_with fail)
        all_goals go_meet
        all_goals case rel => exact ⟨rfl, (by repeat (first | assumption | exact Below.refl _ _ | apply bl_alloc | apply bl_drew))⟩
      · have hdum : True := trivial
        obtain rfl : kj = 7 := by have := HKj.out; omega
        obtain rfl := Option.some.inj (show some [100, 105, 115, 99, 104, 97, 114, 103, 101] = some Wd from HWd.out)
        have hV := ln_8 kn dy ek ln am st fm o rt ic sb
        rw [HLf.out] at hV
        have hl := congrArg List.length hV
        simp only [List.length_append, List.length_cons, List.length_nil] at hl
        have hLl := HLl.out
        rw [HS1.out] at hV
        have hlS := congrArg List.length HS1.out
        simp only [List.length_append, List.length_cons, List.length_nil] at hlS
        obtain ⟨y1, hy1⟩ : ∃ z, ([32] : List UInt8) ++ itoa ln = z := ⟨_, rfl⟩
        have hsy1 := add_eq hy1 (by (try simp only [List.length_cons, List.length_nil]); omega)
        have hly1 := congrArg List.length hy1
        simp only [List.length_append, List.length_cons, List.length_nil] at hly1
        rw [hy1] at hV
        have hsL := add_eq hV.symm (by (try simp only [List.length_append, List.length_cons, List.length_nil]); omega)
        clear hV hl hLl hlS hy1 hly1
        have kk3 : w4.cell? ⟨ge, 3, none⟩ = some (.int .i64 ln) := HE4.out.cell 3
        go_wp2_with fail
        refine (rdec_calls ln hln0 hln1 _).mono ?_
        rintro r wd ⟨rfl, hwd⟩
        rw [hwd]
        clear hwd kk3
        all_goals (go_wp2_with fail)
        all_goals go_meet
        all_goals case rel => exact ⟨rfl, (by repeat (first | assumption | exact Below.refl _ _ | apply bl_alloc | apply bl_drew))⟩
    · by_cases hp3 : pl = 1 ∨ pl = 2 ∨ pl = 3
      · have hdum : True := trivial
        obtain ⟨pj, PW, hpj, hp4, hWp, hln⟩ := ln_5 kn dy ek ln am st pl fm o rt ic sb hp3
        have HSb : Hid (IntKind.i64.wrap (pl - 1) = (pj : Int)) := Lib.hid (by rw [IntKind.wrap_i64]; omega)
        have hj0 : (0 : Int) ≤ (pj : Int) := by omega
        have hj1 : (pj : Int) < 4 := by omega
        have hpn : ¬ pl = 4 := by omega
        have hpb : (pl == 4) = false := beq_eq_false_iff_ne.2 hpn
        clear hp3 hpj
        obtain rfl : kj = 4 := by have := HKj.out; omega
        obtain rfl := Option.some.inj (show some [101, 110, 114, 111, 108, 108] = some Wd from HWd.out)
        have hV := hln
        rw [HLf.out] at hV
        have hl := congrArg List.length hV
        simp only [List.length_append, List.length_cons, List.length_nil] at hl
        have hLl := HLl.out
        rw [HS1.out] at hV
        have hlS := congrArg List.length HS1.out
        simp only [List.length_append, List.length_cons, List.length_nil] at hlS
        obtain ⟨y1, hy1⟩ : ∃ z, ([32] : List UInt8) ++ PW = z := ⟨_, rfl⟩
        have hsy1 := add_eq hy1 (by (try simp only [List.length_cons, List.length_nil]); omega)
        have hly1 := congrArg List.length hy1
        simp only [List.length_append, List.length_cons, List.length_nil] at hly1
        rw [hy1] at hV
        have hsL := add_eq hV.symm (by (try simp only [List.length_append, List.length_cons, List.length_nil]); omega)
        clear hV hl hLl hlS hy1 hly1
        have hsb := HSb.out
        go_upto_region 21 with fail
        have HKE : Hid (∀ W, Below w4.heap.size w4 W → W.cell? ⟨ge, 9, none⟩ = some (.int .i64 pl)) := Lib.hid (fun W hW => (HE4.out.below hW).cell 9)
        refine wp_region_noPanic ?_
        refine wp_region_held_drew (S := fun w' => w'.cell? ⟨ge, 9, none⟩ = some (.int .i64 pl)) (by kernel_rfl) ?_ (fun hHeld => ?_)
        · exact HKE.out _ (bl_drew (Below.refl _ _))
        refine takeH (i := 0) (N := some 105) (v := ?_) rfl rfl (by kernel_rfl) (by kernel_rfl) (by kernel_rfl) (fun _ _ _ h => h) (Or.inl ⟨by rfl, ?_⟩) (by assumption) ?_
        rotate_left
        · intro w' hSw
          try dsimp only at hSw
          go_simp
          try with_reducible rfl
        try simp only [Act.put, List.setIfInBounds_toArray, List.set_cons_zero, List.set_cons_succ]
        refine takeH (i := 2) (N := some 107) (v := ?_) rfl rfl (by kernel_rfl) (by kernel_rfl) (by kernel_rfl) (fun _ _ _ h => h) (Or.inl ⟨by rfl, ?_⟩) (by assumption) ?_
        rotate_left
        · intro w' hSw
          try dsimp only at hSw
          go_simp
          try with_reducible rfl
        try simp only [Act.put, List.setIfInBounds_toArray, List.set_cons_zero, List.set_cons_succ]
        refine takeH (i := 3) (N := some 108) (v := ?_) rfl rfl (by kernel_rfl) (by kernel_rfl) (by kernel_rfl) (fun _ _ _ h => h) (Or.inl ⟨by rfl, ?_⟩) (by assumption) ?_
        rotate_left
        · intro w' hSw
          try dsimp only at hSw
          go_simp
          try with_reducible rfl
        try simp only [Act.put, List.setIfInBounds_toArray, List.set_cons_zero, List.set_cons_succ]
        refine takeH (i := 4) (N := some 109) (v := ?_) rfl rfl (by kernel_rfl) (by kernel_rfl) (by kernel_rfl) (fun _ _ _ h => h) (Or.inl ⟨by rfl, ?_⟩) (by assumption) ?_
        rotate_left
        · intro w' hSw
          try dsimp only at hSw
          go_simp
          try with_reducible rfl
        try simp only [Act.put, List.setIfInBounds_toArray, List.set_cons_zero, List.set_cons_succ]
        refine wpAnyH_ready (rs := [1]) (by kernel_rfl) (by simp) ?_
        refine AllReadyH.cons rfl (fun K hK => ?_) AllReadyH.nil
        go_simp
        go_at_call 34
        refine (plans_at _).mono ?_
        rintro r wk ⟨⟨gk, rfl, hk⟩, hb⟩
        have ck : wk.cell? ⟨gk, pj, none⟩ = some (.string (str PW)) := hk pj _ hWp
        have gb1 : Below w4.heap.size w4 wk := bl_call (by repeat (first | assumption | exact Below.refl _ _ | apply bl_alloc | apply bl_drew)) hb
        clear hk hb
        try go_wp2_with fail
        refine hK.out _ _ (HKE.out _ (by repeat (first | assumption | exact Below.refl _ _ | apply bl_alloc | apply bl_drew))) (fun hHeld => ?_)
        clear hK K
        try simp only [Act.put, List.setIfInBounds_toArray, List.set_cons_zero, List.set_cons_succ]
        refine wpAnyH_ready (rs := [5]) (by kernel_rfl) (by simp) ?_
        refine AllReadyH.cons rfl (fun K hK => ?_) AllReadyH.nil
        go_simp
        try go_wp2_with fail
        refine hK.out _ _ (HKE.out _ (by repeat (first | assumption | exact Below.refl _ _ | apply bl_alloc | apply bl_drew))) (fun hHeld => ?_)
        clear hK K
        try simp only [Act.put, List.setIfInBounds_toArray, List.set_cons_zero, List.set_cons_succ]
        refine wpAnyH_ready (rs := [6]) (by kernel_rfl) (by simp) ?_
        refine AllReadyH.cons rfl (fun K hK => ?_) AllReadyH.nil
        go_simp
        try go_wp2_with fail
        refine hK.out _ _ (HKE.out _ (by repeat (first | assumption | exact Below.refl _ _ | apply bl_alloc | apply bl_drew))) (fun hHeld => ?_)
        clear hK K
        try simp only [Act.put, List.setIfInBounds_toArray, List.set_cons_zero, List.set_cons_succ]
        refine takeH (i := 7) (N := some 112) (v := ?_) rfl rfl (by kernel_rfl) (by kernel_rfl) (by kernel_rfl) (fun _ _ _ h => h) (Or.inl ⟨by rfl, ?_⟩) (by assumption) ?_
        rotate_left
        · intro w' hSw
          try dsimp only at hSw
          go_simp
          try with_reducible rfl
        try simp only [Act.put, List.setIfInBounds_toArray, List.set_cons_zero, List.set_cons_succ]
        refine takeH (i := 8) (N := some 113) (v := ?_) rfl rfl (by kernel_rfl) (by kernel_rfl) (by kernel_rfl) (fun _ _ _ h => h) (Or.inl ⟨by rfl, ?_⟩) (by assumption) ?_
        rotate_left
        · intro w' hSw
          try dsimp only at hSw
          go_simp
          try with_reducible rfl
        try simp only [Act.put, List.setIfInBounds_toArray, List.set_cons_zero, List.set_cons_succ]
        refine takeH (i := 9) (N := some 4) (v := ?_) rfl rfl (by kernel_rfl) (by kernel_rfl) (by kernel_rfl) (fun _ _ _ h => h) (Or.inl ⟨by rfl, ?_⟩) (by assumption) ?_
        rotate_left
        · intro w' hSw
          try dsimp only at hSw
          go_simp
          try with_reducible rfl
        try simp only [Act.put, List.setIfInBounds_toArray, List.set_cons_zero, List.set_cons_succ]
        refine wpAnyH_done (by kernel_rfl) ?_ _
        refine NoPanic.normal ?_
        have kk9 : wk.cell? ⟨ge, 9, none⟩ = some (.int .i64 pl) := (HE4.out.below gb1).cell 9
        all_goals (go_wp2_with fail)
        all_goals go_meet
        all_goals case rel => exact ⟨rfl, (by repeat (first | assumption | exact Below.refl _ _ | apply bl_alloc | apply bl_drew))⟩
      · obtain rfl : pl = 4 := by omega
        obtain rfl : kj = 4 := by have := HKj.out; omega
        obtain rfl := Option.some.inj (show some [101, 110, 114, 111, 108, 108] = some Wd from HWd.out)
        have hV := ln_54 kn dy ek ln am st fm o rt ic sb
        rw [HLf.out] at hV
        have hl := congrArg List.length hV
        simp only [List.length_append, List.length_cons, List.length_nil] at hl
        have hLl := HLl.out
        rw [HS1.out] at hV
        have hlS := congrArg List.length HS1.out
        simp only [List.length_append, List.length_cons, List.length_nil] at hlS
        obtain ⟨y1, hy1⟩ : ∃ z, ([32] : List UInt8) ++ [105, 110, 99, 111, 109, 101] = z := ⟨_, rfl⟩
        have hsy1 := add_eq hy1 (by (try simp only [List.length_cons, List.length_nil]); omega)
        have hly1 := congrArg List.length hy1
        simp only [List.length_append, List.length_cons, List.length_nil] at hly1
        rw [hy1] at hV
        obtain ⟨y2, hy2⟩ : ∃ z, S1 ++ y1 = z := ⟨_, rfl⟩
        have hsy2 := add_eq hy2 (by (try simp only [List.length_append, List.length_cons, List.length_nil]); omega)
        have hly2 := congrArg List.length hy2
        simp only [List.length_append] at hly2
        rw [hy2] at hV
        obtain ⟨y3, hy3⟩ : ∃ z, ([32] : List UInt8) ++ hexT (bitU ic) = z := ⟨_, rfl⟩
        have hsy3 := add_eq hy3 (by (try simp only [List.length_cons, List.length_nil]); omega)
        have hly3 := congrArg List.length hy3
        simp only [List.length_append, List.length_cons, List.length_nil] at hly3
        rw [hy3] at hV
        obtain ⟨y4, hy4⟩ : ∃ z, y3 ++ [32] = z := ⟨_, rfl⟩
        have hsy4 := add_eq hy4 (by (try simp only [List.length_cons, List.length_nil]); omega)
        have hly4 := congrArg List.length hy4
        simp only [List.length_append, List.length_cons, List.length_nil] at hly4
        rw [hy4] at hV
        obtain ⟨y5, hy5⟩ : ∃ z, y4 ++ itoa fm = z := ⟨_, rfl⟩
        have hsy5 := add_eq hy5 (by (try simp only [List.length_append, List.length_cons, List.length_nil]); omega)
        have hly5 := congrArg List.length hy5
        simp only [List.length_append] at hly5
        rw [hy5] at hV
        have hsL := add_eq hV.symm (by (try simp only [List.length_append, List.length_cons, List.length_nil]); omega)
        clear hV hl hLl hlS hy1 hly1 hy2 hly2 hy3 hly3 hy4 hly4 hy5 hly5
        go_upto_region 21 with fail
        have HKE : Hid (∀ W, Below w4.heap.size w4 W → W.cell? ⟨ge, 9, none⟩ = some (.int .i64 4)) := Lib.hid (fun W hW => (HE4.out.below hW).cell 9)
        refine wp_region_noPanic ?_
        refine wp_region_held_drew (S := fun w' => w'.cell? ⟨ge, 9, none⟩ = some (.int .i64 4)) (by kernel_rfl) ?_ (fun hHeld => ?_)
        · exact HKE.out _ (bl_drew (Below.refl _ _))
        refine takeH (i := 0) (N := some 105) (v := ?_) rfl rfl (by kernel_rfl) (by kernel_rfl) (by kernel_rfl) (fun _ _ _ h => h) (Or.inl ⟨by rfl, ?_⟩) (by assumption) ?_
        rotate_left
        · intro w' hSw
          try dsimp only at hSw
          go_simp
          try with_reducible rfl
        try simp only [Act.put, List.setIfInBounds_toArray, List.set_cons_zero, List.set_cons_succ]
        refine takeH (i := 2) (N := some 107) (v := ?_) rfl rfl (by kernel_rfl) (by kernel_rfl) (by kernel_rfl) (fun _ _ _ h => h) (Or.inl ⟨by rfl, ?_⟩) (by assumption) ?_
        rotate_left
        · intro w' hSw
          try dsimp only at hSw
          go_simp
          try with_reducible rfl
        try simp only [Act.put, List.setIfInBounds_toArray, List.set_cons_zero, List.set_cons_succ]
        refine takeH (i := 3) (N := some 108) (v := ?_) rfl rfl (by kernel_rfl) (by kernel_rfl) (by kernel_rfl) (fun _ _ _ h => h) (Or.inl ⟨by rfl, ?_⟩) (by assumption) ?_
        rotate_left
        · intro w' hSw
          try dsimp only at hSw
          go_simp
          try with_reducible rfl
        try simp only [Act.put, List.setIfInBounds_toArray, List.set_cons_zero, List.set_cons_succ]
        refine takeH (i := 4) (N := some 109) (v := ?_) rfl rfl (by kernel_rfl) (by kernel_rfl) (by kernel_rfl) (fun _ _ _ h => h) (Or.inl ⟨by rfl, ?_⟩) (by assumption) ?_
        rotate_left
        · intro w' hSw
          try dsimp only at hSw
          go_simp
          try with_reducible rfl
        try simp only [Act.put, List.setIfInBounds_toArray, List.set_cons_zero, List.set_cons_succ]
        refine wpAnyH_ready (rs := [1]) (by kernel_rfl) (by simp) ?_
        refine AllReadyH.cons rfl (fun K hK => ?_) AllReadyH.nil
        go_simp
        go_at_call 34
        refine (plans_at _).mono ?_
        rintro r wk ⟨⟨gk, rfl, hk⟩, hb⟩
        have ck : wk.cell? ⟨gk, 3, none⟩ = some (.string (str [105, 110, 99, 111, 109, 101])) := hk 3 _ rfl
        have gb1 : Below w4.heap.size w4 wk := bl_call (by repeat (first | assumption | exact Below.refl _ _ | apply bl_alloc | apply bl_drew)) hb
        clear hk hb
        try go_wp2_with fail
        refine hK.out _ _ (HKE.out _ (by repeat (first | assumption | exact Below.refl _ _ | apply bl_alloc | apply bl_drew))) (fun hHeld => ?_)
        clear hK K
        try simp only [Act.put, List.setIfInBounds_toArray, List.set_cons_zero, List.set_cons_succ]
        refine wpAnyH_ready (rs := [5]) (by kernel_rfl) (by simp) ?_
        refine AllReadyH.cons rfl (fun K hK => ?_) AllReadyH.nil
        go_simp
        try go_wp2_with fail
        refine hK.out _ _ (HKE.out _ (by repeat (first | assumption | exact Below.refl _ _ | apply bl_alloc | apply bl_drew))) (fun hHeld => ?_)
        clear hK K
        try simp only [Act.put, List.setIfInBounds_toArray, List.set_cons_zero, List.set_cons_succ]
        refine wpAnyH_ready (rs := [6]) (by kernel_rfl) (by simp) ?_
        refine AllReadyH.cons rfl (fun K hK => ?_) AllReadyH.nil
        go_simp
        try go_wp2_with fail
        refine hK.out _ _ (HKE.out _ (by repeat (first | assumption | exact Below.refl _ _ | apply bl_alloc | apply bl_drew))) (fun hHeld => ?_)
        clear hK K
        try simp only [Act.put, List.setIfInBounds_toArray, List.set_cons_zero, List.set_cons_succ]
        refine takeH (i := 7) (N := some 112) (v := ?_) rfl rfl (by kernel_rfl) (by kernel_rfl) (by kernel_rfl) (fun _ _ _ h => h) (Or.inl ⟨by rfl, ?_⟩) (by assumption) ?_
        rotate_left
        · intro w' hSw
          try dsimp only at hSw
          go_simp
          try with_reducible rfl
        try simp only [Act.put, List.setIfInBounds_toArray, List.set_cons_zero, List.set_cons_succ]
        refine takeH (i := 8) (N := some 113) (v := ?_) rfl rfl (by kernel_rfl) (by kernel_rfl) (by kernel_rfl) (fun _ _ _ h => h) (Or.inl ⟨by rfl, ?_⟩) (by assumption) ?_
        rotate_left
        · intro w' hSw
          try dsimp only at hSw
          go_simp
          try with_reducible rfl
        try simp only [Act.put, List.setIfInBounds_toArray, List.set_cons_zero, List.set_cons_succ]
        refine takeH (i := 9) (N := some 4) (v := ?_) rfl rfl (by kernel_rfl) (by kernel_rfl) (by kernel_rfl) (fun _ _ _ h => h) (Or.inl ⟨by rfl, ?_⟩) (by assumption) ?_
        rotate_left
        · intro w' hSw
          try dsimp only at hSw
          go_simp
          try with_reducible rfl
        try simp only [Act.put, List.setIfInBounds_toArray, List.set_cons_zero, List.set_cons_succ]
        refine wpAnyH_done (by kernel_rfl) ?_ _
        refine NoPanic.normal ?_
        have kk9 : wk.cell? ⟨ge, 9, none⟩ = some (.int .i64 4) := (HE4.out.below gb1).cell 9
        clear HKE
        have HE5 := Lib.hid (HE4.out.below gb1)
        go_upto_region 23 with fail
        clear kk9
        have HKE : Hid (∀ W, Below wk.heap.size wk W → W.cell? ⟨ge, 6, none⟩ = some (.float .f64 ic) ∧ W.cell? ⟨ge, 10, none⟩ = some (.int .i64 fm)) := Lib.hid (fun W hW => ⟨(HE5.out.below hW).cell 6, (HE5.out.below hW).cell 10⟩)
        go_region_held3 (fun w' => w'.cell? ⟨ge, 6, none⟩ = some (.float .f64 ic) ∧ w'.cell? ⟨ge, 10, none⟩ = some (.int .i64 fm)) (exact HKE.out _ (by repeat (first | assumption | exact Below.refl _ _ | apply bl_alloc | apply bl_drew)))
          (first
            | (go_at_call 29; refine (rdec_calls _ (by assumption) (by assumption) _).mono ?_; rintro r wd ⟨rfl, hwd⟩; rw [hwd]; clear hwd)
            | (go_at_call 32; refine (rhex_calls _ hic _).mono ?_; rintro r wh ⟨rfl, hbh⟩; have gb2 : Below wk.heap.size wk wh := bl_call (by repeat (first | assumption | exact Below.refl _ _ | apply bl_alloc | apply bl_drew)) hbh; clear hbh))
        all_goals (go_wp2_with fail)
        all_goals go_meet
        all_goals case rel => exact ⟨rfl, gb1.trans (((by repeat (first | assumption | exact Below.refl _ _ | apply bl_alloc | apply bl_drew)) : Below wk.heap.size wk _).mono gb1.size)⟩
  case rest =>
  obtain ⟨rfl, hb⟩ := hcut
  have HC5 := Lib.hid (HC4.out.below hb)
  have HB5 := Lib.hid (HB4.out.trans (hb.mono HB4.out.size))
  clear hb
  generalize wc = w5 at *
  go_wp2_with fail
  refine (HPa.out _).mono ?_
  rintro r wp ⟨rfl, hb⟩
  have HCp := Lib.hid (HC5.out.below hb)
  have HBp := Lib.hid (HB5.out.trans (hb.mono HB5.out.size))
  clear hb
  go_upto_region 28 with fail
  have hal := (Below.refl wp.heap.size wp).alloc (Nat.le_refl _) (.cells #[.bool false, .int .u32 (kn : Int), .int .i64 kd, .int .i64 dy, .int .u32 ek, .int .i64 ln, .int .i64 am, .float .f64 rt, .float .f64 ic, .bool sb, .int .i64 st, .int .i64 pl, .int .i64 fm, .int .u32 o] 27)
  have HCq := Lib.hid (HCp.out.below hal)
  have HDq : Hid (Blk (wp.alloc (.cells #[.bool false, .int .u32 (kn : Int), .int .i64 kd, .int .i64 dy, .int .u32 ek, .int .i64 ln, .int .i64 am, .float .f64 rt, .float .f64 ic, .bool sb, .int .i64 st, .int .i64 pl, .int .i64 fm, .int .u32 o] 27)) wp.heap.size 27 (⟨false, (kn : Int), ⟨kd, dy, ek, ln, am, rt, ic, sb, st, pl, fm⟩, o⟩ : C).cells) := Lib.hid (Blk.new wp 27 #[.bool false, .int .u32 (kn : Int), .int .i64 kd, .int .i64 dy, .int .u32 ek, .int .i64 ln, .int .i64 am, .float .f64 rt, .float .f64 ic, .bool sb, .int .i64 st, .int .i64 pl, .int .i64 fm, .int .u32 o])
  have HBq := Lib.hid (HBp.out.trans (hal.mono HBp.out.size))
  clear hal
  generalize wp.alloc (.cells #[.bool false, .int .u32 (kn : Int), .int .i64 kd, .int .i64 dy, .int .u32 ek, .int .i64 ln, .int .i64 am, .float .f64 rt, .float .f64 ic, .bool sb, .int .i64 st, .int .i64 pl, .int .i64 fm, .int .u32 o] 27) = wq at *
  obtain ⟨gq, hgq⟩ : ∃ g, wp.heap.size = g := ⟨_, rfl⟩
  rw [hgq] at HDq ⊢
  obtain ⟨k0, k1, k2, k3, k4, k5, k6, k7, k8, k9, k10, k11, k12, k13⟩ := cm_cells HCq.out
  obtain ⟨m0, m1, m2, m3, m4, m5, m6, m7, m8, m9, m10, m11, m12, m13⟩ := cm_cells HDq.out
  go_wp2_with fail
  refine (HKc.out wq).mono ?_
  rintro r wr ⟨rfl, hb⟩
  have HBr := Lib.hid (HBq.out.trans (hb.mono HBq.out.size))
  clear hb k0 k1 k2 k3 k4 k5 k6 k7 k8 k9 k10 k11 k12 k13 m0 m1 m2 m3 m4 m5 m6 m7 m8 m9 m10 m11 m12 m13
  go_wp2_with fail
  go_ret2
  exact ⟨rfl, HBr.out⟩
set_option maxRecDepth 40000 in
set_option maxHeartbeats 16000000 in
theorem rline_no (c : C) (hf : FitC c) (w : World) (hy : fineC c = false) :
    Calls Tryz.prog 13 #[c.v] w fun e w' => e = .returned (linV c) ∧ Below w.heap.size w w' := by
  rw [← linV_no hy]
  have hFi := fun W => Ev.rfine_calls c W hf.rate hf.income
  rw [hy] at hFi
  clear hy hf
  obtain ⟨u, k, ⟨kd, dy, ek, ln, am, rt, ic, sb, st, pl, fm⟩, o⟩ := c
  have HFi : Hid (∀ W, Calls Tryz.prog 28 #[.agg #[.bool u, .int .u32 k, .int .i64 kd, .int .i64 dy, .int .u32 ek, .int .i64 ln, .int .i64 am, .float .f64 rt, .float .f64 ic, .bool sb, .int .i64 st, .int .i64 pl, .int .i64 fm, .int .u32 o]] W fun r w' => r = .returned (.bool false) ∧ Below W.heap.size W w') := Lib.hid hFi
  clear hFi
  have hst0 := st_f64
  have hal := (Below.refl w.heap.size w).alloc (Nat.le_refl _) (.cells #[.bool u, .int .u32 k, .int .i64 kd, .int .i64 dy, .int .u32 ek, .int .i64 ln, .int .i64 am, .float .f64 rt, .float .f64 ic, .bool sb, .int .i64 st, .int .i64 pl, .int .i64 fm, .int .u32 o] 27)
  have HC0 := Lib.hid (Blk.new w 27 #[.bool u, .int .u32 k, .int .i64 kd, .int .i64 dy, .int .u32 ek, .int .i64 ln, .int .i64 am, .float .f64 rt, .float .f64 ic, .bool sb, .int .i64 st, .int .i64 pl, .int .i64 fm, .int .u32 o])
  have HB0 := Lib.hid hal
  clear hal
  go_enter Tryz.func13, Tryz.ntmps13
  go_upto_region 1 with fail
  generalize w.alloc (.cells #[.bool u, .int .u32 k, .int .i64 kd, .int .i64 dy, .int .u32 ek, .int .i64 ln, .int .i64 am, .float .f64 rt, .float .f64 ic, .bool sb, .int .i64 st, .int .i64 pl, .int .i64 fm, .int .u32 o] 27) = w0 at *
  obtain ⟨gc, hgc⟩ : ∃ g, w.heap.size = g := ⟨_, rfl⟩
  rw [hgc] at HC0 ⊢
  obtain ⟨k0, k1, k2, k3, k4, k5, k6, k7, k8, k9, k10, k11, k12, k13⟩ := cm_cells HC0.out
  go_wp2_with fail
  refine (HFi.out w0).mono ?_
  rintro r w1 ⟨rfl, hb⟩
  have HB1 := Lib.hid (HB0.out.trans (hb.mono HB0.out.size))
  clear hb k0 k1 k2 k3 k4 k5 k6 k7 k8 k9 k10 k11 k12 k13
  go_wp2_with fail
  go_ret2
  exact ⟨rfl, HB1.out⟩
set_option maxRecDepth 40000 in
set_option maxHeartbeats 16000000 in
theorem rline_undo (kn on : Nat) (kd dy ek ln am st pl fm : Int) (rt ic : Nat) (sb : Bool) (hf : FitC ⟨true, (kn : Int), ⟨kd, dy, ek, ln, am, rt, ic, sb, st, pl, fm⟩, (on : Int)⟩) (w : World) (hy : fineC ⟨true, (kn : Int), ⟨kd, dy, ek, ln, am, rt, ic, sb, st, pl, fm⟩, (on : Int)⟩ = true) :
    Calls Tryz.prog 13 #[.agg #[.bool true, .int .u32 (kn : Int), .int .i64 kd, .int .i64 dy, .int .u32 ek, .int .i64 ln, .int .i64 am, .float .f64 rt, .float .f64 ic, .bool sb, .int .i64 st, .int .i64 pl, .int .i64 fm, .int .u32 (on : Int)]] w fun e w' => e = .returned (linV ⟨true, (kn : Int), ⟨kd, dy, ek, ln, am, rt, ic, sb, st, pl, fm⟩, (on : Int)⟩) ∧ Below w.heap.size w w' := by
  have hFi := fun W => Ev.rfine_calls ⟨true, (kn : Int), ⟨kd, dy, ek, ln, am, rt, ic, sb, st, pl, fm⟩, (on : Int)⟩ W hf.rate hf.income
  rw [hy] at hFi
  have hk1 : (kn : Int) < 4294967296 := hf.key.2
  have ho1 : (on : Int) < 4294967296 := hf.of.2
  have hV : lnC ⟨true, (kn : Int), ⟨kd, dy, ek, ln, am, rt, ic, sb, st, pl, fm⟩, (on : Int)⟩ = (decDigits kn ++ [32, 117, 110, 100, 111, 32]) ++ decDigits on := rfl
  rw [← linV_yes hy hV]
  have hwr1 : wrap64 (kn : Int) = (kn : Int) := by unfold wrap64; omega
  have hwr2 : wrap64 (on : Int) = (on : Int) := by unfold wrap64; omega
  have HKd : Hid (∀ W, Calls Tryz.prog 29 #[.int .i64 (kn : Int)] W fun r w' => r = .returned (.string (str (decDigits kn))) ∧ w' = W) := Lib.hid (fun W => by
    have := rdec_calls (kn : Int) (by omega) (by omega) W
    rw [itoa_nonneg] at this
    exact this)
  have HOd : Hid (∀ W, Calls Tryz.prog 29 #[.int .i64 (on : Int)] W fun r w' => r = .returned (.string (str (decDigits on))) ∧ w' = W) := Lib.hid (fun W => by
    have := rdec_calls (on : Int) (by omega) (by omega) W
    rw [itoa_nonneg] at this
    exact this)
  have hl1 := (dig_len kn (by omega)).2
  have hl2 := (dig_len on (by omega)).2
  have hadd1 := fun W => Vw.add_run (decDigits kn) [32, 117, 110, 100, 111, 32] (by simp; omega) W
  have hadd2 := fun W => Vw.add_run (decDigits kn ++ [32, 117, 110, 100, 111, 32]) (decDigits on) (by simp; omega) W
  obtain ⟨X1, hX1⟩ : ∃ x, decDigits kn ++ [32, 117, 110, 100, 111, 32] = x := ⟨_, rfl⟩
  rw [hX1] at hadd1 hadd2 ⊢
  have HFi : Hid (∀ W, Calls Tryz.prog 28 #[.agg #[.bool true, .int .u32 (kn : Int), .int .i64 kd, .int .i64 dy, .int .u32 ek, .int .i64 ln, .int .i64 am, .float .f64 rt, .float .f64 ic, .bool sb, .int .i64 st, .int .i64 pl, .int .i64 fm, .int .u32 (on : Int)]] W fun r w' => r = .returned (.bool true) ∧ Below W.heap.size W w') := Lib.hid hFi
  clear hFi hy hf hV hk1 ho1 hl1 hl2 hX1
  have hst0 := st_f64
  have hal := (Below.refl w.heap.size w).alloc (Nat.le_refl _) (.cells #[.bool true, .int .u32 (kn : Int), .int .i64 kd, .int .i64 dy, .int .u32 ek, .int .i64 ln, .int .i64 am, .float .f64 rt, .float .f64 ic, .bool sb, .int .i64 st, .int .i64 pl, .int .i64 fm, .int .u32 (on : Int)] 27)
  have HC0 := Lib.hid (Blk.new w 27 #[.bool true, .int .u32 (kn : Int), .int .i64 kd, .int .i64 dy, .int .u32 ek, .int .i64 ln, .int .i64 am, .float .f64 rt, .float .f64 ic, .bool sb, .int .i64 st, .int .i64 pl, .int .i64 fm, .int .u32 (on : Int)])
  have HB0 := Lib.hid hal
  clear hal
  go_enter Tryz.func13, Tryz.ntmps13
  go_upto_region 1 with fail
  generalize w.alloc (.cells #[.bool true, .int .u32 (kn : Int), .int .i64 kd, .int .i64 dy, .int .u32 ek, .int .i64 ln, .int .i64 am, .float .f64 rt, .float .f64 ic, .bool sb, .int .i64 st, .int .i64 pl, .int .i64 fm, .int .u32 (on : Int)] 27) = w0 at *
  obtain ⟨gc, hgc⟩ : ∃ g, w.heap.size = g := ⟨_, rfl⟩
  rw [hgc] at HC0 ⊢
  obtain ⟨k0, k1, k2, k3, k4, k5, k6, k7, k8, k9, k10, k11, k12, k13⟩ := cm_cells HC0.out
  go_wp2_with fail
  refine (HFi.out w0).mono ?_
  rintro r w1 ⟨rfl, hb⟩
  have HB1 := Lib.hid (HB0.out.trans (hb.mono HB0.out.size))
  have HC1 := Lib.hid (HC0.out.below hb)
  clear hb k0 k1 k2 k3 k4 k5 k6 k7 k8 k9 k10 k11 k12 k13
  have k0 : w1.cell? ⟨gc, 0, none⟩ = some (.bool true) := HC1.out.cell 0
  have k1 : w1.cell? ⟨gc, 1, none⟩ = some (.int .u32 (kn : Int)) := HC1.out.cell 1
  have k13 : w1.cell? ⟨gc, 13, none⟩ = some (.int .u32 (on : Int)) := HC1.out.cell 13
  go_wp2_with fail
  refine (HKd.out w1).mono ?_
  rintro r w2 ⟨rfl, hw2⟩
  rw [hw2]
  clear hw2
  go_wp2_with fail
  refine (HOd.out w1).mono ?_
  rintro r w2 ⟨rfl, hw2⟩
  rw [hw2]
  clear hw2
  go_wp2_with fail
  go_ret2
  exact ⟨rfl, HB1.out⟩
/-- The reference's Line of any command. -/
theorem rline_calls (c : C) (hf : FitC c) (w : World) : Calls Tryz.prog 13 #[c.v] w fun e w' => e = .returned (linV c) ∧ Below w.heap.size w w' := by
  cases hy : fineC c with
  | false => exact rline_no c hf w hy
  | true =>
    obtain ⟨u, k, ⟨kd, dy, ek, ln, am, rt, ic, sb, st, pl, fm⟩, o⟩ := c
    obtain ⟨kn, rfl⟩ : ∃ n : Nat, k = n := ⟨k.toNat, by have h : 0 ≤ k := hf.key.1; omega⟩
    cases u with
    | true =>
      obtain ⟨on, rfl⟩ : ∃ n : Nat, o = n := ⟨o.toNat, by have h : 0 ≤ o := hf.of.1; omega⟩
      exact rline_undo kn on kd dy ek ln am st pl fm rt ic sb hf w hy
    | false =>
      exact rline_ev kn kd dy ek ln am st pl fm o rt ic sb hf w hy
end Go.Proofs.YtkcjgmicoifhcaaGreatDoor.Cn
