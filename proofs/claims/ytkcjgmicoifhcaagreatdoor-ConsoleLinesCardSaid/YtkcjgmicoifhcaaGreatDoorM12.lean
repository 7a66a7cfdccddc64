/- Texts joined: C15 P6. -/
import Derived.Test.YtkcjgmicoifhcaaGreatDoorM10
import Derived.Test.YtkcjgmicoifhcaaGreatDoorM11

/- C15: console.Parse. (Printed by gen_c15.py.) -/
namespace Go.Proofs.YtkcjgmicoifhcaaGreatDoor.Cn
open Go.RowKit Go.Sort Go.Lib Go.Shelf
open Vw (Tab str Blk)
open Ev (E C fineC)
attribute [local go_sem ↓] Go.wp_at_zero Go.wp_at_succ

abbrev zC : C := ⟨false, 0, ⟨0, 0, 0, 0, 0, 0, 0, false, 0, 0, 0⟩, 0⟩
/-- What Parse answers. -/
noncomputable def parV (L : List (List UInt8)) : Value := .tuple #[(if parB L then (parC L).1 else zC).v, .int .i64 (if parB L then 0 else 320)]
theorem parV_no {L : List (List UInt8)} (h : parB L = false) : Ending.returned (.tuple #[zC.v, .int .i64 320]) = .returned (parV L) := by unfold parV; rw [h]; rfl
theorem parV_yes (L : List (List UInt8)) (c : C) (hc : c = (parC L).1) (h : parB L = true) : (.tuple #[c.v, .int .i64 0] : Value) = parV L := by subst hc; unfold parV; rw [h]; rfl
theorem cut_short (l : List UInt8) (hl : l.length ≤ 900000) : Short (cutC 32 l) := ⟨by have := (cutC_len 32 l).2; omega, fun x hx => by have := cutC_le 32 l x hx; omega⟩
set_option maxRecDepth 40000 in
set_option maxHeartbeats 32000000 in
theorem parse_calls (l : List UInt8) (hl : l.length ≤ 900000) (w : World) (hg : Gl w) (hT : w.cell? ⟨5, 15, none⟩ = some (.int .u8 4)) :
    Calls Tryz.prog 10 #[.string (str l)] w fun e w' => e = .returned (parV (cutC 32 l)) ∧ Below w.heap.size w w' := by
  have hal := (Below.refl w.heap.size w).alloc (Nat.le_refl _) (.cells #[.bool false, .int .u32 0, .int .i64 0, .int .i64 0, .int .u32 0, .int .i64 0, .int .i64 0, .float .f64 0, .float .f64 0, .bool false, .int .i64 0, .int .i64 0, .int .i64 0, .int .u32 0] 27)
  have HZ0 : Hid (Blk (w.alloc (.cells #[.bool false, .int .u32 0, .int .i64 0, .int .i64 0, .int .u32 0, .int .i64 0, .int .i64 0, .float .f64 0, .float .f64 0, .bool false, .int .i64 0, .int .i64 0, .int .i64 0, .int .u32 0] 27)) w.heap.size 27 zC.cells) := Lib.hid (Blk.new w 27 zC.cells)
  have HCu := Lib.hid (cut_calls l (by omega) (w.alloc (.cells #[.bool false, .int .u32 0, .int .i64 0, .int .i64 0, .int .u32 0, .int .i64 0, .int .i64 0, .float .f64 0, .float .f64 0, .bool false, .int .i64 0, .int .i64 0, .int .i64 0, .int .u32 0] 27)))
  have HF0 := Lib.hid hal
  have HGb := Lib.hid (GlB.of hg)
  have HTb := Lib.hid (fun W (hB : Below w.heap.size w W) => cell_below hT hB)
  have HSh := Lib.hid (cut_short l hl)
  have HLt := Lib.hid (parC_lt (cutC 32 l))
  have hst0 : ∀ (a : Addr) (n : Nat) (W : World), (store a (.float .f64 n)).run Tryz.prog W = match W.cell? a with
      | some _ => if W.frozen? a then .halt (.unsupported (.unsafePointer "a write to bytes that a string shares")) W else .ok () (W.setCell a (.float .f64 n))
      | none => match World.farStore Tryz.prog W a (.float .f64 n) (Mode.plain == Mode.atomic) with | .ok (w', _) => .ok () w' | .error h => .halt h W := fun _ _ _ => rfl
  clear hal hg hT
  go_enter Tryz.func10, Tryz.ntmps10
  go_upto_region 1 with fail
  generalize w.alloc (.cells #[.bool false, .int .u32 0, .int .i64 0, .int .i64 0, .int .u32 0, .int .i64 0, .int .i64 0, .float .f64 0, .float .f64 0, .bool false, .int .i64 0, .int .i64 0, .int .i64 0, .int .u32 0] 27) = w0 at *
  obtain ⟨g0, hg0⟩ : ∃ g0, w.heap.size = g0 := ⟨_, rfl⟩
  have HG0 : Hid (g0 = w.heap.size) := Lib.hid hg0.symm
  rw [hg0] at HZ0
  rw [hg0]
  clear hg0
  go_wp2_with fail
  refine HCu.out.mono ?_
  rintro r w1 ⟨⟨p, c, rfl, hws⟩, hb1⟩
  have HZ1 := Lib.hid (HZ0.out.below hb1)
  have HF1 := Lib.hid (HF0.out.trans (hb1.mono HF0.out.size))
  have HW1 := Lib.hid hws
  clear hb1 hws
  go_upto_region 2 with fail
  obtain ⟨L, hLd⟩ : ∃ L, cutC 32 l = L := ⟨_, rfl⟩
  have HLd := Lib.hid hLd
  rw [hLd] at HW1 HSh
  rw [hLd]
  clear hLd
  have hal2 := (Below.refl w1.heap.size w1).alloc (Nat.le_refl _) (.cells #[.slice p L.length c, .bool true] 59)
  have HR2 : Hid (Rd (w1.alloc (.cells #[.slice p L.length c, .bool true] 59)) w1.heap.size L true) := Lib.hid ⟨p, c, Blk.new w1 59 _, HW1.out.fr (P := fun _ => False) (Fr.of hal2) (fun k hk => hk.elim)⟩
  have HZ2 := Lib.hid (HZ1.out.below hal2)
  have HF2 := Lib.hid (HF1.out.trans (hal2.mono HF1.out.size))
  have HGz : Hid (g0 < w1.heap.size) := Lib.hid HZ1.out.lt
  clear hal2
  generalize w1.alloc (.cells #[.slice p L.length c, .bool true] 59) = w2 at *
  obtain ⟨g, hgg⟩ : ∃ g, w1.heap.size = g := ⟨_, rfl⟩
  rw [hgg] at HR2 HGz
  rw [hgg]
  clear hgg
  have HWg : Hid (w.heap.size ≤ g) := Lib.hid (by rw [← HG0.out]; exact Nat.le_of_lt HGz.out)
  have HKy := Lib.hid (key_calls w.heap.size g L true HSh.out w2 HR2.out (HGb.out.step HF2.out) HWg.out)
  go_wp2_with fail
  refine HKy.out.mono ?_
  rintro r w3 ⟨rfl, hR3, hF3⟩
  have HR3 := Lib.hid hR3
  have HZ3 := Lib.hid (hF3.blk HZ2.out (by have := HGz.out; omega))
  have HF3 := Lib.hid (HF2.out.trans (hF3.below (B := w.heap.size) HF2.out.size (fun k hk => by rw [hk]; exact HWg.out)))
  clear hR3 hF3
  go_upto_region 3 with fail
  obtain ⟨K, hK⟩ : ∃ K, keyV (hd L) = K := ⟨_, rfl⟩
  have HK := Lib.hid hK
  rw [hK]
  clear hK
  have hal4 := (Below.refl w3.heap.size w3).alloc (Nat.le_refl _) (.cells (⟨false, K, ⟨0, 0, 0, 0, 0, 0, 0, false, 0, 0, 0⟩, 0⟩ : C).cells 27)
  have HC4 := Lib.hid (Blk.new w3 27 (⟨false, K, ⟨0, 0, 0, 0, 0, 0, 0, false, 0, 0, 0⟩, 0⟩ : C).cells)
  have HR4 := Lib.hid (HR3.out.below hal4)
  have HZ4 := Lib.hid (HZ3.out.below hal4)
  have HF4 := Lib.hid (HF3.out.trans (hal4.mono HF3.out.size))
  have HGc : Hid (g < w3.heap.size) := Lib.hid HR3.out.lt
  clear hal4
  change Code.wp _ _ _ _ (w3.alloc (.cells (⟨false, K, ⟨0, 0, 0, 0, 0, 0, 0, false, 0, 0, 0⟩, 0⟩ : C).cells 27))
  generalize w3.alloc (.cells (⟨false, K, ⟨0, 0, 0, 0, 0, 0, 0, false, 0, 0, 0⟩, 0⟩ : C).cells 27) = w4 at *
  obtain ⟨gc, hgc⟩ : ∃ gc, w3.heap.size = gc := ⟨_, rfl⟩
  rw [hgc] at HC4 HGc
  rw [hgc]
  clear hgc
  obtain ⟨KB, hKB⟩ : ∃ KB, keyB (hd L) = KB := ⟨_, rfl⟩
  have HKB := Lib.hid hKB
  rw [hKB, Bool.true_and] at HR4
  clear hKB
  obtain ⟨R, hR⟩ : ∃ R, L.tail = R := ⟨_, rfl⟩
  have HRt := Lib.hid hR
  have HShR : Hid (Short R) := Lib.hid (by rw [← hR]; exact HSh.out.tail)
  rw [hR] at HR4
  clear hR
  have hbk := HR4.out
  obtain ⟨p4, c4, hb4, hw4⟩ := hbk.lies
  have d0 : w4.cell? ⟨g, 0, none⟩ = some (.slice p4 R.length c4) := hb4.cell 0
  cases R with
  | nil =>
    have HU : Hid (¬ hd L.tail = [117, 110, 100, 111]) := Lib.hid (by rw [HRt.out]; decide)
    clear hb4 hbk hw4
    rw [List.length_nil] at d0
    go_upto_region 6 with fail
    have HEv := Lib.hid (event_calls w.heap.size g [] KB K HShR.out w4 HR4.out (HGb.out.step HF4.out) (fun W hB => HTb.out W (HF4.out.trans hB)) HWg.out)
    have k1 : w4.cell? ⟨gc, 1, none⟩ = some (.int .u32 K) := HC4.out.cell 1
    clear d0
    go_wp2_with fail
    refine HEv.out.mono ?_
    rintro e2 w6 ⟨ev, rfl, hR6, hF6, hev⟩
    have HR6 := Lib.hid hR6
    have HC6 := Lib.hid (hF6.blk HC4.out (by have := HGc.out; omega))
    have HZ6 := Lib.hid (hF6.blk HZ4.out (by have := HGz.out; omega))
    have HF6 := Lib.hid (HF4.out.trans (hF6.below (B := w.heap.size) HF4.out.size (fun k hk => by rw [hk]; exact HWg.out)))
    have HEe := Lib.hid hev
    clear hR6 hF6 hev k1
    have u0 : w6.cell? ⟨gc, 2, none⟩ = some (.int .i64 0) := HC6.out.cell 2
    have v0 := HC6.out.frozen 2
    have u1 : w6.cell? ⟨gc, 3, none⟩ = some (.int .i64 0) := HC6.out.cell 3
    have v1 := HC6.out.frozen 3
    have u2 : w6.cell? ⟨gc, 4, none⟩ = some (.int .u32 0) := HC6.out.cell 4
    have v2 := HC6.out.frozen 4
    have u3 : w6.cell? ⟨gc, 5, none⟩ = some (.int .i64 0) := HC6.out.cell 5
    have v3 := HC6.out.frozen 5
    have u4 : w6.cell? ⟨gc, 6, none⟩ = some (.int .i64 0) := HC6.out.cell 6
    have v4 := HC6.out.frozen 6
    have u5 : w6.cell? ⟨gc, 7, none⟩ = some (.float .f64 0) := HC6.out.cell 7
    have v5 := HC6.out.frozen 7
    have u6 : w6.cell? ⟨gc, 8, none⟩ = some (.float .f64 0) := HC6.out.cell 8
    have v6 := HC6.out.frozen 8
    have u7 : w6.cell? ⟨gc, 9, none⟩ = some (.bool false) := HC6.out.cell 9
    have v7 := HC6.out.frozen 9
    have u8 : w6.cell? ⟨gc, 10, none⟩ = some (.int .i64 0) := HC6.out.cell 10
    have v8 := HC6.out.frozen 10
    have u9 : w6.cell? ⟨gc, 11, none⟩ = some (.int .i64 0) := HC6.out.cell 11
    have v9 := HC6.out.frozen 11
    have u10 : w6.cell? ⟨gc, 12, none⟩ = some (.int .i64 0) := HC6.out.cell 12
    have v10 := HC6.out.frozen 12
    have hst := hst0
    go_upto_region 7 with fail
    have hfr := set_in_fr (w := w6) (g := gc) (P := fun k => k = gc) ev rfl
    have HC7 := Lib.hid (set_in ev HC6.out)
    have HR7 := Lib.hid (HR6.out.fr hfr (fun k hk => by have := HGc.out; omega))
    have HZ7 := Lib.hid (hfr.blk HZ6.out (by have := HGz.out; have := HGc.out; omega))
    have HF7 := Lib.hid (HF6.out.trans (hfr.below (B := w.heap.size) HF6.out.size (fun k hk => by have := HWg.out; have := HGc.out; omega)))
    clear hfr u0 v0 u1 v1 u2 v2 u3 v3 u4 v4 u5 v5 u6 v6 u7 v7 u8 v8 u9 v9 u10 v10
    change Code.wp _ _ _ _ (((((((((((w6.setCell ⟨gc, 2, none⟩ (.int .i64 ev.kind)).setCell ⟨gc, 3, none⟩ (.int .i64 ev.day)).setCell ⟨gc, 4, none⟩ (.int .u32 ev.key)).setCell ⟨gc, 5, none⟩ (.int .i64 ev.loan)).setCell ⟨gc, 6, none⟩ (.int .i64 ev.amount)).setCell ⟨gc, 7, none⟩ (.float .f64 ev.rate)).setCell ⟨gc, 8, none⟩ (.float .f64 ev.income)).setCell ⟨gc, 9, none⟩ (.bool ev.sub)).setCell ⟨gc, 10, none⟩ (.int .i64 ev.status)).setCell ⟨gc, 11, none⟩ (.int .i64 ev.plan)).setCell ⟨gc, 12, none⟩ (.int .i64 ev.family))
    generalize (((((((((((w6.setCell ⟨gc, 2, none⟩ (.int .i64 ev.kind)).setCell ⟨gc, 3, none⟩ (.int .i64 ev.day)).setCell ⟨gc, 4, none⟩ (.int .u32 ev.key)).setCell ⟨gc, 5, none⟩ (.int .i64 ev.loan)).setCell ⟨gc, 6, none⟩ (.int .i64 ev.amount)).setCell ⟨gc, 7, none⟩ (.float .f64 ev.rate)).setCell ⟨gc, 8, none⟩ (.float .f64 ev.income)).setCell ⟨gc, 9, none⟩ (.bool ev.sub)).setCell ⟨gc, 10, none⟩ (.int .i64 ev.status)).setCell ⟨gc, 11, none⟩ (.int .i64 ev.plan)).setCell ⟨gc, 12, none⟩ (.int .i64 ev.family)) = w7 at *
    obtain ⟨cc, hcc⟩ : ∃ cc : C, cc = ⟨false, K, ev, 0⟩ := ⟨_, rfl⟩
    have HC7' : Hid (Blk w7 gc 27 cc.cells) := Lib.hid (by rw [hcc]; exact HC7.out)
    have HC7 := HC7'
    obtain ⟨V, hV⟩ : ∃ V, evR K [] KB = V := ⟨_, rfl⟩
    rw [hV] at HR7 HEe
    have HPr : Hid (parC (cutC 32 l) = (⟨false, K, V.1, 0⟩, V.2.1, V.2.2)) := Lib.hid (by rw [HLd.out]; unfold parC; rw [if_neg HU.out, HRt.out, HK.out, HKB.out, hV])
    obtain ⟨R7, h7⟩ : ∃ R7, V.2.1 = R7 := ⟨_, rfl⟩
    obtain ⟨ok7, o7⟩ : ∃ ok7, V.2.2 = ok7 := ⟨_, rfl⟩
    have HB1 : Hid (parB (cutC 32 l) = (ok7 && (R7.isEmpty && fineC (parC (cutC 32 l)).1))) := Lib.hid (by unfold parB; rw [HPr.out, ← h7, ← o7])
    have HPC : Hid (ok7 = true → cc = (parC (cutC 32 l)).1) := Lib.hid (fun h => by rw [HPr.out, hcc, HEe.out (by rw [o7]; exact h)])
    have HB : Hid (parB (cutC 32 l) = (ok7 && (R7.isEmpty && fineC cc))) := Lib.hid (by
      rw [HB1.out]
      cases hok : ok7 with
      | false => rfl
      | true => rw [HPC.out hok])
    rw [h7, o7] at HR7
    clear hcc h7 o7 hV HB1 HEe
    obtain ⟨p7, q7, hb7, _⟩ := HR7.out.lies
    have c70 : w7.cell? ⟨g, 0, none⟩ = some (.slice p7 R7.length q7) := hb7.cell 0
    have c71 : w7.cell? ⟨g, 1, none⟩ = some (.bool ok7) := hb7.cell 1
    clear hb7
    have z0 : w7.cell? ⟨g0, 0, none⟩ = some (.bool false) := HZ7.out.cell 0
    have r0 := HZ7.out.frozen 0
    have z1 : w7.cell? ⟨g0, 1, none⟩ = some (.int .u32 0) := HZ7.out.cell 1
    have r1 := HZ7.out.frozen 1
    have z2 : w7.cell? ⟨g0, 2, none⟩ = some (.int .i64 0) := HZ7.out.cell 2
    have r2 := HZ7.out.frozen 2
    have z3 : w7.cell? ⟨g0, 3, none⟩ = some (.int .i64 0) := HZ7.out.cell 3
    have r3 := HZ7.out.frozen 3
    have z4 : w7.cell? ⟨g0, 4, none⟩ = some (.int .u32 0) := HZ7.out.cell 4
    have r4 := HZ7.out.frozen 4
    have z5 : w7.cell? ⟨g0, 5, none⟩ = some (.int .i64 0) := HZ7.out.cell 5
    have r5 := HZ7.out.frozen 5
    have z6 : w7.cell? ⟨g0, 6, none⟩ = some (.int .i64 0) := HZ7.out.cell 6
    have r6 := HZ7.out.frozen 6
    have z7 : w7.cell? ⟨g0, 7, none⟩ = some (.float .f64 0) := HZ7.out.cell 7
    have r7 := HZ7.out.frozen 7
    have z8 : w7.cell? ⟨g0, 8, none⟩ = some (.float .f64 0) := HZ7.out.cell 8
    have r8 := HZ7.out.frozen 8
    have z9 : w7.cell? ⟨g0, 9, none⟩ = some (.bool false) := HZ7.out.cell 9
    have r9 := HZ7.out.frozen 9
    have z10 : w7.cell? ⟨g0, 10, none⟩ = some (.int .i64 0) := HZ7.out.cell 10
    have r10 := HZ7.out.frozen 10
    have z11 : w7.cell? ⟨g0, 11, none⟩ = some (.int .i64 0) := HZ7.out.cell 11
    have r11 := HZ7.out.frozen 11
    have z12 : w7.cell? ⟨g0, 12, none⟩ = some (.int .i64 0) := HZ7.out.cell 12
    have r12 := HZ7.out.frozen 12
    have z13 : w7.cell? ⟨g0, 13, none⟩ = some (.int .u32 0) := HZ7.out.cell 13
    have r13 := HZ7.out.frozen 13
    cases ok7 with
    | false =>
      have HB0 : Hid (parB (cutC 32 l) = false) := Lib.hid (by rw [HB.out]; rfl)
      go_wp2_with fail
      have hA := set_cm zC HZ7.out
      have hAF := set_cm_fr (w := w7) (g := g0) (P := fun k => k = g0) zC rfl
      have hAB := HF7.out.trans (hAF.below (B := w.heap.size) HF7.out.size (fun k hk => by have := HG0.out; omega))
      (try simp only [Exit.inBlock, Exit.then])
      refine bodyPost_ret (Vw.results_cell_row2 (p := 2) (u := 3) (ty := 27) rfl _ _ g0 27 _ _ _ rfl hA.heap Tryz.underlying27 rfl (by kernel_rfl)) rfl ?_
      exact ⟨parV_no HB0.out, hAB⟩
    | true =>
      cases R7 with
      | cons x r =>
        have HB0 : Hid (parB (cutC 32 l) = false) := Lib.hid (by rw [HB.out]; rfl)
        have hlen : (0 : Int) < ((r.length + 1 : Nat) : Int) := by omega
        rw [List.length_cons] at c70
        go_wp2_with fail
        have hA := set_cm zC HZ7.out
        have hAF := set_cm_fr (w := w7) (g := g0) (P := fun k => k = g0) zC rfl
        have hAB := HF7.out.trans (hAF.below (B := w.heap.size) HF7.out.size (fun k hk => by have := HG0.out; omega))
        (try simp only [Exit.inBlock, Exit.then])
        refine bodyPost_ret (Vw.results_cell_row2 (p := 2) (u := 3) (ty := 27) rfl _ _ g0 27 _ _ _ rfl hA.heap Tryz.underlying27 rfl (by kernel_rfl)) rfl ?_
        exact ⟨parV_no HB0.out, hAB⟩
      | nil =>
        have hcp := HPC.out rfl
        have HPC2 := Lib.hid hcp
        have HLt : Hid (cc.e.rate < 18446744073709551616 ∧ cc.e.income < 18446744073709551616) := Lib.hid (by rw [hcp]; exact HLt.out)
        clear hcp
        have HFi := Lib.hid (Ev.fine_calls cc w7 HLt.out.1 HLt.out.2)
        have k0 : w7.cell? ⟨gc, 0, none⟩ = some (.bool cc.undo) := HC7.out.cell 0
        have k1 : w7.cell? ⟨gc, 1, none⟩ = some (.int .u32 cc.key) := HC7.out.cell 1
        have k2 : w7.cell? ⟨gc, 2, none⟩ = some (.int .i64 cc.e.kind) := HC7.out.cell 2
        have k3 : w7.cell? ⟨gc, 3, none⟩ = some (.int .i64 cc.e.day) := HC7.out.cell 3
        have k4 : w7.cell? ⟨gc, 4, none⟩ = some (.int .u32 cc.e.key) := HC7.out.cell 4
        have k5 : w7.cell? ⟨gc, 5, none⟩ = some (.int .i64 cc.e.loan) := HC7.out.cell 5
        have k6 : w7.cell? ⟨gc, 6, none⟩ = some (.int .i64 cc.e.amount) := HC7.out.cell 6
        have k7 : w7.cell? ⟨gc, 7, none⟩ = some (.float .f64 cc.e.rate) := HC7.out.cell 7
        have k8 : w7.cell? ⟨gc, 8, none⟩ = some (.float .f64 cc.e.income) := HC7.out.cell 8
        have k9 : w7.cell? ⟨gc, 9, none⟩ = some (.bool cc.e.sub) := HC7.out.cell 9
        have k10 : w7.cell? ⟨gc, 10, none⟩ = some (.int .i64 cc.e.status) := HC7.out.cell 10
        have k11 : w7.cell? ⟨gc, 11, none⟩ = some (.int .i64 cc.e.plan) := HC7.out.cell 11
        have k12 : w7.cell? ⟨gc, 12, none⟩ = some (.int .i64 cc.e.family) := HC7.out.cell 12
        have k13 : w7.cell? ⟨gc, 13, none⟩ = some (.int .u32 cc.of) := HC7.out.cell 13
        have hst := hst0
        rw [List.length_nil] at c70
        go_wp2_with fail
        refine HFi.out.mono ?_
        rintro r w8 ⟨rfl, hb8⟩
        have HZ8 := Lib.hid (HZ7.out.below hb8)
        have HC8 := Lib.hid (HC7.out.below hb8)
        have HF8 := Lib.hid (HF7.out.trans (hb8.mono HF7.out.size))
        clear hb8 z0 r0 z1 r1 z2 r2 z3 r3 z4 r4 z5 r5 z6 r6 z7 r7 z8 r8 z9 r9 z10 r10 z11 r11 z12 r12 z13 r13 k0 k1 k2 k3 k4 k5 k6 k7 k8 k9 k10 k11 k12 k13
        have z0 : w8.cell? ⟨g0, 0, none⟩ = some (.bool false) := HZ8.out.cell 0
        have r0 := HZ8.out.frozen 0
        have z1 : w8.cell? ⟨g0, 1, none⟩ = some (.int .u32 0) := HZ8.out.cell 1
        have r1 := HZ8.out.frozen 1
        have z2 : w8.cell? ⟨g0, 2, none⟩ = some (.int .i64 0) := HZ8.out.cell 2
        have r2 := HZ8.out.frozen 2
        have z3 : w8.cell? ⟨g0, 3, none⟩ = some (.int .i64 0) := HZ8.out.cell 3
        have r3 := HZ8.out.frozen 3
        have z4 : w8.cell? ⟨g0, 4, none⟩ = some (.int .u32 0) := HZ8.out.cell 4
        have r4 := HZ8.out.frozen 4
        have z5 : w8.cell? ⟨g0, 5, none⟩ = some (.int .i64 0) := HZ8.out.cell 5
        have r5 := HZ8.out.frozen 5
        have z6 : w8.cell? ⟨g0, 6, none⟩ = some (.int .i64 0) := HZ8.out.cell 6
        have r6 := HZ8.out.frozen 6
        have z7 : w8.cell? ⟨g0, 7, none⟩ = some (.float .f64 0) := HZ8.out.cell 7
        have r7 := HZ8.out.frozen 7
        have z8 : w8.cell? ⟨g0, 8, none⟩ = some (.float .f64 0) := HZ8.out.cell 8
        have r8 := HZ8.out.frozen 8
        have z9 : w8.cell? ⟨g0, 9, none⟩ = some (.bool false) := HZ8.out.cell 9
        have r9 := HZ8.out.frozen 9
        have z10 : w8.cell? ⟨g0, 10, none⟩ = some (.int .i64 0) := HZ8.out.cell 10
        have r10 := HZ8.out.frozen 10
        have z11 : w8.cell? ⟨g0, 11, none⟩ = some (.int .i64 0) := HZ8.out.cell 11
        have r11 := HZ8.out.frozen 11
        have z12 : w8.cell? ⟨g0, 12, none⟩ = some (.int .i64 0) := HZ8.out.cell 12
        have r12 := HZ8.out.frozen 12
        have z13 : w8.cell? ⟨g0, 13, none⟩ = some (.int .u32 0) := HZ8.out.cell 13
        have r13 := HZ8.out.frozen 13
        have k0 : w8.cell? ⟨gc, 0, none⟩ = some (.bool cc.undo) := HC8.out.cell 0
        have k1 : w8.cell? ⟨gc, 1, none⟩ = some (.int .u32 cc.key) := HC8.out.cell 1
        have k2 : w8.cell? ⟨gc, 2, none⟩ = some (.int .i64 cc.e.kind) := HC8.out.cell 2
        have k3 : w8.cell? ⟨gc, 3, none⟩ = some (.int .i64 cc.e.day) := HC8.out.cell 3
        have k4 : w8.cell? ⟨gc, 4, none⟩ = some (.int .u32 cc.e.key) := HC8.out.cell 4
        have k5 : w8.cell? ⟨gc, 5, none⟩ = some (.int .i64 cc.e.loan) := HC8.out.cell 5
        have k6 : w8.cell? ⟨gc, 6, none⟩ = some (.int .i64 cc.e.amount) := HC8.out.cell 6
        have k7 : w8.cell? ⟨gc, 7, none⟩ = some (.float .f64 cc.e.rate) := HC8.out.cell 7
        have k8 : w8.cell? ⟨gc, 8, none⟩ = some (.float .f64 cc.e.income) := HC8.out.cell 8
        have k9 : w8.cell? ⟨gc, 9, none⟩ = some (.bool cc.e.sub) := HC8.out.cell 9
        have k10 : w8.cell? ⟨gc, 10, none⟩ = some (.int .i64 cc.e.status) := HC8.out.cell 10
        have k11 : w8.cell? ⟨gc, 11, none⟩ = some (.int .i64 cc.e.plan) := HC8.out.cell 11
        have k12 : w8.cell? ⟨gc, 12, none⟩ = some (.int .i64 cc.e.family) := HC8.out.cell 12
        have k13 : w8.cell? ⟨gc, 13, none⟩ = some (.int .u32 cc.of) := HC8.out.cell 13
        cases hfc : fineC cc with
        | false =>
          have HB0 : Hid (parB (cutC 32 l) = false) := Lib.hid (by rw [HB.out, hfc]; rfl)
          go_wp2_with fail
          have hA := set_cm zC HZ8.out
          have hAF := set_cm_fr (w := w8) (g := g0) (P := fun k => k = g0) zC rfl
          have hAB := HF8.out.trans (hAF.below (B := w.heap.size) HF8.out.size (fun k hk => by have := HG0.out; omega))
          (try simp only [Exit.inBlock, Exit.then])
          refine bodyPost_ret (Vw.results_cell_row2 (p := 2) (u := 3) (ty := 27) rfl _ _ g0 27 _ _ _ rfl hA.heap Tryz.underlying27 rfl (by kernel_rfl)) rfl ?_
          exact ⟨parV_no HB0.out, hAB⟩
        | true =>
          have HB0 : Hid (parB (cutC 32 l) = true) := Lib.hid (by rw [HB.out, hfc]; rfl)
          go_wp2_with fail
          have hA := set_cm cc HZ8.out
          have hAF := set_cm_fr (w := w8) (g := g0) (P := fun k => k = g0) cc rfl
          have hAB := HF8.out.trans (hAF.below (B := w.heap.size) HF8.out.size (fun k hk => by have := HG0.out; omega))
          (try simp only [Exit.inBlock, Exit.then])
          refine bodyPost_ret (Vw.results_cell_row2 (p := 2) (u := 3) (ty := 27) rfl _ _ g0 27 _ _ _ rfl hA.heap Tryz.underlying27 rfl (by kernel_rfl)) rfl ?_
          exact ⟨(fun h => (congrArg Ending.returned (parV_yes _ _ HPC2.out h))) HB0.out, hAB⟩
  | cons x r =>
    rcases hw4.lies with h1 | ⟨b4, off4, rfl, _, _, hc4⟩
    · cases h1
    · have dx : w4.cell? ⟨b4, off4, none⟩ = some (.string (str x)) := hc4 0 x rfl
      have hl1 : (0 : Int) < ((r.length + 1 : Nat) : Int) := by omega
      rw [List.length_cons] at d0
      clear hb4 hbk hw4 hc4
      by_cases q : x = [117, 110, 100, 111]
      · subst q
        have HU : Hid (hd L.tail = [117, 110, 100, 111]) := Lib.hid (by rw [HRt.out]; rfl)
        have HNx := Lib.hid (next_calls g ([117, 110, 100, 111] :: r) KB HShR.out.1 w4 HR4.out)
        go_wp2_with fail
        refine HNx.out.mono ?_
        rintro e w5 ⟨rfl, hR5, hF5⟩
        have HR5 : Hid (Rd w5 g r KB) := Lib.hid (by simpa using hR5)
        have HC5 := Lib.hid (hF5.blk HC4.out (by have := HGc.out; omega))
        have HZ5 := Lib.hid (hF5.blk HZ4.out (by have := HGz.out; omega))
        have HF5 := Lib.hid (HF4.out.trans (hF5.below (B := w.heap.size) HF4.out.size (fun k hk => by rw [hk]; exact HWg.out)))
        have HK5 := Lib.hid (key_calls w.heap.size g r KB HShR.out.tail w5 HR5.out (HGb.out.step HF5.out) HWg.out)
        clear hR5 hF5 d0 dx hl1
        go_wp2_with fail
        refine HK5.out.mono ?_
        rintro e w6 ⟨rfl, hR6, hF6⟩
        have HR6 := Lib.hid hR6
        have HC6 := Lib.hid (hF6.blk HC5.out (by have := HGc.out; omega))
        have HZ6 := Lib.hid (hF6.blk HZ5.out (by have := HGz.out; omega))
        have HF6 := Lib.hid (HF5.out.trans (hF6.below (B := w.heap.size) HF5.out.size (fun k hk => by rw [hk]; exact HWg.out)))
        have u0 : w6.cell? ⟨gc, 0, none⟩ = some (.bool false) := HC6.out.cell 0
        have u13 : w6.cell? ⟨gc, 13, none⟩ = some (.int .u32 0) := HC6.out.cell 13
        have v0 := HC6.out.frozen 0
        have v13 := HC6.out.frozen 13
        clear hR6 hF6
        go_upto_region 7 with fail
        have hfr : Fr (fun k => k = gc) w6 ((w6.setCell ⟨gc, 0, none⟩ (.bool true)).setCell ⟨gc, 13, none⟩ (.int .u32 (keyV (hd r)))) := (Fr.set (P := fun k => k = gc) w6 rfl 0 _).trans (Fr.set (P := fun k => k = gc) _ rfl 13 _)
        have HC7 : Hid (Blk ((w6.setCell ⟨gc, 0, none⟩ (.bool true)).setCell ⟨gc, 13, none⟩ (.int .u32 (keyV (hd r)))) gc 27 (⟨true, K, ⟨0, 0, 0, 0, 0, 0, 0, false, 0, 0, 0⟩, keyV (hd r)⟩ : C).cells) := Lib.hid ((HC6.out.set_ 0 (.bool true)).set_ 13 (.int .u32 (keyV (hd r))))
        have HR7 := Lib.hid (HR6.out.fr hfr (fun k hk => by have := HGc.out; omega))
        have HZ7 := Lib.hid (hfr.blk HZ6.out (by have := HGz.out; have := HGc.out; omega))
        have HF7 := Lib.hid (HF6.out.trans (hfr.below (B := w.heap.size) HF6.out.size (fun k hk => by have := HWg.out; have := HGc.out; omega)))
        clear hfr u0 u13 v0 v13
        generalize (w6.setCell ⟨gc, 0, none⟩ (.bool true)).setCell ⟨gc, 13, none⟩ (.int .u32 (keyV (hd r))) = w7 at *
        obtain ⟨cc, hcc⟩ : ∃ cc : C, cc = ⟨true, K, ⟨0, 0, 0, 0, 0, 0, 0, false, 0, 0, 0⟩, keyV (hd r)⟩ := ⟨_, rfl⟩
        rw [← hcc] at HC7
        have HPr : Hid (parC (cutC 32 l) = (cc, r.tail, KB && keyB (hd r))) := Lib.hid (by rw [HLd.out]; unfold parC; rw [if_pos HU.out, HRt.out, HK.out, HKB.out, hcc]; rfl)
        have HB : Hid (parB (cutC 32 l) = ((KB && keyB (hd r)) && (r.tail.isEmpty && fineC cc))) := Lib.hid (by unfold parB; rw [HPr.out])
        have HPC : Hid ((KB && keyB (hd r)) = true → cc = (parC (cutC 32 l)).1) := Lib.hid (fun _ => by rw [HPr.out])
        clear hcc
        generalize r.tail = R7 at *
        generalize (KB && keyB (hd r)) = ok7 at *
        obtain ⟨p7, q7, hb7, _⟩ := HR7.out.lies
        have c70 : w7.cell? ⟨g, 0, none⟩ = some (.slice p7 R7.length q7) := hb7.cell 0
        have c71 : w7.cell? ⟨g, 1, none⟩ = some (.bool ok7) := hb7.cell 1
        clear hb7
        have z0 : w7.cell? ⟨g0, 0, none⟩ = some (.bool false) := HZ7.out.cell 0
        have r0 := HZ7.out.frozen 0
        have z1 : w7.cell? ⟨g0, 1, none⟩ = some (.int .u32 0) := HZ7.out.cell 1
        have r1 := HZ7.out.frozen 1
        have z2 : w7.cell? ⟨g0, 2, none⟩ = some (.int .i64 0) := HZ7.out.cell 2
        have r2 := HZ7.out.frozen 2
        have z3 : w7.cell? ⟨g0, 3, none⟩ = some (.int .i64 0) := HZ7.out.cell 3
        have r3 := HZ7.out.frozen 3
        have z4 : w7.cell? ⟨g0, 4, none⟩ = some (.int .u32 0) := HZ7.out.cell 4
        have r4 := HZ7.out.frozen 4
        have z5 : w7.cell? ⟨g0, 5, none⟩ = some (.int .i64 0) := HZ7.out.cell 5
        have r5 := HZ7.out.frozen 5
        have z6 : w7.cell? ⟨g0, 6, none⟩ = some (.int .i64 0) := HZ7.out.cell 6
        have r6 := HZ7.out.frozen 6
        have z7 : w7.cell? ⟨g0, 7, none⟩ = some (.float .f64 0) := HZ7.out.cell 7
        have r7 := HZ7.out.frozen 7
        have z8 : w7.cell? ⟨g0, 8, none⟩ = some (.float .f64 0) := HZ7.out.cell 8
        have r8 := HZ7.out.frozen 8
        have z9 : w7.cell? ⟨g0, 9, none⟩ = some (.bool false) := HZ7.out.cell 9
        have r9 := HZ7.out.frozen 9
        have z10 : w7.cell? ⟨g0, 10, none⟩ = some (.int .i64 0) := HZ7.out.cell 10
        have r10 := HZ7.out.frozen 10
        have z11 : w7.cell? ⟨g0, 11, none⟩ = some (.int .i64 0) := HZ7.out.cell 11
        have r11 := HZ7.out.frozen 11
        have z12 : w7.cell? ⟨g0, 12, none⟩ = some (.int .i64 0) := HZ7.out.cell 12
        have r12 := HZ7.out.frozen 12
        have z13 : w7.cell? ⟨g0, 13, none⟩ = some (.int .u32 0) := HZ7.out.cell 13
        have r13 := HZ7.out.frozen 13
        cases ok7 with
        | false =>
          have HB0 : Hid (parB (cutC 32 l) = false) := Lib.hid (by rw [HB.out]; rfl)
          go_wp2_with fail
          have hA := set_cm zC HZ7.out
          have hAF := set_cm_fr (w := w7) (g := g0) (P := fun k => k = g0) zC rfl
          have hAB := HF7.out.trans (hAF.below (B := w.heap.size) HF7.out.size (fun k hk => by have := HG0.out; omega))
          (try simp only [Exit.inBlock, Exit.then])
          refine bodyPost_ret (Vw.results_cell_row2 (p := 2) (u := 3) (ty := 27) rfl _ _ g0 27 _ _ _ rfl hA.heap Tryz.underlying27 rfl (by kernel_rfl)) rfl ?_
          exact ⟨parV_no HB0.out, hAB⟩
        | true =>
          cases R7 with
          | cons x r =>
            have HB0 : Hid (parB (cutC 32 l) = false) := Lib.hid (by rw [HB.out]; rfl)
            have hlen : (0 : Int) < ((r.length + 1 : Nat) : Int) := by omega
            rw [List.length_cons] at c70
            go_wp2_with fail
            have hA := set_cm zC HZ7.out
            have hAF := set_cm_fr (w := w7) (g := g0) (P := fun k => k = g0) zC rfl
            have hAB := HF7.out.trans (hAF.below (B := w.heap.size) HF7.out.size (fun k hk => by have := HG0.out; omega))
            (try simp only [Exit.inBlock, Exit.then])
            refine bodyPost_ret (Vw.results_cell_row2 (p := 2) (u := 3) (ty := 27) rfl _ _ g0 27 _ _ _ rfl hA.heap Tryz.underlying27 rfl (by kernel_rfl)) rfl ?_
            exact ⟨parV_no HB0.out, hAB⟩
          | nil =>
            have hcp := HPC.out rfl
            have HPC2 := Lib.hid hcp
            have HLt : Hid (cc.e.rate < 18446744073709551616 ∧ cc.e.income < 18446744073709551616) := Lib.hid (by rw [hcp]; exact HLt.out)
            clear hcp
            have HFi := Lib.hid (Ev.fine_calls cc w7 HLt.out.1 HLt.out.2)
            have k0 : w7.cell? ⟨gc, 0, none⟩ = some (.bool cc.undo) := HC7.out.cell 0
            have k1 : w7.cell? ⟨gc, 1, none⟩ = some (.int .u32 cc.key) := HC7.out.cell 1
            have k2 : w7.cell? ⟨gc, 2, none⟩ = some (.int .i64 cc.e.kind) := HC7.out.cell 2
            have k3 : w7.cell? ⟨gc, 3, none⟩ = some (.int .i64 cc.e.day) := HC7.out.cell 3
            have k4 : w7.cell? ⟨gc, 4, none⟩ = some (.int .u32 cc.e.key) := HC7.out.cell 4
            have k5 : w7.cell? ⟨gc, 5, none⟩ = some (.int .i64 cc.e.loan) := HC7.out.cell 5
            have k6 : w7.cell? ⟨gc, 6, none⟩ = some (.int .i64 cc.e.amount) := HC7.out.cell 6
            have k7 : w7.cell? ⟨gc, 7, none⟩ = some (.float .f64 cc.e.rate) := HC7.out.cell 7
            have k8 : w7.cell? ⟨gc, 8, none⟩ = some (.float .f64 cc.e.income) := HC7.out.cell 8
            have k9 : w7.cell? ⟨gc, 9, none⟩ = some (.bool cc.e.sub) := HC7.out.cell 9
            have k10 : w7.cell? ⟨gc, 10, none⟩ = some (.int .i64 cc.e.status) := HC7.out.cell 10
            have k11 : w7.cell? ⟨gc, 11, none⟩ = some (.int .i64 cc.e.plan) := HC7.out.cell 11
            have k12 : w7.cell? ⟨gc, 12, none⟩ = some (.int .i64 cc.e.family) := HC7.out.cell 12
            have k13 : w7.cell? ⟨gc, 13, none⟩ = some (.int .u32 cc.of) := HC7.out.cell 13
            have hst := hst0
            rw [List.length_nil] at c70
            go_wp2_with fail
            refine HFi.out.mono ?_
            rintro r w8 ⟨rfl, hb8⟩
            have HZ8 := Lib.hid (HZ7.out.below hb8)
            have HC8 := Lib.hid (HC7.out.below hb8)
            have HF8 := Lib.hid (HF7.out.trans (hb8.mono HF7.out.size))
            clear hb8 z0 r0 z1 r1 z2 r2 z3 r3 z4 r4 z5 r5 z6 r6 z7 r7 z8 r8 z9 r9 z10 r10 z11 r11 z12 r12 z13 r13 k0 k1 k2 k3 k4 k5 k6 k7 k8 k9 k10 k11 k12 k13
            have z0 : w8.cell? ⟨g0, 0, none⟩ = some (.bool false) := HZ8.out.cell 0
            have r0 := HZ8.out.frozen 0
            have z1 : w8.cell? ⟨g0, 1, none⟩ = some (.int .u32 0) := HZ8.out.cell 1
            have r1 := HZ8.out.frozen 1
            have z2 : w8.cell? ⟨g0, 2, none⟩ = some (.int .i64 0) := HZ8.out.cell 2
            have r2 := HZ8.out.frozen 2
            have z3 : w8.cell? ⟨g0, 3, none⟩ = some (.int .i64 0) := HZ8.out.cell 3
            have r3 := HZ8.out.frozen 3
            have z4 : w8.cell? ⟨g0, 4, none⟩ = some (.int .u32 0) := HZ8.out.cell 4
            have r4 := HZ8.out.frozen 4
            have z5 : w8.cell? ⟨g0, 5, none⟩ = some (.int .i64 0) := HZ8.out.cell 5
            have r5 := HZ8.out.frozen 5
            have z6 : w8.cell? ⟨g0, 6, none⟩ = some (.int .i64 0) := HZ8.out.cell 6
            have r6 := HZ8.out.frozen 6
            have z7 : w8.cell? ⟨g0, 7, none⟩ = some (.float .f64 0) := HZ8.out.cell 7
            have r7 := HZ8.out.frozen 7
            have z8 : w8.cell? ⟨g0, 8, none⟩ = some (.float .f64 0) := HZ8.out.cell 8
            have r8 := HZ8.out.frozen 8
            have z9 : w8.cell? ⟨g0, 9, none⟩ = some (.bool false) := HZ8.out.cell 9
            have r9 := HZ8.out.frozen 9
            have z10 : w8.cell? ⟨g0, 10, none⟩ = some (.int .i64 0) := HZ8.out.cell 10
            have r10 := HZ8.out.frozen 10
            have z11 : w8.cell? ⟨g0, 11, none⟩ = some (.int .i64 0) := HZ8.out.cell 11
            have r11 := HZ8.out.frozen 11
            have z12 : w8.cell? ⟨g0, 12, none⟩ = some (.int .i64 0) := HZ8.out.cell 12
            have r12 := HZ8.out.frozen 12
            have z13 : w8.cell? ⟨g0, 13, none⟩ = some (.int .u32 0) := HZ8.out.cell 13
            have r13 := HZ8.out.frozen 13
            have k0 : w8.cell? ⟨gc, 0, none⟩ = some (.bool cc.undo) := HC8.out.cell 0
            have k1 : w8.cell? ⟨gc, 1, none⟩ = some (.int .u32 cc.key) := HC8.out.cell 1
            have k2 : w8.cell? ⟨gc, 2, none⟩ = some (.int .i64 cc.e.kind) := HC8.out.cell 2
            have k3 : w8.cell? ⟨gc, 3, none⟩ = some (.int .i64 cc.e.day) := HC8.out.cell 3
            have k4 : w8.cell? ⟨gc, 4, none⟩ = some (.int .u32 cc.e.key) := HC8.out.cell 4
            have k5 : w8.cell? ⟨gc, 5, none⟩ = some (.int .i64 cc.e.loan) := HC8.out.cell 5
            have k6 : w8.cell? ⟨gc, 6, none⟩ = some (.int .i64 cc.e.amount) := HC8.out.cell 6
            have k7 : w8.cell? ⟨gc, 7, none⟩ = some (.float .f64 cc.e.rate) := HC8.out.cell 7
            have k8 : w8.cell? ⟨gc, 8, none⟩ = some (.float .f64 cc.e.income) := HC8.out.cell 8
            have k9 : w8.cell? ⟨gc, 9, none⟩ = some (.bool cc.e.sub) := HC8.out.cell 9
            have k10 : w8.cell? ⟨gc, 10, none⟩ = some (.int .i64 cc.e.status) := HC8.out.cell 10
            have k11 : w8.cell? ⟨gc, 11, none⟩ = some (.int .i64 cc.e.plan) := HC8.out.cell 11
            have k12 : w8.cell? ⟨gc, 12, none⟩ = some (.int .i64 cc.e.family) := HC8.out.cell 12
            have k13 : w8.cell? ⟨gc, 13, none⟩ = some (.int .u32 cc.of) := HC8.out.cell 13
            cases hfc : fineC cc with
            | false =>
              have HB0 : Hid (parB (cutC 32 l) = false) := Lib.hid (by rw [HB.out, hfc]; rfl)
              go_wp2_with fail
              have hA := set_cm zC HZ8.out
              have hAF := set_cm_fr (w := w8) (g := g0) (P := fun k => k = g0) zC rfl
              have hAB := HF8.out.trans (hAF.below (B := w.heap.size) HF8.out.size (fun k hk => by have := HG0.out; omega))
              (try simp only [Exit.inBlock, Exit.then])
              refine bodyPost_ret (Vw.results_cell_row2 (p := 2) (u := 3) (ty := 27) rfl _ _ g0 27 _ _ _ rfl hA.heap Tryz.underlying27 rfl (by kernel_rfl)) rfl ?_
              exact ⟨parV_no HB0.out, hAB⟩
            | true =>
              have HB0 : Hid (parB (cutC 32 l) = true) := Lib.hid (by rw [HB.out, hfc]; rfl)
              go_wp2_with fail
              have hA := set_cm cc HZ8.out
              have hAF := set_cm_fr (w := w8) (g := g0) (P := fun k => k = g0) cc rfl
              have hAB := HF8.out.trans (hAF.below (B := w.heap.size) HF8.out.size (fun k hk => by have := HG0.out; omega))
              (try simp only [Exit.inBlock, Exit.then])
              refine bodyPost_ret (Vw.results_cell_row2 (p := 2) (u := 3) (ty := 27) rfl _ _ g0 27 _ _ _ rfl hA.heap Tryz.underlying27 rfl (by kernel_rfl)) rfl ?_
              exact ⟨(fun h => (congrArg Ending.returned (parV_yes _ _ HPC2.out h))) HB0.out, hAB⟩
      · have HU : Hid (¬ hd L.tail = [117, 110, 100, 111]) := Lib.hid (by rw [HRt.out]; exact q)
        have q2 : (x == [117, 110, 100, 111]) = false := beq_eq_false_iff_ne.mpr q
        have d2 : ((str x).toList == (str [117, 110, 100, 111]).toList) = false := by rw [beq_str]; exact decide_eq_false q
        go_upto_region 6 with fail
        have HEv := Lib.hid (event_calls w.heap.size g (x :: r) KB K HShR.out w4 HR4.out (HGb.out.step HF4.out) (fun W hB => HTb.out W (HF4.out.trans hB)) HWg.out)
        have k1 : w4.cell? ⟨gc, 1, none⟩ = some (.int .u32 K) := HC4.out.cell 1
        clear d0
        go_wp2_with fail
        refine HEv.out.mono ?_
        rintro e2 w6 ⟨ev, rfl, hR6, hF6, hev⟩
        have HR6 := Lib.hid hR6
        have HC6 := Lib.hid (hF6.blk HC4.out (by have := HGc.out; omega))
        have HZ6 := Lib.hid (hF6.blk HZ4.out (by have := HGz.out; omega))
        have HF6 := Lib.hid (HF4.out.trans (hF6.below (B := w.heap.size) HF4.out.size (fun k hk => by rw [hk]; exact HWg.out)))
        have HEe := Lib.hid hev
        clear hR6 hF6 hev k1
        have u0 : w6.cell? ⟨gc, 2, none⟩ = some (.int .i64 0) := HC6.out.cell 2
        have v0 := HC6.out.frozen 2
        have u1 : w6.cell? ⟨gc, 3, none⟩ = some (.int .i64 0) := HC6.out.cell 3
        have v1 := HC6.out.frozen 3
        have u2 : w6.cell? ⟨gc, 4, none⟩ = some (.int .u32 0) := HC6.out.cell 4
        have v2 := HC6.out.frozen 4
        have u3 : w6.cell? ⟨gc, 5, none⟩ = some (.int .i64 0) := HC6.out.cell 5
        have v3 := HC6.out.frozen 5
        have u4 : w6.cell? ⟨gc, 6, none⟩ = some (.int .i64 0) := HC6.out.cell 6
        have v4 := HC6.out.frozen 6
        have u5 : w6.cell? ⟨gc, 7, none⟩ = some (.float .f64 0) := HC6.out.cell 7
        have v5 := HC6.out.frozen 7
        have u6 : w6.cell? ⟨gc, 8, none⟩ = some (.float .f64 0) := HC6.out.cell 8
        have v6 := HC6.out.frozen 8
        have u7 : w6.cell? ⟨gc, 9, none⟩ = some (.bool false) := HC6.out.cell 9
        have v7 := HC6.out.frozen 9
        have u8 : w6.cell? ⟨gc, 10, none⟩ = some (.int .i64 0) := HC6.out.cell 10
        have v8 := HC6.out.frozen 10
        have u9 : w6.cell? ⟨gc, 11, none⟩ = some (.int .i64 0) := HC6.out.cell 11
        have v9 := HC6.out.frozen 11
        have u10 : w6.cell? ⟨gc, 12, none⟩ = some (.int .i64 0) := HC6.out.cell 12
        have v10 := HC6.out.frozen 12
        have hst := hst0
        go_upto_region 7 with fail
        have hfr := set_in_fr (w := w6) (g := gc) (P := fun k => k = gc) ev rfl
        have HC7 := Lib.hid (set_in ev HC6.out)
        have HR7 := Lib.hid (HR6.out.fr hfr (fun k hk => by have := HGc.out; omega))
        have HZ7 := Lib.hid (hfr.blk HZ6.out (by have := HGz.out; have := HGc.out; omega))
        have HF7 := Lib.hid (HF6.out.trans (hfr.below (B := w.heap.size) HF6.out.size (fun k hk => by have := HWg.out; have := HGc.out; omega)))
        clear hfr u0 v0 u1 v1 u2 v2 u3 v3 u4 v4 u5 v5 u6 v6 u7 v7 u8 v8 u9 v9 u10 v10
        change Code.wp _ _ _ _ (((((((((((w6.setCell ⟨gc, 2, none⟩ (.int .i64 ev.kind)).setCell ⟨gc, 3, none⟩ (.int .i64 ev.day)).setCell ⟨gc, 4, none⟩ (.int .u32 ev.key)).setCell ⟨gc, 5, none⟩ (.int .i64 ev.loan)).setCell ⟨gc, 6, none⟩ (.int .i64 ev.amount)).setCell ⟨gc, 7, none⟩ (.float .f64 ev.rate)).setCell ⟨gc, 8, none⟩ (.float .f64 ev.income)).setCell ⟨gc, 9, none⟩ (.bool ev.sub)).setCell ⟨gc, 10, none⟩ (.int .i64 ev.status)).setCell ⟨gc, 11, none⟩ (.int .i64 ev.plan)).setCell ⟨gc, 12, none⟩ (.int .i64 ev.family))
        generalize (((((((((((w6.setCell ⟨gc, 2, none⟩ (.int .i64 ev.kind)).setCell ⟨gc, 3, none⟩ (.int .i64 ev.day)).setCell ⟨gc, 4, none⟩ (.int .u32 ev.key)).setCell ⟨gc, 5, none⟩ (.int .i64 ev.loan)).setCell ⟨gc, 6, none⟩ (.int .i64 ev.amount)).setCell ⟨gc, 7, none⟩ (.float .f64 ev.rate)).setCell ⟨gc, 8, none⟩ (.float .f64 ev.income)).setCell ⟨gc, 9, none⟩ (.bool ev.sub)).setCell ⟨gc, 10, none⟩ (.int .i64 ev.status)).setCell ⟨gc, 11, none⟩ (.int .i64 ev.plan)).setCell ⟨gc, 12, none⟩ (.int .i64 ev.family)) = w7 at *
        obtain ⟨cc, hcc⟩ : ∃ cc : C, cc = ⟨false, K, ev, 0⟩ := ⟨_, rfl⟩
        have HC7' : Hid (Blk w7 gc 27 cc.cells) := Lib.hid (by rw [hcc]; exact HC7.out)
        have HC7 := HC7'
        obtain ⟨V, hV⟩ : ∃ V, evR K (x :: r) KB = V := ⟨_, rfl⟩
        rw [hV] at HR7 HEe
        have HPr : Hid (parC (cutC 32 l) = (⟨false, K, V.1, 0⟩, V.2.1, V.2.2)) := Lib.hid (by rw [HLd.out]; unfold parC; rw [if_neg HU.out, HRt.out, HK.out, HKB.out, hV])
        obtain ⟨R7, h7⟩ : ∃ R7, V.2.1 = R7 := ⟨_, rfl⟩
        obtain ⟨ok7, o7⟩ : ∃ ok7, V.2.2 = ok7 := ⟨_, rfl⟩
        have HB1 : Hid (parB (cutC 32 l) = (ok7 && (R7.isEmpty && fineC (parC (cutC 32 l)).1))) := Lib.hid (by unfold parB; rw [HPr.out, ← h7, ← o7])
        have HPC : Hid (ok7 = true → cc = (parC (cutC 32 l)).1) := Lib.hid (fun h => by rw [HPr.out, hcc, HEe.out (by rw [o7]; exact h)])
        have HB : Hid (parB (cutC 32 l) = (ok7 && (R7.isEmpty && fineC cc))) := Lib.hid (by
          rw [HB1.out]
          cases hok : ok7 with
          | false => rfl
          | true => rw [HPC.out hok])
        rw [h7, o7] at HR7
        clear hcc h7 o7 hV HB1 HEe
        obtain ⟨p7, q7, hb7, _⟩ := HR7.out.lies
        have c70 : w7.cell? ⟨g, 0, none⟩ = some (.slice p7 R7.length q7) := hb7.cell 0
        have c71 : w7.cell? ⟨g, 1, none⟩ = some (.bool ok7) := hb7.cell 1
        clear hb7
        have z0 : w7.cell? ⟨g0, 0, none⟩ = some (.bool false) := HZ7.out.cell 0
        have r0 := HZ7.out.frozen 0
        have z1 : w7.cell? ⟨g0, 1, none⟩ = some (.int .u32 0) := HZ7.out.cell 1
        have r1 := HZ7.out.frozen 1
        have z2 : w7.cell? ⟨g0, 2, none⟩ = some (.int .i64 0) := HZ7.out.cell 2
        have r2 := HZ7.out.frozen 2
        have z3 : w7.cell? ⟨g0, 3, none⟩ = some (.int .i64 0) := HZ7.out.cell 3
        have r3 := HZ7.out.frozen 3
        have z4 : w7.cell? ⟨g0, 4, none⟩ = some (.int .u32 0) := HZ7.out.cell 4
        have r4 := HZ7.out.frozen 4
        have z5 : w7.cell? ⟨g0, 5, none⟩ = some (.int .i64 0) := HZ7.out.cell 5
        have r5 := HZ7.out.frozen 5
        have z6 : w7.cell? ⟨g0, 6, none⟩ = some (.int .i64 0) := HZ7.out.cell 6
        have r6 := HZ7.out.frozen 6
        have z7 : w7.cell? ⟨g0, 7, none⟩ = some (.float .f64 0) := HZ7.out.cell 7
        have r7 := HZ7.out.frozen 7
        have z8 : w7.cell? ⟨g0, 8, none⟩ = some (.float .f64 0) := HZ7.out.cell 8
        have r8 := HZ7.out.frozen 8
        have z9 : w7.cell? ⟨g0, 9, none⟩ = some (.bool false) := HZ7.out.cell 9
        have r9 := HZ7.out.frozen 9
        have z10 : w7.cell? ⟨g0, 10, none⟩ = some (.int .i64 0) := HZ7.out.cell 10
        have r10 := HZ7.out.frozen 10
        have z11 : w7.cell? ⟨g0, 11, none⟩ = some (.int .i64 0) := HZ7.out.cell 11
        have r11 := HZ7.out.frozen 11
        have z12 : w7.cell? ⟨g0, 12, none⟩ = some (.int .i64 0) := HZ7.out.cell 12
        have r12 := HZ7.out.frozen 12
        have z13 : w7.cell? ⟨g0, 13, none⟩ = some (.int .u32 0) := HZ7.out.cell 13
        have r13 := HZ7.out.frozen 13
        cases ok7 with
        | false =>
          have HB0 : Hid (parB (cutC 32 l) = false) := Lib.hid (by rw [HB.out]; rfl)
          go_wp2_with fail
          have hA := set_cm zC HZ7.out
          have hAF := set_cm_fr (w := w7) (g := g0) (P := fun k => k = g0) zC rfl
          have hAB := HF7.out.trans (hAF.below (B := w.heap.size) HF7.out.size (fun k hk => by have := HG0.out; omega))
          (try simp only [Exit.inBlock, Exit.then])
          refine bodyPost_ret (Vw.results_cell_row2 (p := 2) (u := 3) (ty := 27) rfl _ _ g0 27 _ _ _ rfl hA.heap Tryz.underlying27 rfl (by kernel_rfl)) rfl ?_
          exact ⟨parV_no HB0.out, hAB⟩
        | true =>
          cases R7 with
          | cons x r =>
            have HB0 : Hid (parB (cutC 32 l) = false) := Lib.hid (by rw [HB.out]; rfl)
            have hlen : (0 : Int) < ((r.length + 1 : Nat) : Int) := by omega
            rw [List.length_cons] at c70
            go_wp2_with fail
            have hA := set_cm zC HZ7.out
            have hAF := set_cm_fr (w := w7) (g := g0) (P := fun k => k = g0) zC rfl
            have hAB := HF7.out.trans (hAF.below (B := w.heap.size) HF7.out.size (fun k hk => by have := HG0.out; omega))
            (try simp only [Exit.inBlock, Exit.then])
            refine bodyPost_ret (Vw.results_cell_row2 (p := 2) (u := 3) (ty := 27) rfl _ _ g0 27 _ _ _ rfl hA.heap Tryz.underlying27 rfl (by kernel_rfl)) rfl ?_
            exact ⟨parV_no HB0.out, hAB⟩
          | nil =>
            have hcp := HPC.out rfl
            have HPC2 := Lib.hid hcp
            have HLt : Hid (cc.e.rate < 18446744073709551616 ∧ cc.e.income < 18446744073709551616) := Lib.hid (by rw [hcp]; exact HLt.out)
            clear hcp
            have HFi := Lib.hid (Ev.fine_calls cc w7 HLt.out.1 HLt.out.2)
            have k0 : w7.cell? ⟨gc, 0, none⟩ = some (.bool cc.undo) := HC7.out.cell 0
            have k1 : w7.cell? ⟨gc, 1, none⟩ = some (.int .u32 cc.key) := HC7.out.cell 1
            have k2 : w7.cell? ⟨gc, 2, none⟩ = some (.int .i64 cc.e.kind) := HC7.out.cell 2
            have k3 : w7.cell? ⟨gc, 3, none⟩ = some (.int .i64 cc.e.day) := HC7.out.cell 3
            have k4 : w7.cell? ⟨gc, 4, none⟩ = some (.int .u32 cc.e.key) := HC7.out.cell 4
            have k5 : w7.cell? ⟨gc, 5, none⟩ = some (.int .i64 cc.e.loan) := HC7.out.cell 5
            have k6 : w7.cell? ⟨gc, 6, none⟩ = some (.int .i64 cc.e.amount) := HC7.out.cell 6
            have k7 : w7.cell? ⟨gc, 7, none⟩ = some (.float .f64 cc.e.rate) := HC7.out.cell 7
            have k8 : w7.cell? ⟨gc, 8, none⟩ = some (.float .f64 cc.e.income) := HC7.out.cell 8
            have k9 : w7.cell? ⟨gc, 9, none⟩ = some (.bool cc.e.sub) := HC7.out.cell 9
            have k10 : w7.cell? ⟨gc, 10, none⟩ = some (.int .i64 cc.e.status) := HC7.out.cell 10
            have k11 : w7.cell? ⟨gc, 11, none⟩ = some (.int .i64 cc.e.plan) := HC7.out.cell 11
            have k12 : w7.cell? ⟨gc, 12, none⟩ = some (.int .i64 cc.e.family) := HC7.out.cell 12
            have k13 : w7.cell? ⟨gc, 13, none⟩ = some (.int .u32 cc.of) := HC7.out.cell 13
            have hst := hst0
            rw [List.length_nil] at c70
            go_wp2_with fail
            refine HFi.out.mono ?_
            rintro r w8 ⟨rfl, hb8⟩
            have HZ8 := Lib.hid (HZ7.out.below hb8)
            have HC8 := Lib.hid (HC7.out.below hb8)
            have HF8 := Lib.hid (HF7.out.trans (hb8.mono HF7.out.size))
            clear hb8 z0 r0 z1 r1 z2 r2 z3 r3 z4 r4 z5 r5 z6 r6 z7 r7 z8 r8 z9 r9 z10 r10 z11 r11 z12 r12 z13 r13 k0 k1 k2 k3 k4 k5 k6 k7 k8 k9 k10 k11 k12 k13
            have z0 : w8.cell? ⟨g0, 0, none⟩ = some (.bool false) := HZ8.out.cell 0
            have r0 := HZ8.out.frozen 0
            have z1 : w8.cell? ⟨g0, 1, none⟩ = some (.int .u32 0) := HZ8.out.cell 1
            have r1 := HZ8.out.frozen 1
            have z2 : w8.cell? ⟨g0, 2, none⟩ = some (.int .i64 0) := HZ8.out.cell 2
            have r2 := HZ8.out.frozen 2
            have z3 : w8.cell? ⟨g0, 3, none⟩ = some (.int .i64 0) := HZ8.out.cell 3
            have r3 := HZ8.out.frozen 3
            have z4 : w8.cell? ⟨g0, 4, none⟩ = some (.int .u32 0) := HZ8.out.cell 4
            have r4 := HZ8.out.frozen 4
            have z5 : w8.cell? ⟨g0, 5, none⟩ = some (.int .i64 0) := HZ8.out.cell 5
            have r5 := HZ8.out.frozen 5
            have z6 : w8.cell? ⟨g0, 6, none⟩ = some (.int .i64 0) := HZ8.out.cell 6
            have r6 := HZ8.out.frozen 6
            have z7 : w8.cell? ⟨g0, 7, none⟩ = some (.float .f64 0) := HZ8.out.cell 7
            have r7 := HZ8.out.frozen 7
            have z8 : w8.cell? ⟨g0, 8, none⟩ = some (.float .f64 0) := HZ8.out.cell 8
            have r8 := HZ8.out.frozen 8
            have z9 : w8.cell? ⟨g0, 9, none⟩ = some (.bool false) := HZ8.out.cell 9
            have r9 := HZ8.out.frozen 9
            have z10 : w8.cell? ⟨g0, 10, none⟩ = some (.int .i64 0) := HZ8.out.cell 10
            have r10 := HZ8.out.frozen 10
            have z11 : w8.cell? ⟨g0, 11, none⟩ = some (.int .i64 0) := HZ8.out.cell 11
            have r11 := HZ8.out.frozen 11
            have z12 : w8.cell? ⟨g0, 12, none⟩ = some (.int .i64 0) := HZ8.out.cell 12
            have r12 := HZ8.out.frozen 12
            have z13 : w8.cell? ⟨g0, 13, none⟩ = some (.int .u32 0) := HZ8.out.cell 13
            have r13 := HZ8.out.frozen 13
            have k0 : w8.cell? ⟨gc, 0, none⟩ = some (.bool cc.undo) := HC8.out.cell 0
            have k1 : w8.cell? ⟨gc, 1, none⟩ = some (.int .u32 cc.key) := HC8.out.cell 1
            have k2 : w8.cell? ⟨gc, 2, none⟩ = some (.int .i64 cc.e.kind) := HC8.out.cell 2
            have k3 : w8.cell? ⟨gc, 3, none⟩ = some (.int .i64 cc.e.day) := HC8.out.cell 3
            have k4 : w8.cell? ⟨gc, 4, none⟩ = some (.int .u32 cc.e.key) := HC8.out.cell 4
            have k5 : w8.cell? ⟨gc, 5, none⟩ = some (.int .i64 cc.e.loan) := HC8.out.cell 5
            have k6 : w8.cell? ⟨gc, 6, none⟩ = some (.int .i64 cc.e.amount) := HC8.out.cell 6
            have k7 : w8.cell? ⟨gc, 7, none⟩ = some (.float .f64 cc.e.rate) := HC8.out.cell 7
            have k8 : w8.cell? ⟨gc, 8, none⟩ = some (.float .f64 cc.e.income) := HC8.out.cell 8
            have k9 : w8.cell? ⟨gc, 9, none⟩ = some (.bool cc.e.sub) := HC8.out.cell 9
            have k10 : w8.cell? ⟨gc, 10, none⟩ = some (.int .i64 cc.e.status) := HC8.out.cell 10
            have k11 : w8.cell? ⟨gc, 11, none⟩ = some (.int .i64 cc.e.plan) := HC8.out.cell 11
            have k12 : w8.cell? ⟨gc, 12, none⟩ = some (.int .i64 cc.e.family) := HC8.out.cell 12
            have k13 : w8.cell? ⟨gc, 13, none⟩ = some (.int .u32 cc.of) := HC8.out.cell 13
            cases hfc : fineC cc with
            | false =>
              have HB0 : Hid (parB (cutC 32 l) = false) := Lib.hid (by rw [HB.out, hfc]; rfl)
              go_wp2_with fail
              have hA := set_cm zC HZ8.out
              have hAF := set_cm_fr (w := w8) (g := g0) (P := fun k => k = g0) zC rfl
              have hAB := HF8.out.trans (hAF.below (B := w.heap.size) HF8.out.size (fun k hk => by have := HG0.out; omega))
              (try simp only [Exit.inBlock, Exit.then])
              refine bodyPost_ret (Vw.results_cell_row2 (p := 2) (u := 3) (ty := 27) rfl _ _ g0 27 _ _ _ rfl hA.heap Tryz.underlying27 rfl (by kernel_rfl)) rfl ?_
              exact ⟨parV_no HB0.out, hAB⟩
            | true =>
              have HB0 : Hid (parB (cutC 32 l) = true) := Lib.hid (by rw [HB.out, hfc]; rfl)
              go_wp2_with fail
              have hA := set_cm cc HZ8.out
              have hAF := set_cm_fr (w := w8) (g := g0) (P := fun k => k = g0) cc rfl
              have hAB := HF8.out.trans (hAF.below (B := w.heap.size) HF8.out.size (fun k hk => by have := HG0.out; omega))
              (try simp only [Exit.inBlock, Exit.then])
              refine bodyPost_ret (Vw.results_cell_row2 (p := 2) (u := 3) (ty := 27) rfl _ _ g0 27 _ _ _ rfl hA.heap Tryz.underlying27 rfl (by kernel_rfl)) rfl ?_
              exact ⟨(fun h => (congrArg Ending.returned (parV_yes _ _ HPC2.out h))) HB0.out, hAB⟩
end Go.Proofs.YtkcjgmicoifhcaaGreatDoor.Cn

/- P6: Lines and commands, plain. -/
namespace Go.Proofs.YtkcjgmicoifhcaaGreatDoor.Cn
open Go.RowKit Go.Sort Go.Lib Go.Shelf
open Vw (Tab str Blk)
open Ev (E C fineC goodE)

abbrev undoL : List UInt8 := [117, 110, 100, 111]
/-- A command's words. -/
noncomputable def wrds (c : C) : List (List UInt8) :=
  if c.undo then [decDigits c.key.toNat, undoL, decDigits c.of.toNat]
  else decDigits c.key.toNat :: Vw.dayL c.e.day :: (cutC 32 (frm c.e.kind c.e.plan).words ++ (frm c.e.kind c.e.plan).has.map (fun x => wordL x.toNat c.e))
theorem word_no {e : E} (h : goodE e = true) : ∀ x ∈ (frm e.kind e.plan).has, (32 : UInt8) ∉ wordL x.toNat e := by
  obtain ⟨_, _, h3⟩ := good_parts e h
  have hf : ∀ {n hi : Int} {b : Bool}, 1 ≤ hi → Ev.fieldB n hi b = true → 0 ≤ n ∧ n ≤ hi := fun {n hi b} hh h => by
    cases b with
    | true => have := field_yes h; omega
    | false => have := field_no h; omega
  have h4 := hf (by decide) h3.loan
  have h5 := hf (by decide) h3.amount
  have h7 : 0 ≤ e.family ∧ e.family ≤ 30 := by
    have h8 := h3.plan
    cases hP : Ev.hasL (Ev.letters e.kind) 112 with
    | true =>
      rw [hP] at h8
      rcases plan_yes h8 with h9 | h9 <;> omega
    | false =>
      rw [hP] at h8
      have := plan_no h8
      omega
  obtain ⟨i, _, hfi, _⟩ := frm_idx e h
  intro x hx
  rcases (has_letters _ (List.mem_of_getElem? hfi)).2 x hx with rfl | rfl | rfl | rfl | rfl | rfl | rfl
  · exact itoa_no (n := e.loan) h4.1 (by omega)
  · exact itoa_no (n := e.amount) h5.1 (by omega)
  · exact hex_no _ 16
  · show (32 : UInt8) ∉ itoa (if e.sub then 1 else 0)
    cases e.sub with
    | true => exact itoa_no (n := 1) (by decide) (by decide)
    | false => exact itoa_no (n := 0) (by decide) (by decide)
  · exact stW_no _
  · exact hex_no _ 16
  · exact itoa_no (n := e.family) h7.1 (by omega)
theorem flat_one : ∀ (L : List (List UInt8)), (∀ x ∈ L, (32 : UInt8) ∉ x) → (L.map (cutC 32)).flatten = L
  | [], _ => rfl
  | x :: r, h => by
    rw [List.map_cons, List.flatten_cons, cutC_none 32 x (h x (by simp)), flat_one r fun y hy => h y (by simp [hy])]
    rfl
/-- A line's words. -/
theorem line_words (c : C) (hf : FitC c) (hy : fineC c = true) : cutC 32 (lnC c) = wrds c := by
  have hk := dec_no c.key.toNat (by have := hf.key; omega)
  cases hu : c.undo with
  | true =>
    have ho := dec_no c.of.toNat (by have := hf.of; omega)
    unfold lnC wrds
    rw [hu]
    simp only [if_true]
    rw [show decDigits c.key.toNat ++ [32, 117, 110, 100, 111, 32] ++ decDigits c.of.toNat = decDigits c.key.toNat ++ 32 :: (undoL ++ 32 :: decDigits c.of.toNat) by simp, cutC_app 32 _ _ hk, cutC_app 32 _ _ (by decide), cutC_none 32 _ ho]
  | false =>
    obtain ⟨_, hge, _⟩ := fine_ev hy hu
    obtain ⟨hd, _⟩ := good_kinds c.e hge
    unfold lnC wrds
    rw [hu]
    simp only [Bool.false_eq_true, if_false]
    rw [cut_join _ (by unfold lnW; simp)]
    unfold lnW
    rw [List.map_append, List.flatten_append, flat_one ((frm c.e.kind c.e.plan).has.map _) (fun x hx => by
      obtain ⟨y, hy, rfl⟩ := List.mem_map.1 hx
      exact word_no hge y hy)]
    simp only [List.map_cons, List.map_nil, List.flatten_cons, List.flatten_nil]
    rw [cutC_none 32 _ hk, cutC_none 32 _ (day_no hd)]
    simp
theorem day_undo {d : Int} (h : 0 ≤ d ∧ d ≤ 87658) : Vw.dayL d ≠ undoL := by
  intro h1
  have := (Vw.days_apart d d h h).2
  rw [h1] at this
  exact absurd this (by decide)
/-- What was written is read; what stands behind stays. -/
theorem par_back (c : C) (hf : FitC c) (hy : fineC c = true) (X : List (List UInt8)) : parC (wrds c ++ X) = (c, X, true) := by
  obtain ⟨h1, h2⟩ := key_dec hf.key.1 hf.key.2
  cases hu : c.undo with
  | true =>
    obtain ⟨h3, h4⟩ := key_dec hf.of.1 hf.of.2
    have hz : c.e = Ev.zeroE := by
      unfold fineC at hy
      rw [hu] at hy
      simpa using hy
    unfold wrds parC
    rw [hu]
    simp only [if_true, List.cons_append, List.nil_append, List.tail_cons]
    rw [if_pos (show hd (undoL :: decDigits c.of.toNat :: X) = undoL from rfl)]
    rw [show hd (decDigits c.key.toNat :: undoL :: decDigits c.of.toNat :: X) = decDigits c.key.toNat from rfl, show hd (decDigits c.of.toNat :: X) = decDigits c.of.toNat from rfl, h1, h2, h3, h4]
    obtain ⟨u, k, e, o⟩ := c
    simp only at hu hz
    subst hu hz
    rfl
  | false =>
    obtain ⟨h3, hge, h4⟩ := fine_ev hy hu
    obtain ⟨hd', _⟩ := good_kinds c.e hge
    have h5 := ev_back c.e hge hf.rate hf.income X
    unfold wrds parC
    rw [hu]
    simp only [Bool.false_eq_true, if_false, List.cons_append, List.tail_cons]
    rw [if_neg (show ¬ hd (Vw.dayL c.e.day :: _) = undoL from day_undo hd')]
    rw [show hd (decDigits c.key.toNat :: _) = decDigits c.key.toNat from rfl, h1, h2, ← h4, List.append_assoc, h5]
    obtain ⟨u, k, e, o⟩ := c
    simp only at hu h3 h4
    subst hu h3 h4
    rfl
theorem line_par (c : C) (hf : FitC c) (hy : fineC c = true) : parB (cutC 32 (lnC c)) = true ∧ (parC (cutC 32 (lnC c))).1 = c := by
  have h := par_back c hf hy []
  rw [List.append_nil] at h
  rw [line_words c hf hy]
  unfold parB
  rw [h]
  exact ⟨by rw [hy]; rfl, rfl⟩
end Go.Proofs.YtkcjgmicoifhcaaGreatDoor.Cn
